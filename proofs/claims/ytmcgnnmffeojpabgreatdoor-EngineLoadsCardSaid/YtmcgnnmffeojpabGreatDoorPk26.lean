import Derived.Test.YtmcgnnmffeojpabGreatDoorPk23
import Derived.Test.YtmcgnnmffeojpabGreatDoorPk24
import Derived.Test.YtmcgnnmffeojpabGreatDoorPk25
import Derived.Deep.DeepCutAuto
import Derived.Deep.CutBlock
import Derived.Lib.AtoiErrMem
set_option maxRecDepth 100000
set_option maxHeartbeats 8000000
namespace Go.Proofs.YtmcgnnmffeojpabGreatDoor
open Go.RowKit Go.Plan
theorem zon {w:World} {P M:Nat} {lo hi md:Int} {st:JSt} (hJ:JIs w P M (.slice none 0 0) (.slice none 0 0) lo hi md st) (ha:st.a = []) (hb:st.b = []) :
 EIs (w.alloc (.cells #[.int .i64 lo,.int .i64 hi,.int .i64 md,.pointer (some ⟨P,0,none⟩),.map none,.int .i64 0,.map none,.int .i64 0,.int .i64 0] 109)) w.heap.size P M (.slice none 0 0) (.slice none 0 0) none none [] lo hi md st [] [] 0 0:=by
 have hf:∀ q,(w.alloc (.cells #[.int .i64 lo,.int .i64 hi,.int .i64 md,.pointer (some ⟨P,0,none⟩),.map none,.int .i64 0,.map none,.int .i64 0,.int .i64 0] 109)).frozen? ⟨w.heap.size,q,none⟩ = false:=fun q=>by rw [Go.RowKit.frozen?_alloc_cells];simp [World.frozen?]
 have hlt:∀ k,zaE P M (.slice none 0 0) (.slice none 0 0) k -> k < w.heap.size:=fun k hk=>hJ.foot k hk
 refine ⟨by go_simp,by go_simp,by go_simp,by go_simp,⟨by go_simp,by go_simp,hf _,hf _,fun _ h=>(nomatch h),.inl ⟨rfl,rfl⟩⟩,⟨by go_simp,hf _,.inl ⟨rfl,rfl⟩,fun _ h=>(nomatch h),List.Pairwise.nil,fun _ h=>(nomatch h),fun _ h=>(nomatch h)⟩,
  za7.nil,by go_simp,by go_simp,hf,hJ.ext ((ExtM.refl _).alloc _),fun k hk=>?_,fun k hk=>(nomatch hk),by rw [ha];exact fun _ h=>(nomatch h),by rw [hb];exact fun _ h=>(nomatch h)⟩
 have:=hlt k hk
 refine ⟨fun e=>?_,fun e=>?_⟩
 . rcases e with e | e
   . omega
   . cases e
 . rcases e with e | e | ⟨_,e,_⟩
   . omega
   . cases e
   . cases e
theorem znc (lo hi md:Int) (w:World) (hc:checkI lo hi md = 0) :
 Calls Tryz.prog 11 #[.agg #[.int .i64 lo,.int .i64 hi,.int .i64 md]] w fun e w'=>∃ E Bs,e = .returned (.tuple #[.pointer (some ⟨E,0,none⟩),.nilIface]) /\ Ext w w' /\ (∀ k,Bs k -> w.heap.size <= k) /\
  EAt w' E Bs lo hi md ⟨[],[],-1099511627777,-1099511627777,0⟩ [] [] 0 0:=by
 have b0:(w.alloc (.cells #[.int .i64 lo,.int .i64 hi,.int .i64 md] 45)).cell? ⟨w.heap.size,0,none⟩ = some (.int .i64 lo):=by go_simp
 have b1:(w.alloc (.cells #[.int .i64 lo,.int .i64 hi,.int .i64 md] 45)).cell? ⟨w.heap.size,1,none⟩ = some (.int .i64 hi):=by go_simp
 have b2:(w.alloc (.cells #[.int .i64 lo,.int .i64 hi,.int .i64 md] 45)).cell? ⟨w.heap.size,2,none⟩ = some (.int .i64 md):=by go_simp
 have lB:w.heap.size < (w.alloc (.cells #[.int .i64 lo,.int .i64 hi,.int .i64 md] 45)).heap.size:=by simp
 have hxa:Ext w (w.alloc (.cells #[.int .i64 lo,.int .i64 hi,.int .i64 md] 45)):=(ExtM.refl _).alloc _;go_enter Tryz.func11,Tryz.ntmps11;go_upto_region 1 with fail;generalize w.alloc (.cells #[.int .i64 lo,.int .i64 hi,.int .i64 md] 45) = w1 at *;go_upto_region 4 with (go_at_call 46;refine (zoP lo hi md _ hc).mono ?_;rintro e w2 ⟨P,M,rfl,hx2,hP,hM,hJ⟩)
 have a0:=(hx2.cell (p:=⟨w.heap.size,0,none⟩) lB (fun h=>h)).trans b0;have a1:=(hx2.cell (p:=⟨w.heap.size,1,none⟩) lB (fun h=>h)).trans b1;have a2:=(hx2.cell (p:=⟨w.heap.size,2,none⟩) lB (fun h=>h)).trans b2;have hs1:=hxa.size;have hs2:=hx2.size;go_wp2_with fail;go_ret2;refine ⟨_,_,rfl,ExtM.trans _ _ _ hxa (ExtM.trans _ _ _ hx2 ((ExtM.refl _).alloc _)),fun k hk=>?_,P,M,_,_,none,none,[],zon hJ rfl rfl,rfl⟩;rcases hk with (hk | hk | hk | hk) | (hk | hk) | (hk | hk | ⟨_,hk,_⟩)
 . omega
 . omega
 . cases hk
 . cases hk
 . omega
 . cases hk
 . omega
 . cases hk
 . cases hk
def zrT (m:List (Out × Value)) (l:List Out):Prop:=∀ x,(mlook m x).getD (.int .i64 0) = .int .i64 (l.count x)
def rowL (r:Row):List Value:=[.int .i64 r.k,.int .i64 r.t,.int .i64 r.v]
def TRow (w:World) (b:Nat) (v:Value) (l:List Row):Prop:=w.ownsRow b 37 3 v l.length (l.flatMap rowL)
structure zq6 (u:World) (T F E:Nat) (lo hi md:Int) (v0 v1:Value) (x0 x1:Int):Prop where
 c0:u.cell? ⟨T,0,none⟩ = some (.pointer (some ⟨E,0,none⟩))
 c1:u.cell? ⟨T,1,none⟩ = some (.int .i64 lo)
 c2:u.cell? ⟨T,2,none⟩ = some (.int .i64 hi)
 c3:u.cell? ⟨T,3,none⟩ = some (.int .i64 md)
 c4:u.cell? ⟨T,4,none⟩ = some v0
 c5:u.cell? ⟨T,5,none⟩ = some v1
 c6:u.cell? ⟨T,6,none⟩ = some (.int .i64 x0)
 c7:u.cell? ⟨T,7,none⟩ = some (.int .i64 x1)
 c8:u.cell? ⟨T,8,none⟩ = some (.map (some F))
 fz:∀ q,u.frozen? ⟨T,q,none⟩ = false
structure TSt where
 st:JSt
 L:List Row
 R:List Row
 V:List Out
 f0:Int
 f1:Int
 a0:Int
 a1:Int
def TSt.new:TSt:=⟨⟨[],[],-1099511627777,-1099511627777,0⟩,[],[],[],0,0,-300,-300⟩
def znA (key time value:Int):Row:=⟨(zmW key 4:Nat),(zmW time 200:Nat) - 100,(zmW value 50:Nat)⟩
structure zpU (u:World) (T F E:Nat) (Bs:Nat -> Prop) (v0 v1:Value) (lo hi md:Int) (s:TSt) (m:List (Out × Value)) (W:List Out):Prop where
 own:zq6 u T F E lo hi md v0 v1 s.a0 s.a1
 eng:EAt u E Bs lo hi md s.st s.V s.V s.f0 s.f1
 r0:TRow u 0 v0 s.L.reverse
 r1:TRow u 0 v1 s.R.reverse
 mp:zav Tryz.prog 86 encO u F m
 cz:zrT m W
 nT:¬ Bs T
 nF:¬ Bs F
 TF:T ≠ F
 a0:∀ k,v0.ownBlock = some k -> ¬ Bs k /\ k ≠ T /\ k ≠ F
 a1:∀ k,v1.ownBlock = some k -> ¬ Bs k /\ k ≠ T /\ k ≠ F
 a01:∀ k,v0.ownBlock = some k -> v1.ownBlock ≠ some k
def zrL (T F:Nat) (Bs:Nat -> Prop) (v0 v1:Value) (k:Nat):Prop:=k = T \/ k = F \/ Bs k \/ v0.ownBlock = some k \/ v1.ownBlock = some k
section
variable {u u':World} {T F E:Nat} {Bs:Nat -> Prop} {v0 v1:Value} {lo hi md x0 x1:Int} {s:TSt} {m:List (Out × Value)} {W:List Out}
theorem zq6.keep {M:Nat -> Prop} (h:zq6 u T F E lo hi md v0 v1 x0 x1) (hx:ExtM M u u') (hT:¬ M T):zq6 u' T F E lo hi md v0 v1 x0 x1:=by
 have l:=zac h.c0;have k:=fun o=>hx.cell (p:=⟨T,o,none⟩) l hT;exact ⟨(k _).trans h.c0,(k _).trans h.c1,(k _).trans h.c2,(k _).trans h.c3,(k _).trans h.c4,(k _).trans h.c5,(k _).trans h.c6,(k _).trans h.c7,(k _).trans h.c8,fun q=>(hx.frozen (p:=⟨T,q,none⟩) l hT).trans (h.fz q)⟩
theorem zpU.keep {M:Nat -> Prop} (h:zpU u T F E Bs v0 v1 lo hi md s m W) (hx:ExtM M u u') (hM:∀ k,zrL T F Bs v0 v1 k -> ¬ M k):zpU u' T F E Bs v0 v1 lo hi md s m W :=
 ⟨h.own.keep hx (hM _ (.inl rfl)),h.eng.keep hx (fun k hk=>hM k (.inr (.inr (.inl hk)))),zag h.r0 hx (fun k hk=>hM k (.inr (.inr (.inr (.inl hk))))),zag h.r1 hx (fun k hk=>hM k (.inr (.inr (.inr (.inr hk))))),h.mp.of hx (hM _ (.inr (.inl rfl))),h.cz,h.nT,h.nF,h.TF,h.a0,h.a1,h.a01⟩
theorem zpU.ext (h:zpU u T F E Bs v0 v1 lo hi md s m W) (hx:Ext u u'):zpU u' T F E Bs v0 v1 lo hi md s m W:=h.keep hx (fun _ _ h=>h)
theorem zpU.foot (h:zpU u T F E Bs v0 v1 lo hi md s m W) (k:Nat) (hk:zrL T F Bs v0 v1 k):k < u.heap.size:=by
 rcases hk with rfl | rfl | hk | hk | hk
 . exact zac h.own.c0
 . exact h.mp.lt
 . exact h.eng.lt k hk
 . exact (zaf h.r0 k hk).2
 . exact (zaf h.r1 k hk).2
end
def TAt (u:World) (T:Nat) (Fs:Nat -> Prop) (lo hi md:Int) (s:TSt):Prop:=∃ F E Bs v0 v1 m,zpU u T F E Bs v0 v1 lo hi md s m s.V /\ Fs = zrL T F Bs v0 v1
section
variable {u u':World} {T:Nat} {Fs:Nat -> Prop} {lo hi md:Int} {s:TSt}
theorem TAt.lt (h:TAt u T Fs lo hi md s) (k:Nat) (hk:Fs k):k < u.heap.size:=by
 obtain ⟨F,E,Bs,v0,v1,m,h,rfl⟩:=h;exact h.foot k hk
theorem TAt.keep {M:Nat -> Prop} (h:TAt u T Fs lo hi md s) (hx:ExtM M u u') (hM:∀ k,Fs k -> ¬ M k):TAt u' T Fs lo hi md s:=by
 obtain ⟨F,E,Bs,v0,v1,m,h,rfl⟩:=h;exact ⟨F,E,Bs,v0,v1,m,h.keep hx hM,rfl⟩
theorem TAt.ext (h:TAt u T Fs lo hi md s) (hx:Ext u u'):TAt u' T Fs lo hi md s:=h.keep hx (fun _ _ h=>h)
end
def zaq (w:World) (b:Nat) (a:Option Addr) (ns:List Int):Prop :=
 ns = [] \/ ∃ g c t fz,a = some ⟨g,0,none⟩ /\ g ≠ b /\ t ≠ 5 /\ w.heap[g]? = some (.cells c t fz) /\ ∀ i (h:i < ns.length),c[i]? = some (.int .i64 ns[i])
theorem zaq.keep {w w':World} {B b:Nat} {a:Option Addr} {ns:List Int} (h:zaq w b a ns) (hx:BExt B b w w'):zaq w' b a ns:=by
 rcases h with h | ⟨g,c,t,fz,h1,h2,h3,h4,h5⟩
 . exact .inl h
 . exact .inr ⟨g,c,t,fz,h1,h2,h3,hx.row h4 h2 h3,h5⟩
def numB (n:Int):List UInt8:=32 :: Lib.itoa n
theorem zfL (nm:List UInt8) (l:List Int):lineB nm l = nm ++ l.flatMap numB:=rfl
theorem zdh:∀ (l:List Int),(∀ n ∈ l,-9223372036854775808 <= n /\ n <= 9223372036854775807) -> (l.flatMap numB).length <= 22 * l.length
 | [],_=>by simp
 | n :: l,h=>by
   have h1:=h n List.mem_cons_self;have h2:=Lib.itoa_length_le n h1.1 h1.2;have h3:=zdh l (fun m hm=>h m (List.mem_cons_of_mem _ hm));have h4:(numB n).length = (Lib.itoa n).length + 1:=rfl;rw [List.flatMap_cons,List.length_append,List.length_cons];omega
theorem TabP.bext {B b:Nat} {w w':World} (h:TabP w) (hx:BExt B b w w') (hB:6 < B):TabP w':=h.keep (hx.1.block _ hB)
theorem zoS (B b:Nat) (acc nm:List UInt8) (s:ByteArray) (hs:s.data.toList = nm) (a:Option Addr) (cap:Nat) (ns:List Int) (w:World) (hS:SB B b acc w) (ht:TabP w) (hB:6 < B) (hr:zaq w b a ns)
 (hn:∀ n ∈ ns,-9223372036854775808 <= n /\ n <= 9223372036854775807) (hl:acc.length + nm.length + 22 * ns.length <= 900000000) :
 Calls Tryz.prog 55 #[.string s,.slice a ns.length cap,.pointer (some ⟨b,0,none⟩)] w fun e w'=>e = .returned (.tuple #[]) /\ SB B b (acc ++ (lineB nm ns ++ [10])) w' /\ BExt B b w w':=by
 have hsz:s.size = nm.length:=by rw [<- hs,Array.length_toList];rfl
 go_enter Tryz.func55,Tryz.ntmps55;go_wp2_with (go_at_call 56;refine (ws_c B b acc s w hS (by omega)).mono ?_;rintro e w1 ⟨rfl,hS1,hx1⟩;refine Hid.out ?_);refine Lib.hid ?_;rw [hs] at hS1;have HS:=Lib.hid hs;have HZ:=Lib.hid hsz;clear hs hsz;go_wp2_with fail;go_loopg [11] (ns.length + 1) (fun kx s11 wr=>∃ i:Nat,s11 = .int .i64 i /\ i <= ns.length /\ ns.length - i <= kx /\ SB B b (acc ++ (nm ++ (ns.take i).flatMap numB)) wr /\ BExt B b w wr)
 case atStart=>exact ⟨0,rfl,by omega,by omega,by simpa using hS1,hx1⟩
 case round =>
  clear hS1 hx1;obtain ⟨i,rfl,hi,hgk,hS1,hx1⟩:=hrel;have htw:=ht.bext hx1 hB;by_cases hil:i < ns.length
  . rcases hr.keep hx1 with e | ⟨g,c,t,fz,rfl,hgb,htu,hg,hc⟩
    . subst e;simp at hil
    have hcell:wr.cell? ⟨g,i,none⟩ = some (.int .i64 ns[i]):=by
     have:=hc i hil
     simpa [World.cell?,hg] using this
    have hni:=hn _ (List.getElem_mem hil);have HT:=Lib.hid (List.take_succ_eq_append_getElem hil);have hlen:(acc ++ (nm ++ (ns.take i).flatMap numB)).length <= 900000000:=by
     have h1:=zdh (ns.take i) (fun n hn'=>hn n (List.mem_of_mem_take hn'));have h2:(ns.take i).length <= ns.length:=List.length_take_le' _ _;rw [List.length_append,List.length_append];omega
    have hgl:g < wr.heap.size:=(Array.getElem?_eq_some_iff.1 hg).1;generalize ns[i] = n at *;clear hc hg;go_wp2_with (go_at_call 57;refine (zno n _ hni.1 hni.2 htw).mono ?_;rintro e w2 ⟨rfl,hx2⟩;refine Hid.out ?_);refine Lib.hid ?_;have hS2:=hS1.ext hx2;have hx12:=hx1.trans (BExt.of_ext hx2 (by have:=hS1.lt;omega));have hil2:=Lib.itoa_length_le n hni.1 hni.2;clear hS1 hx1 hx2 hcell
    go_wp2_with (go_at_call 56;refine (ws_c B b _ _ _ hS2 (by
     have:(ByteArray.mk #[32] ++ ByteArray.mk (Lib.itoa n).toArray).size = 1 + (Lib.itoa n).length:=by rw [ByteArray.size_append];rfl
     omega)).mono ?_;rintro e w3 ⟨rfl,hS3,hx3⟩;refine Hid.out ?_)
    refine Lib.hid ?_;have hdat:(ByteArray.mk #[32] ++ ByteArray.mk (Lib.itoa n).toArray).data.toList = numB n:=by
     rw [ByteArray.data_append,Array.toList_append];rfl
    rw [hdat,List.append_assoc,List.append_assoc] at hS3;have hxx:=hx12.trans hx3;clear hdat hS2 hx12 hx3;go_wp2_with fail;go_roundg (ns.length - (i + 1))
    case measure=>omega
    case rel =>
     refine ⟨i + 1,by go_num,by omega,Nat.le_refl _,?_,hxx⟩;rw [HT.out,List.flatMap_append];simpa using hS3
  . obtain rfl:i = ns.length:=by omega
    have hz:decide (ns.length < ns.length) = false:=by simp
    have hz2:decide ((ns.length:Int) < ns.length) = false:=by simp
    rw [List.take_length] at hS1;have hlen:(acc ++ (nm ++ ns.flatMap numB)).length <= 900000000:=by
     have h1:=zdh ns hn;rw [List.length_append,List.length_append];omega
    go_wp2_with (go_at_call 56;refine (ws_c B b _ _ _ hS1 (by have:(ByteArray.mk #[10]).size = 1:=rfl;omega)).mono ?_;rintro e w3 ⟨rfl,hS3,hx3⟩;refine Hid.out ?_);refine Lib.hid ?_;go_wp2_with fail;go_end0;refine ⟨rfl,?_,hx1.trans hx3⟩;rw [zfL];simpa [List.append_assoc] using hS3
open Go.RowKit Go.Plan Go.Lib
structure ESt where
 lo:Int
 hi:Int
 md:Int
 st:JSt
 V:List Out
 f0:Int
 f1:Int
def zc2:List UInt8:=[112,108,97,110]
def wFed:List UInt8:=[102,101,100]
def zbW:List UInt8:=[109,97,114,107,115]
def wRow:List UInt8:=[114,111,119]
def wOut:List UInt8:=[111,117,116]
def wEnd:List UInt8:=[101,110,100]
def rowN (s:Int) (h:Hd):List Int:=[s,h.r.k,h.r.t,h.r.v,h.m]
def outN (x:Out):List Int:=((if x.hl then 1 else 0) + (if x.hr then 2 else 0)) :: ((if x.hl then [x.l.k,x.l.t,x.l.v] else []) ++ (if x.hr then [x.r.k,x.r.t,x.r.v] else []))
def za5 (e:ESt):List (List UInt8 × List Int):=[(zc2,[e.lo,e.hi,e.md]),(wFed,[e.f0,e.f1,e.st.late]),(zbW,[e.st.x,e.st.y])]
def zbE (e:ESt):List (List UInt8 × List Int):=e.st.a.map (fun h=>(wRow,rowN 0 h)) ++ (e.st.b.map (fun h=>(wRow,rowN 1 h)) ++ (sortO e.V).map (fun x=>(wOut,outN x)))
def zbP (e:ESt):List (List UInt8 × List Int):=za5 e ++ (zbE e ++ [(wEnd,[])])
def savedT (e:ESt):List UInt8:=textB (zbP e)
def zcY (lo hi:Int) (s:Nat) (t:Int) (st:JSt):Option JSt:=if t = -1099511627777 then some st else if zpG s t st.x st.y = 0 then some (zbr lo hi s t st) else none
def outE:List Int -> Option Out
 | [h,a,b,c]=>if (h = 1 \/ h = 2) /\ za3 a b c = true then some (zan (if h = 1 then 0 else 1) ⟨a,b,c⟩) else none
 | [h,a,b,c,d,e,f]=>if h = 3 /\ za3 a b c = true /\ za3 d e f = true /\ a = d then some (zbs ⟨a,b,c⟩ ⟨d,e,f⟩) else none
 | _=>none
def zcF (s:Int) (x:Hd) (st:JSt):Int:=if s = 0 then addE st.a x else if s = 1 then addE st.b x else 1
def zb3 (i:Nat) (nm:List UInt8) (n:List Int) (e:Option ESt):Option ESt :=
 if nm = zc2 then
  match n with
  | [a,b,c]=>if i = 0 /\ checkI a b c = 0 then some ⟨a,b,c,⟨[],[],-1099511627777,-1099511627777,0⟩,[],0,0⟩ else none
  | _=>none
 else
  match e with
  | none=>none
  | some e =>
    if i = 0 then none
    else if nm = wFed then
     match n with
     | [a,b,c]=>if i = 1 /\ 0 <= a /\ 0 <= b /\ 0 <= c then some { e with f0:=a,f1:=b,st:={ e.st with late:=c } } else none
     | _=>none
    else if i = 1 then none
    else if nm = zbW then
     match n with
     | [x,y]=>if i = 2 then ((zcY e.lo e.hi 0 x e.st).bind (zcY e.lo e.hi 1 y)).map fun st=>{ e with st:=st } else none
     | _=>none
    else if i = 2 then none
    else if nm = wRow then
     match n with
     | [s,k,t,v,m]=>if zcF s ⟨⟨k,t,v⟩,m⟩ e.st = 0 then some { e with st:=putJ s.toNat ⟨⟨k,t,v⟩,m⟩ e.st } else none
     | _=>none
    else if nm = wOut then (outE n).map fun x=>{ e with V:=x :: e.V }
    else none
def zbz:List (List UInt8) -> Option (List Int)
 | []=>some []
 | w :: ws=>match atoiAll w with | .ok n=>(zbz ws).map (n :: ·) | _=>none
def zbt:Nat -> List (List UInt8) -> Option ESt -> Option (Option ESt)
 | _,[],e=>some e
 | i,x :: xs,e =>
   match zbz (cut1 32 x).tail with
   | none=>none
   | some n=>match zb3 i ((cut1 32 x).headD []) n e with
     | none=>none
     | some e'=>zbt (i + 1) xs (some e')
def zfM (s:List UInt8):Option ESt :=
 if 60000 < s.length \/ (cut1 10 s).length < 5 \/ (cut1 10 s)[(cut1 10 s).length - 2]? ≠ some wEnd \/ (cut1 10 s)[(cut1 10 s).length - 1]? ≠ some [] then none
 else match zbt 0 ((cut1 10 s).take ((cut1 10 s).length - 2)) none with
  | some (some e)=>if savedT e = s then some e else none
  | _=>none
def za0 (r:Row):Prop:=za3 r.k r.t r.v = true
def zhl (x:Out):Prop:=(∃ s r,s < 2 /\ za0 r /\ x = zan s r) \/ ∃ l r,za0 l /\ za0 r /\ l.k = r.k /\ x = zbs l r
structure EOk (e:ESt):Prop where
 plan:checkI e.lo e.hi e.md = 0
 f0:0 <= e.f0
 f1:0 <= e.f1
 late:0 <= e.st.late
 i0:e.f0 <= 9223372036854775807
 i1:e.f1 <= 9223372036854775807
 il:e.st.late <= 9223372036854775807
 mx:-1099511627777 <= e.st.x /\ e.st.x <= 1099511627776
 my:-1099511627777 <= e.st.y /\ e.st.y <= 1099511627776
 ga:∀ h ∈ e.st.a,za0 h.r /\ 0 <= h.m /\ h.m <= 9223372036854775807
 gb:∀ h ∈ e.st.b,za0 h.r /\ 0 <= h.m /\ h.m <= 9223372036854775807
 sa:zaD e.st.a
 sb:zaD e.st.b
 la:e.st.a.length <= 300
 lb:e.st.b.length <= 300
 v:∀ x ∈ e.V,zhl x
theorem zeP:∀ l:List Int,(∀ n ∈ l,-9223372036854775808 <= n /\ n <= 9223372036854775807) -> zbz (l.map itoa) = some l
 | [],_=>rfl
 | n :: l,h=>by
   have h1:=h n List.mem_cons_self;rw [List.map_cons,zbz,zk8 n h1.1 h1.2,zeP l (fun m hm=>h m (List.mem_cons_of_mem _ hm))];rfl
theorem zbw {i:Nat} {nm:List UInt8} {n:List Int} {xs:List (List UInt8)} {e:Option ESt} {e':ESt} (hnm:∀ b ∈ nm,97 <= b.toNat) (hn:∀ k ∈ n,-9223372036854775808 <= k /\ k <= 9223372036854775807) (h:zb3 i nm n e = some e') :
 zbt i (lineB nm n :: xs) e = zbt (i + 1) xs (some e'):=by
 rw [zbt,zmV hnm];simp only [List.tail_cons,List.headD_cons,zeP n hn,h]
theorem za0.i64 {r:Row} (h:za0 r):(-1099511627776 <= r.k /\ r.k <= 1099511627776) /\ (-1099511627776 <= r.t /\ r.t <= 1099511627776) /\ -1099511627776 <= r.v /\ r.v <= 1099511627776:=by
 unfold za0 za3 inB at h;simp only [Bool.and_eq_true,decide_eq_true_eq] at h;omega
theorem zlp {key time:Int} {hs:List Hd} (h:∀ x ∈ hs,za2 key time x = true):fromN key time hs = hs.length:=by
 unfold fromN;exact List.countP_eq_length.2 h
theorem zfV {p:List Hd} {x:Hd} (hs:zaD (p ++ [x])) (hg:za0 x.r) (hm:0 <= x.m) (hl:p.length < 300):addE p x = 0 /\ addL p x = p ++ [x]:=by
 have he:addE p x = 0:=by
  unfold addE;rw [if_neg (by rw [show za3 x.r.k x.r.t x.r.v = true from hg,decide_eq_true hm];decide),if_neg (by omega)]
 refine ⟨he,?_⟩;unfold addL;rw [if_pos he];unfold addH;have hall:∀ y ∈ p,za2 x.r.k (x.r.t + 1) y = true:=fun y hy=>by
  rw [zaN]
  have:=(List.pairwise_append.1 hs).2.2 y hy x (by simp)
  unfold leKT at this;omega
 rw [zlp hall];unfold insH;rw [List.take_length,List.drop_length]
theorem zfq {s:Int} (hs:s = 0 \/ s = 1) {h:Hd} (hg:za0 h.r) (h0:0 <= h.m) (h1:h.m <= 9223372036854775807):∀ n ∈ rowN s h,-9223372036854775808 <= n /\ n <= 9223372036854775807:=by
 have:=hg.i64
 intro n hn;simp only [rowN,List.mem_cons,List.not_mem_nil,or_false] at hn;omega
theorem zf2:∀ b ∈ wRow,97 <= b.toNat:=by decide
theorem zkA:∀ b ∈ wOut,97 <= b.toNat:=by decide
theorem ziD:∀ b ∈ zc2,97 <= b.toNat:=by decide
theorem zlq:∀ b ∈ wFed,97 <= b.toNat:=by decide
theorem zgs:∀ b ∈ zbW,97 <= b.toNat:=by decide
theorem znw:∀ b ∈ wEnd,97 <= b.toNat:=by decide
theorem zfd (e:ESt) (xs:List (List UInt8)):∀ (q p:List Hd) (i:Nat),3 <= i -> e.st.a = p -> zaD (p ++ q) -> (p ++ q).length <= 300 -> (∀ h ∈ q,za0 h.r /\ 0 <= h.m /\ h.m <= 9223372036854775807) ->
 zbt i (q.map (fun h=>lineB wRow (rowN 0 h)) ++ xs) (some e) = zbt (i + q.length) xs (some { e with st:={ e.st with a:=p ++ q } })
 | [],p,i,_,he,_,_,_=>by subst he;simp
 | x :: q,p,i,hi,he,hs,hl,hg=>by
   have hx:=hg x List.mem_cons_self;have e1:p ++ x :: q = (p ++ [x]) ++ q:=by simp
   have hs1:zaD (p ++ [x]):=by rw [e1] at hs;exact (List.pairwise_append.1 hs).1
   obtain ⟨h1,h2⟩:=zfV hs1 hx.1 hx.2.1 (by simp at hl;omega);have hline:zb3 i wRow (rowN 0 x) (some e) = some { e with st:={ e.st with a:=p ++ [x] } }:=by
    unfold zb3;rw [if_neg (by decide)];simp only;rw [if_neg (by omega),if_neg (by decide),if_neg (by omega),if_neg (by decide),if_neg (by omega),if_pos trivial];unfold rowN;simp only;have hgo:∀ y:Hd,y = x -> (if zcF 0 y e.st = 0 then some { e with st:=putJ (Int.toNat 0) y e.st } else none) = some { e with st:={ e.st with a:=p ++ [x] } }:=by
     rintro y rfl;have hp:zcF 0 y e.st = 0:=by
      unfold zcF;rw [if_pos rfl];rw [he];exact h1
     have:putJ (Int.toNat 0) y e.st = { e.st with a:=p ++ [y] }:=by
      show putJ 0 y e.st = _;unfold putJ JSt.put JSt.of;simp only [if_true];rw [he,h2]
     rw [if_pos hp,this]
    exact hgo _ rfl
   rw [List.map_cons,List.cons_append,zbw zf2 (zfq (.inl rfl) hx.1 hx.2.1 hx.2.2) hline];rw [zfd { e with st:={ e.st with a:=p ++ [x] } } xs q (p ++ [x]) (i + 1) (by omega) rfl (by rw [<- e1];exact hs) (by rw [<- e1];exact hl) (fun h hh=>hg h (List.mem_cons_of_mem _ hh))];simp only [List.length_cons];rw [show i + 1 + q.length = i + (q.length + 1) by omega,List.append_assoc];rfl
theorem zeO (e:ESt) (xs:List (List UInt8)):∀ (q p:List Hd) (i:Nat),3 <= i -> e.st.b = p -> zaD (p ++ q) -> (p ++ q).length <= 300 -> (∀ h ∈ q,za0 h.r /\ 0 <= h.m /\ h.m <= 9223372036854775807) ->
 zbt i (q.map (fun h=>lineB wRow (rowN 1 h)) ++ xs) (some e) = zbt (i + q.length) xs (some { e with st:={ e.st with b:=p ++ q } })
 | [],p,i,_,he,_,_,_=>by subst he;simp
 | x :: q,p,i,hi,he,hs,hl,hg=>by
   have hx:=hg x List.mem_cons_self;have e1:p ++ x :: q = (p ++ [x]) ++ q:=by simp
   have hs1:zaD (p ++ [x]):=by rw [e1] at hs;exact (List.pairwise_append.1 hs).1
   obtain ⟨h1,h2⟩:=zfV hs1 hx.1 hx.2.1 (by simp at hl;omega);have hline:zb3 i wRow (rowN 1 x) (some e) = some { e with st:={ e.st with b:=p ++ [x] } }:=by
    unfold zb3;rw [if_neg (by decide)];simp only;rw [if_neg (by omega),if_neg (by decide),if_neg (by omega),if_neg (by decide),if_neg (by omega),if_pos trivial];unfold rowN;simp only;have hgo:∀ y:Hd,y = x -> (if zcF 1 y e.st = 0 then some { e with st:=putJ (Int.toNat 1) y e.st } else none) = some { e with st:={ e.st with b:=p ++ [x] } }:=by
     rintro y rfl;have hp:zcF 1 y e.st = 0:=by
      unfold zcF;rw [if_neg (by decide),if_pos rfl];rw [he];exact h1
     have:putJ (Int.toNat 1) y e.st = { e.st with b:=p ++ [y] }:=by
      show putJ 1 y e.st = _;unfold putJ JSt.put JSt.of;simp only [if_neg (show ¬ (1:Nat) = 0 by decide)];rw [he,h2]
     rw [if_pos hp,this]
    exact hgo _ rfl
   rw [List.map_cons,List.cons_append,zbw zf2 (zfq (.inr rfl) hx.1 hx.2.1 hx.2.2) hline];rw [zeO { e with st:={ e.st with b:=p ++ [x] } } xs q (p ++ [x]) (i + 1) (by omega) rfl (by rw [<- e1];exact hs) (by rw [<- e1];exact hl) (fun h hh=>hg h (List.mem_cons_of_mem _ hh))];simp only [List.length_cons];rw [show i + 1 + q.length = i + (q.length + 1) by omega,List.append_assoc];rfl
theorem zjQ {x:Out} (h:zhl x):outE (outN x) = some x /\ ∀ n ∈ outN x,-9223372036854775808 <= n /\ n <= 9223372036854775807:=by
 rcases h with ⟨s,r,hs,hg,rfl⟩ | ⟨l,r,hl,hr,hk,rfl⟩
 . have:=hg.i64
   have hs':s = 0 \/ s = 1:=by omega
   rcases hs' with rfl | rfl
   . have e:outN (zan 0 r) = [1,r.k,r.t,r.v]:=by simp [outN,zan]
     rw [e];refine ⟨?_,fun n hn=>?_⟩
     . simp only [outE];rw [if_pos ⟨by decide,hg⟩];rfl
     . simp only [List.mem_cons,List.not_mem_nil,or_false] at hn;omega
   . have e:outN (zan 1 r) = [2,r.k,r.t,r.v]:=by simp [outN,zan]
     rw [e];refine ⟨?_,fun n hn=>?_⟩
     . simp only [outE];rw [if_pos ⟨by decide,hg⟩];rfl
     . simp only [List.mem_cons,List.not_mem_nil,or_false] at hn;omega
 . have h1:=hl.i64;have h2:=hr.i64;have e:outN (zbs l r) = [3,l.k,l.t,l.v,r.k,r.t,r.v]:=by simp [outN,zbs]
   rw [e];refine ⟨?_,fun n hn=>?_⟩
   . simp only [outE];rw [if_pos ⟨trivial,hl,hr,hk⟩]
   . simp only [List.mem_cons,List.not_mem_nil,or_false] at hn;omega
theorem zgl (xs:List (List UInt8)):∀ (q:List Out) (e:ESt) (i:Nat),3 <= i -> (∀ x ∈ q,zhl x) ->
 zbt i (q.map (fun x=>lineB wOut (outN x)) ++ xs) (some e) = zbt (i + q.length) xs (some { e with V:=q.reverse ++ e.V })
 | [],e,i,_,_=>by simp
 | x :: q,e,i,hi,hg=>by
   obtain ⟨h1,h2⟩:=zjQ (hg x List.mem_cons_self);have hline:zb3 i wOut (outN x) (some e) = some { e with V:=x :: e.V }:=by
    unfold zb3;rw [if_neg (by decide)];simp only;rw [if_neg (by omega),if_neg (by decide),if_neg (by omega),if_neg (by decide),if_neg (by omega),if_neg (by decide),if_pos trivial,h1];rfl
   rw [List.map_cons,List.cons_append,zbw zkA h2 hline,zgl xs q { e with V:=x :: e.V } (i + 1) (by omega) (fun y hy=>hg y (List.mem_cons_of_mem _ hy))];simp only [List.length_cons,List.reverse_cons];rw [show i + 1 + q.length = i + (q.length + 1) by omega,List.append_assoc];rfl
theorem zgI {t y:Int} (h0:-1099511627776 <= t) (h1:t <= 1099511627776):zpG 0 t (-1099511627777) y = 0:=by
 unfold zpG ofI;rw [if_neg (by decide),if_neg (by omega),if_pos rfl,if_neg (by omega)]
theorem zfT {t x:Int} (h0:-1099511627776 <= t) (h1:t <= 1099511627776):zpG 1 t x (-1099511627777) = 0:=by
 unfold zpG ofI;rw [if_neg (by decide),if_neg (by omega)];simp only [show ¬ (1:Int) = 0 by decide,if_false,if_true];rw [if_neg (by omega)]
theorem zg9 {lo hi t:Int} {s:Nat} (hs:s < 2) {st:JSt} (ha:st.a = []) (hb:st.b = []) (h0:(if s = 0 then st.x else st.y) = -1099511627777) (ht:-1099511627777 <= t /\ t <= 1099511627776) :
 zcY lo hi s t st = some (if s = 0 then { st with x:=t } else { st with y:=t }):=by
 obtain ⟨a,b,x,y,late⟩:=st;simp only at ha hb h0;subst ha;subst hb;have hs':s = 0 \/ s = 1:=by omega
 unfold zcY;rcases hs' with rfl | rfl
 . simp only [if_true] at h0 ⊢;subst h0;by_cases h1:t = -1099511627777
   . subst h1;rw [if_pos rfl]
   . rw [if_neg h1];exact (if_pos (zgI (t:=t) (y:=y) (by omega) (by omega))).trans rfl
 . simp only [if_neg (show ¬ (1:Nat) = 0 by decide)] at h0 ⊢;subst h0;by_cases h1:t = -1099511627777
   . subst h1;rw [if_pos rfl]
   . rw [if_neg h1];exact (if_pos (zfT (t:=t) (x:=x) (by omega) (by omega))).trans rfl
theorem zjG (e:ESt) (h:EOk e) (xs:List (List UInt8)) :
 zbt 0 ((za5 e).map (fun x=>lineB x.1 x.2) ++ xs) none = zbt 3 xs (some ⟨e.lo,e.hi,e.md,⟨[],[],e.st.x,e.st.y,e.st.late⟩,[],e.f0,e.f1⟩):=by
 have hp:=h.plan;have hck:(-1048576 <= e.lo /\ e.lo <= 1048576) /\ (-1048576 <= e.hi /\ e.hi <= 1048576) /\ 0 <= e.md /\ e.md <= 3:=by
  unfold checkI at hp;by_cases h1:¬ (-1048576 <= e.lo /\ e.lo <= 1048576) \/ ¬ (-1048576 <= e.hi /\ e.hi <= 1048576)
  . rw [if_pos h1] at hp;cases hp
  . rw [if_neg h1] at hp;by_cases h2:e.hi < e.lo
    . rw [if_pos h2] at hp;cases hp
    . rw [if_neg h2] at hp;by_cases h3:¬ (0 <= e.md /\ e.md <= 3)
      . rw [if_pos h3] at hp;cases hp
      . omega
 have hf0:=h.f0;have hf1:=h.f1;have hl:=h.late;have i0:=h.i0;have i1:=h.i1;have il:=h.il;have mx:=h.mx;have my:=h.my;unfold za5;simp only [List.map_cons,List.map_nil,List.cons_append,List.nil_append];have l0:zb3 0 zc2 [e.lo,e.hi,e.md] none = some ⟨e.lo,e.hi,e.md,⟨[],[],-1099511627777,-1099511627777,0⟩,[],0,0⟩:=by
  unfold zb3;rw [if_pos rfl];simp only;rw [if_pos ⟨trivial,hp⟩]
 have l1:zb3 1 wFed [e.f0,e.f1,e.st.late] (some ⟨e.lo,e.hi,e.md,⟨[],[],-1099511627777,-1099511627777,0⟩,[],0,0⟩) = some ⟨e.lo,e.hi,e.md,⟨[],[],-1099511627777,-1099511627777,e.st.late⟩,[],e.f0,e.f1⟩:=by
  unfold zb3;rw [if_neg (by decide)];simp only;rw [if_neg (by decide),if_pos trivial,if_pos ⟨trivial,hf0,hf1,hl⟩]
 have l2:zb3 2 zbW [e.st.x,e.st.y] (some ⟨e.lo,e.hi,e.md,⟨[],[],-1099511627777,-1099511627777,e.st.late⟩,[],e.f0,e.f1⟩) = some ⟨e.lo,e.hi,e.md,⟨[],[],e.st.x,e.st.y,e.st.late⟩,[],e.f0,e.f1⟩:=by
  unfold zb3;rw [if_neg (by decide)];simp only;rw [if_neg (by decide),if_neg (by decide),if_neg (by decide),if_pos trivial,if_pos trivial];rw [zg9 (s:=0) (by decide) rfl rfl (by rfl) mx];simp only [if_true,Option.bind_some];rw [zg9 (s:=1) (by decide) rfl rfl (by rfl) my];rfl
 rw [zbw ziD (by intro k hk;simp only [List.mem_cons,List.not_mem_nil,or_false] at hk;omega) l0,
  zbw zlq (by intro k hk;simp only [List.mem_cons,List.not_mem_nil,or_false] at hk;omega) l1,
  zbw zgs (by intro k hk;simp only [List.mem_cons,List.not_mem_nil,or_false] at hk;omega) l2]
theorem zjh (e:ESt):∀ x ∈ zbP e,∀ b ∈ x.1,97 <= b.toNat:=by
 intro x hx;unfold zbP za5 zbE at hx;simp only [List.mem_append,List.mem_map,List.mem_cons,List.not_mem_nil,or_false] at hx;rcases hx with (rfl | rfl | rfl) | (⟨_,_,rfl⟩ | ⟨_,_,rfl⟩ | ⟨_,_,rfl⟩) | rfl
 . exact ziD
 . exact zlq
 . exact zgs
 . exact zf2
 . exact zf2
 . exact zkA
 . exact znw
theorem ziT (e:ESt) (h:EOk e) (hl:(savedT e).length <= 60000):zfM (savedT e) = some { e with V:=(sortO e.V).reverse }:=by
 have hc:cut1 10 (savedT e) = ((za5 e ++ zbE e).map fun x=>lineB x.1 x.2) ++ [wEnd,[]]:=by
  unfold savedT;rw [zis _ (zjh e)];unfold zbP;rw [<- List.append_assoc,List.map_append,List.append_assoc];rfl
 have hlen:(cut1 10 (savedT e)).length = (za5 e ++ zbE e).length + 2:=by rw [hc,List.length_append,List.length_map];rfl
 have h3:3 <= (za5 e ++ zbE e).length:=by rw [List.length_append];show 3 <= 3 + _;omega
 have e1:(cut1 10 (savedT e))[(cut1 10 (savedT e)).length - 2]? = some wEnd:=by
  rw [hlen,hc,List.getElem?_append_right (by rw [List.length_map];omega),List.length_map,show (za5 e ++ zbE e).length + 2 - 2 - (za5 e ++ zbE e).length = 0 by omega];rfl
 have e2:(cut1 10 (savedT e))[(cut1 10 (savedT e)).length - 1]? = some []:=by
  rw [hlen,hc,List.getElem?_append_right (by rw [List.length_map];omega),List.length_map,show (za5 e ++ zbE e).length + 2 - 1 - (za5 e ++ zbE e).length = 1 by omega];rfl
 have e3:(cut1 10 (savedT e)).take ((cut1 10 (savedT e)).length - 2) = (za5 e ++ zbE e).map fun x=>lineB x.1 x.2:=by
  rw [hlen,Nat.add_sub_cancel,hc,List.take_left' (by rw [List.length_map])]
 have hload:zbt 0 ((za5 e ++ zbE e).map fun x=>lineB x.1 x.2) none = some (some { e with V:=(sortO e.V).reverse }):=by
  rw [List.map_append,zjG e h];unfold zbE;rw [List.map_append,List.map_append,List.map_map,List.map_map,List.map_map];have r0:=zfd ⟨e.lo,e.hi,e.md,⟨[],[],e.st.x,e.st.y,e.st.late⟩,[],e.f0,e.f1⟩ (e.st.b.map (fun h=>lineB wRow (rowN 1 h)) ++ (sortO e.V).map (fun x=>lineB wOut (outN x))) e.st.a [] 3 (by omega) rfl h.sa h.la h.ga;have r1:=zeO ⟨e.lo,e.hi,e.md,⟨e.st.a,[],e.st.x,e.st.y,e.st.late⟩,[],e.f0,e.f1⟩ ((sortO e.V).map (fun x=>lineB wOut (outN x))) e.st.b [] (3 + e.st.a.length) (by omega) rfl h.sb h.lb h.gb;have r2:=zgl [] (sortO e.V) ⟨e.lo,e.hi,e.md,⟨e.st.a,e.st.b,e.st.x,e.st.y,e.st.late⟩,[],e.f0,e.f1⟩ (3 + e.st.a.length + e.st.b.length) (by omega) (fun x hx=>h.v x ((zbf _).mem_iff.1 hx));rw [List.append_nil] at r2;refine r0.trans (r1.trans (r2.trans ?_));simp [zbt]
 have hs:savedT { e with V:=(sortO e.V).reverse } = savedT e:=by
  have:sortO (sortO e.V).reverse = sortO e.V:=zb6 ((List.reverse_perm _).trans (zbf _));unfold savedT zbP zbE za5;simp only [this]
 unfold zfM
 rw [if_neg (fun hh=>by
  rw [e1,e2,hlen] at hh;rcases hh with h | h | h | h
  . omega
  . omega
  . exact h rfl
  . exact h rfl),e3,hload]
 simp only;rw [if_pos hs]
theorem zhy {e:ESt} {V:List Out} (hp:V.Perm e.V):savedT { e with V:=V } = savedT e:=by
 unfold savedT zbP zbE za5;simp only [zb6 hp]
def IR (w:World) (b:Nat) (v:Value) (xs:List Int):Prop:=w.ownsRow b 3 1 v xs.length (xs.map (Value.int .i64))
theorem zoI:(Tryz.prog.info? 3).map (fun i=>(i.zero,i.size,i.bytes)) = some (some (.int .i64 0),1,8):=by kernel_rfl
theorem zbe (W:World) (base nb c:Nat) (v:Value) (acc xs:List Int) (ty:TypeId) (hown:IR W base v acc) (hx:∀ j u,(xs.map (Value.int .i64))[j]? = some u -> W.cell? ⟨nb,j,none⟩ = some u) (hl:acc.length + xs.length < 1000000) (hb:base <= W.heap.size) :
 ∃ v' w',(Builtin.append_ #[81,81] ty #[v,.slice (some ⟨nb,0,none⟩) xs.length c]).run Tryz.prog W = .ok v' w' /\ IR w' base v' (acc ++ xs) /\ ExtR v.ownBlock W w' /\ (v'.ownBlock = v.ownBlock \/ ∃ k,v'.ownBlock = some k /\ W.heap.size <= k):=by
 obtain ⟨i0,hi,hz0,hz1,hz2⟩:=info_parts zoI;obtain ⟨v',w',h1',h2,h3,-,h5⟩:=run_append_own_at (P:=Tryz.prog) W base 81 ty 3 i0 (.int .i64 0) 1 8 Tryz.underlying81 hi hz0 hz1 hz2 rfl (by decide) v acc.length _ hown ⟨nb,0,none⟩ xs.length c (xs.map (Value.int .i64)) (by simp)
  (fun j u hj=>by
    have e1:(⟨nb,0,none⟩:Addr).add j = ⟨nb,j,none⟩:=by unfold Addr.add;split <;> simp_all
    rw [e1];exact hx j u hj) (fun u hu=>by obtain ⟨n,-,rfl⟩:=List.mem_map.1 hu;rfl) (by unfold maxLen;omega) (by omega) hb
 refine ⟨v',w',h1',?_,⟨h3.os,h3.tape,h3.output,h3.size,fun k hk hn=>h3.block k hk (fun e=>hn e.symm)⟩,?_⟩
 . unfold IR;rw [List.map_append,List.length_append];exact h2
 . rcases h5 with h | h
   . exact .inl h
   . exact .inr ⟨_,h,Nat.le_refl _⟩
theorem IR.nums {w:World} {B b:Nat} {v:Value} {xs:List Int} (h:IR w B v xs) (hb:b < B):∃ a cap,v = .slice a xs.length cap /\ zaq w b a xs:=by
 rcases h.2 with ⟨rfl,h0⟩ | ⟨g,cap,cur,rfl,e1,e2,e3,e4,e5,e6⟩
 . exact ⟨none,0,by rw [h0],.inl (List.eq_nil_of_length_eq_zero h0)⟩
 . refine ⟨_,_,rfl,.inr ⟨g,cur,3,(0,0),rfl,by omega,by decide,e2,fun i hi=>?_⟩⟩;have h1:(cur.toList.take (xs.length * 1))[i]? = (xs.map (Value.int .i64))[i]?:=by rw [e6]
   rw [List.getElem?_take_of_lt (by omega),Array.getElem?_toList,List.getElem?_map,List.getElem?_eq_getElem hi] at h1;exact h1
def hasN (x:Out) (i:Nat):Int:=(if 0 < i /\ x.hl = true then 1 else 0) + (if 1 < i /\ x.hr = true then 2 else 0)
def numsN (x:Out) (i:Nat):List Int:=(if 0 < i /\ x.hl = true then [x.l.k,x.l.t,x.l.v] else []) ++ (if 1 < i /\ x.hr = true then [x.r.k,x.r.t,x.r.v] else [])
theorem zln (x:Out):outN x = hasN x 2 :: numsN x 2:=by
 unfold outN hasN numsN;simp
theorem zbY (x:Out) (i:Nat):(numsN x i).length <= 6:=by
 unfold numsN;rw [List.length_append];split <;> split <;> simp
theorem zoK (W:World) (a b c:Int) (t:TypeId):∀ j u,([a,b,c].map (Value.int .i64))[j]? = some u -> (W.alloc (.cells #[.int .i64 a,.int .i64 b,.int .i64 c] t)).cell? ⟨W.heap.size,j,none⟩ = some u:=fun j u hj =>
 (World.cell?_alloc_at _ _ _ j rfl).trans (by simpa using hj)
theorem zo0 (x:Out) (w:World) (hx:x.hl = true \/ x.hr = true) :
 Calls Tryz.prog 62 #[.agg #[.int .i64 x.key,.int .i64 x.l.k,.int .i64 x.l.t,.int .i64 x.l.v,.int .i64 x.r.k,.int .i64 x.r.t,.int .i64 x.r.v,.bool x.hl,.bool x.hr]] w fun e w'=>∃ v,e = .returned v /\ IR w' w.heap.size v (outN x) /\ Ext w w':=by
 rw [zln];have hl2:=zbY x 2;have hne:numsN x 2 ≠ []:=by
  unfold numsN;rcases hx with h | h <;> simp [h]
 obtain ⟨key,⟨lk,lt,lv⟩,⟨rk,rt,rv⟩,hl,hr⟩:=x;simp only at hx ⊢;generalize hX:(⟨key,⟨lk,lt,lv⟩,⟨rk,rt,rv⟩,hl,hr⟩:Out) = x at *;have c0:((w.alloc (.cells #[.int .i64 key,.int .i64 lk,.int .i64 lt,.int .i64 lv,.int .i64 rk,.int .i64 rt,.int .i64 rv,.bool hl,.bool hr] 86)).alloc (.cells #[.int .i64 lk,.int .i64 lt,.int .i64 lv,.int .i64 rk,.int .i64 rt,.int .i64 rv] 37)).cell? ⟨w.heap.size + 1,0,none⟩ = some (.int .i64 lk):=by go_simp
 have c1:((w.alloc (.cells #[.int .i64 key,.int .i64 lk,.int .i64 lt,.int .i64 lv,.int .i64 rk,.int .i64 rt,.int .i64 rv,.bool hl,.bool hr] 86)).alloc (.cells #[.int .i64 lk,.int .i64 lt,.int .i64 lv,.int .i64 rk,.int .i64 rt,.int .i64 rv] 37)).cell? ⟨w.heap.size + 1,1,none⟩ = some (.int .i64 lt):=by go_simp
 have c2:((w.alloc (.cells #[.int .i64 key,.int .i64 lk,.int .i64 lt,.int .i64 lv,.int .i64 rk,.int .i64 rt,.int .i64 rv,.bool hl,.bool hr] 86)).alloc (.cells #[.int .i64 lk,.int .i64 lt,.int .i64 lv,.int .i64 rk,.int .i64 rt,.int .i64 rv] 37)).cell? ⟨w.heap.size + 1,2,none⟩ = some (.int .i64 lv):=by go_simp
 have c3:((w.alloc (.cells #[.int .i64 key,.int .i64 lk,.int .i64 lt,.int .i64 lv,.int .i64 rk,.int .i64 rt,.int .i64 rv,.bool hl,.bool hr] 86)).alloc (.cells #[.int .i64 lk,.int .i64 lt,.int .i64 lv,.int .i64 rk,.int .i64 rt,.int .i64 rv] 37)).cell? ⟨w.heap.size + 1,3,none⟩ = some (.int .i64 rk):=by go_simp
 have c4:((w.alloc (.cells #[.int .i64 key,.int .i64 lk,.int .i64 lt,.int .i64 lv,.int .i64 rk,.int .i64 rt,.int .i64 rv,.bool hl,.bool hr] 86)).alloc (.cells #[.int .i64 lk,.int .i64 lt,.int .i64 lv,.int .i64 rk,.int .i64 rt,.int .i64 rv] 37)).cell? ⟨w.heap.size + 1,4,none⟩ = some (.int .i64 rt):=by go_simp
 have c5:((w.alloc (.cells #[.int .i64 key,.int .i64 lk,.int .i64 lt,.int .i64 lv,.int .i64 rk,.int .i64 rt,.int .i64 rv,.bool hl,.bool hr] 86)).alloc (.cells #[.int .i64 lk,.int .i64 lt,.int .i64 lv,.int .i64 rk,.int .i64 rt,.int .i64 rv] 37)).cell? ⟨w.heap.size + 1,5,none⟩ = some (.int .i64 rv):=by go_simp
 have b7:((w.alloc (.cells #[.int .i64 key,.int .i64 lk,.int .i64 lt,.int .i64 lv,.int .i64 rk,.int .i64 rt,.int .i64 rv,.bool hl,.bool hr] 86)).alloc (.cells #[.int .i64 lk,.int .i64 lt,.int .i64 lv,.int .i64 rk,.int .i64 rt,.int .i64 rv] 37)).cell? ⟨w.heap.size,7,none⟩ = some (.bool hl):=by go_simp
 have b8:((w.alloc (.cells #[.int .i64 key,.int .i64 lk,.int .i64 lt,.int .i64 lv,.int .i64 rk,.int .i64 rt,.int .i64 rv,.bool hl,.bool hr] 86)).alloc (.cells #[.int .i64 lk,.int .i64 lt,.int .i64 lv,.int .i64 rk,.int .i64 rt,.int .i64 rv] 37)).cell? ⟨w.heap.size,8,none⟩ = some (.bool hr):=by go_simp
 have hx0:Ext w ((w.alloc (.cells #[.int .i64 key,.int .i64 lk,.int .i64 lt,.int .i64 lv,.int .i64 rk,.int .i64 rt,.int .i64 rv,.bool hl,.bool hr] 86)).alloc (.cells #[.int .i64 lk,.int .i64 lt,.int .i64 lv,.int .i64 rk,.int .i64 rt,.int .i64 rv] 37)):=((ExtM.refl _).alloc _).alloc _;have HXX:=Lib.hid hX;clear hX hx;go_enter Tryz.func62,Tryz.ntmps62;go_wp2_with fail;generalize (w.alloc (.cells #[.int .i64 key,.int .i64 lk,.int .i64 lt,.int .i64 lv,.int .i64 rk,.int .i64 rt,.int .i64 rv,.bool hl,.bool hr] 86)).alloc (.cells #[.int .i64 lk,.int .i64 lt,.int .i64 lv,.int .i64 rk,.int .i64 rt,.int .i64 rv] 37) = w0 at *;have l1:=zac c0;have l0:=zac b7;simp only at l0 l1;obtain ⟨N,hN⟩:∃ N,N = w0.heap.size:=⟨_,rfl⟩
 have hNl:w.heap.size + 1 < N:=by omega
 have HN:=Lib.hid hN;clear hN;go_loopg [3,4,13] 3 (fun kx s3 s4 s13 wr=>∃ i:Nat,s13 = .int .i64 i /\ i <= 2 /\ 2 - i <= kx /\ s4 = .int .i64 (hasN x i) /\ IR wr N s3 (numsN x i) /\ Plan.ExtF N w0 wr)
 case atStart =>
  refine ⟨0,rfl,by omega,by omega,?_,?_,ExtF.refl _⟩
  . unfold hasN;simp
  . unfold numsN;simp;exact ⟨rfl,.inl ⟨rfl,rfl⟩⟩
 case round =>
  obtain ⟨i,rfl,hi,hgk,rfl,hir,hx⟩:=hrel;have hN0:=HN.out;have kr:=hx.rules.1;have e0:=(kr _ 0 l1 (by omega)).trans c0;have e1:=(kr _ 1 l1 (by omega)).trans c1;have e2:=(kr _ 2 l1 (by omega)).trans c2;have e3:=(kr _ 3 l1 (by omega)).trans c3;have e4:=(kr _ 4 l1 (by omega)).trans c4;have e5:=(kr _ 5 l1 (by omega)).trans c5;have e7:=(kr _ 7 l0 (by omega)).trans b7;have e8:=(kr _ 8 l0 (by omega)).trans b8;have q1:w.heap.size + 1 < wr.heap.size:=Nat.lt_of_lt_of_le l1 hx.size;have q0:w.heap.size < wr.heap.size:=by omega
  have hNw:N <= wr.heap.size:=by have:=hx.size;omega
  clear kr hN0;by_cases hi2:i < 2
  . have hX:=HXX.out;have hi3:i = 0 \/ i = 1:=by omega
    clear hi2 hi;rcases hi3 with rfl | rfl
    . skip;have hnx:numsN x (0 + 1) = numsN x 0 ++ (if hl = true then [lk,lt,lv] else []):=by subst hX;unfold numsN;cases hl <;> cases hr <;> simp
      have hhx:hasN x (0 + 1) = hasN x 0 + (if hl = true then 1 else 0):=by subst hX;unfold hasN;cases hl <;> cases hr <;> simp
      have hh0:hasN x 0 = 0 \/ (0 = 1 /\ hasN x 0 = 1):=by subst hX;unfold hasN;cases hl <;> cases hr <;> simp
      have HNX:=Lib.hid hnx;have HHX:=Lib.hid hhx;clear hnx hhx hX;cases hl with
      | false =>
        have hgo:=hir.alloc (.cells #[.int .i64 lk,.int .i64 lt,.int .i64 lv] 37);go_wp2_with fail;go_roundg (2 - (0 + 1))
        case measure=>omega
        case rel =>
         refine ⟨0 + 1,by go_num,by omega,Nat.le_refl _,?_,?_,hx.alloc _⟩
         . rw [HHX.out];simp
         . rw [HNX.out,if_neg (by decide),List.append_nil];exact hgo
      | true =>
        obtain ⟨v',w',happ,hir',hxr,hloc⟩:=zbe ((wr.alloc (.cells #[.int .i64 lk,.int .i64 lt,.int .i64 lv] 37)).alloc (.cells #[.int .i64 lk,.int .i64 lt,.int .i64 lv] 3)) N (wr.alloc (.cells #[.int .i64 lk,.int .i64 lt,.int .i64 lv] 37)).heap.size 3 u3 (numsN x 0) [lk,lt,lv] 81 ((hir.alloc _).alloc _) (zoK _ lk lt lv 3) (by have:=zbY x 0;simp only [List.length_cons,List.length_nil];omega) (by rw [World.size_alloc,World.size_alloc];have:=hx.size;omega);have hxf:Plan.ExtF N w0 w':=ExtF.trans _ _ _ ((hx.alloc _).alloc _) (ExtM.mono hxr (fun k _ e=>(zaf hir k e).1));rw [World.size_alloc] at happ;clear hxr hloc;rcases hh0 with hh0 | ⟨hh1,hh0⟩
        . skip;rw [hh0];go_wp2_with (at_builtin;refine wpList_append_run happ rfl rfl _ _ rfl rfl rfl ?_;clear happ);go_roundg (2 - (0 + 1))
          case measure=>omega
          case rel =>
           refine ⟨0 + 1,by go_num,by omega,Nat.le_refl _,?_,?_,hxf⟩
           . rw [HHX.out,hh0];rfl
           . rw [HNX.out];exact hir'
        . skip;exact absurd hh1 (by decide)
    . skip;have hnx:numsN x (1 + 1) = numsN x 1 ++ (if hr = true then [rk,rt,rv] else []):=by subst hX;unfold numsN;cases hl <;> cases hr <;> simp
      have hhx:hasN x (1 + 1) = hasN x 1 + (if hr = true then 2 else 0):=by subst hX;unfold hasN;cases hl <;> cases hr <;> simp
      have hh0:hasN x 1 = 0 \/ (1 = 1 /\ hasN x 1 = 1):=by subst hX;unfold hasN;cases hl <;> cases hr <;> simp
      have HNX:=Lib.hid hnx;have HHX:=Lib.hid hhx;clear hnx hhx hX;cases hr with
      | false =>
        have hgo:=hir.alloc (.cells #[.int .i64 rk,.int .i64 rt,.int .i64 rv] 37);go_wp2_with fail;go_roundg (2 - (1 + 1))
        case measure=>omega
        case rel =>
         refine ⟨1 + 1,by go_num,by omega,Nat.le_refl _,?_,?_,hx.alloc _⟩
         . rw [HHX.out];simp
         . rw [HNX.out,if_neg (by decide),List.append_nil];exact hgo
      | true =>
        obtain ⟨v',w',happ,hir',hxr,hloc⟩:=zbe ((wr.alloc (.cells #[.int .i64 rk,.int .i64 rt,.int .i64 rv] 37)).alloc (.cells #[.int .i64 rk,.int .i64 rt,.int .i64 rv] 3)) N (wr.alloc (.cells #[.int .i64 rk,.int .i64 rt,.int .i64 rv] 37)).heap.size 3 u3 (numsN x 1) [rk,rt,rv] 81 ((hir.alloc _).alloc _) (zoK _ rk rt rv 3) (by have:=zbY x 1;simp only [List.length_cons,List.length_nil];omega) (by rw [World.size_alloc,World.size_alloc];have:=hx.size;omega);have hxf:Plan.ExtF N w0 w':=ExtF.trans _ _ _ ((hx.alloc _).alloc _) (ExtM.mono hxr (fun k _ e=>(zaf hir k e).1));rw [World.size_alloc] at happ;clear hxr hloc;rcases hh0 with hh0 | ⟨hh1,hh0⟩
        . skip;rw [hh0];go_wp2_with (at_builtin;refine wpList_append_run happ rfl rfl _ _ rfl rfl rfl ?_;clear happ);go_roundg (2 - (1 + 1))
          case measure=>omega
          case rel =>
           refine ⟨1 + 1,by go_num,by omega,Nat.le_refl _,?_,?_,hxf⟩
           . rw [HHX.out,hh0];rfl
           . rw [HNX.out];exact hir'
        . skip;rw [hh0];go_wp2_with (at_builtin;refine wpList_append_run happ rfl rfl _ _ rfl rfl rfl ?_;clear happ);go_roundg (2 - (1 + 1))
          case measure=>omega
          case rel =>
           refine ⟨1 + 1,by go_num,by omega,Nat.le_refl _,?_,?_,hxf⟩
           . rw [HHX.out,hh0];rfl
           . rw [HNX.out];exact hir'
  . obtain rfl:i = 2:=by omega
    have hN0:=HN.out;have hNs:=zbY x 2;obtain ⟨p3,q3,hv3,-⟩:=zaa hir;subst hv3;have hsz2:w.heap.size <= (wr.alloc (.cells #[.int .i64 (hasN x 2)] 3)).heap.size:=by rw [World.size_alloc];omega
    have hacc:IR (wr.alloc (.cells #[.int .i64 (hasN x 2)] 3)) w.heap.size (.slice (some ⟨wr.heap.size,0,none⟩) 1 1) [hasN x 2]:=⟨rfl,.inr ⟨wr.heap.size,1,#[.int .i64 (hasN x 2)],rfl,by omega,heap_alloc_new _ _,Nat.le_refl _,by unfold maxLen;decide,rfl,rfl⟩⟩
    obtain ⟨g,cap,cur,hg1,hg2,hg3,hg4⟩:∃ g cap cur,p3 = some ⟨g,0,none⟩ /\ q3 = cap /\ wr.heap[g]? = some (.cells cur 3 (0,0)) /\ ∀ j u,((numsN x 2).map (Value.int .i64))[j]? = some u -> cur[j]? = some u:=by
     rcases hir.2 with ⟨e,h0⟩ | ⟨g,cap,cur,e,e1,e2,e3,e4,e5,e6⟩
     . exact absurd (List.eq_nil_of_length_eq_zero h0) hne
     . simp only [Value.slice.injEq,true_and] at e;refine ⟨g,cap,cur,e.1,e.2,e2,fun j u hj=>?_⟩;rw [<- e6,List.getElem?_take] at hj;split at hj
       . rw [Array.getElem?_toList] at hj;exact hj
       . cases hj
    subst hg1;subst hg2;obtain ⟨v',w',happ,hir',hxr,hloc⟩:=zbe (wr.alloc (.cells #[.int .i64 (hasN x 2)] 3)) w.heap.size g q3 (.slice (some ⟨wr.heap.size,0,none⟩) 1 1) [hasN x 2] (numsN x 2) 81 hacc
     (fun j u hj=>by
       rw [World.cell?_alloc_lt _ _ _ (show g < wr.heap.size from (Array.getElem?_eq_some_iff.1 hg3).1)]
       have:=hg4 j u hj
       simpa [World.cell?,hg3] using this) (by simp only [List.length_cons,List.length_nil];omega) hsz2
    have hxf:Plan.ExtF N w0 w':=ExtF.trans _ _ _ (hx.alloc _) (ExtM.mono hxr (fun k _ e=>by have:=Option.some.inj e;have h8:=hx.size;simp at this;omega));have hfin:Ext w w':=ExtM.trans _ _ _ hx0 (hxf.ext (by omega));clear hxr hloc hxf hx hir hacc hg3 hg4 e0 e1 e2 e3 e4 e5 e7 e8;go_wp2_with (at_builtin;refine wpList_append_run happ rfl rfl _ _ rfl rfl rfl ?_;clear happ);go_ret;exact ⟨_,rfl,hir',hfin⟩
def zaV (x:List UInt8 × List Int):Prop:=x.1.length <= 8 /\ x.2.length <= 8 /\ ∀ n ∈ x.2,-9223372036854775808 <= n /\ n <= 9223372036854775807
theorem zdc:∀ ls:List (List UInt8 × List Int),(∀ x ∈ ls,zaV x) -> (textB ls).length <= 200 * ls.length
 | [],_=>by simp [textB]
 | x :: ls,h=>by
   obtain ⟨h1,h2,h3⟩:=h x List.mem_cons_self;have h4:=zdh x.2 h3;have h5:=zdc ls (fun y hy=>h y (List.mem_cons_of_mem _ hy));rw [zca,zfL,List.length_append,List.length_append,List.length_append];simp only [List.length_cons,List.length_nil];omega
theorem zmQ {w w':World} {B b bb n sz:Nat} {e:TypeId} {v:Value} {xs:List Value} (h:w.ownsRow bb e sz v n xs) (hx:BExt B b w w') (he:e ≠ 5) (hv:v.ownBlock ≠ some b):w'.ownsRow bb e sz v n xs:=by
 obtain ⟨h1,h2⟩:=h;refine ⟨h1,?_⟩;rcases h2 with h2 | ⟨g,cap,cur,rfl,e2,e3,e4⟩
 . exact .inl h2
 . exact .inr ⟨g,cap,cur,rfl,e2,hx.row e3 (fun q=>hv (by rw [<- q];rfl)) he,e4⟩
theorem BExt.extF {B b:Nat} {w w':World} (h:BExt B b w w'):Plan.ExtF B w w':=⟨h.1.os,h.1.tape,h.1.output,h.1.size,fun k _ hn=>h.1.block k (by omega)⟩
theorem zdy (B b:Nat) (ls:List (List UInt8 × List Int)) (x:List UInt8 × List Int) (s:ByteArray) (hs:s.data.toList = x.1) (a:Option Addr) (cap:Nat) (w:World) (hS:SB B b (textB ls) w) (ht:TabP w) (hB:6 < B) (hr:zaq w b a x.2)
 (hls:∀ x ∈ ls,zaV x) (hx:zaV x) (hl:ls.length <= 2000000) :
 Calls Tryz.prog 55 #[.string s,.slice a x.2.length cap,.pointer (some ⟨b,0,none⟩)] w fun e w'=>e = .returned (.tuple #[]) /\ SB B b (textB (ls ++ [x])) w' /\ BExt B b w w':=by
 obtain ⟨h1,h2,h3⟩:=hx;have h4:=zdc ls hls;refine (zoS B b (textB ls) x.1 s hs a cap x.2 w hS ht hB hr h3 (by omega)).mono ?_;rintro e w' ⟨he,hS',hx'⟩;refine ⟨he,?_,hx'⟩;rw [zaR];have:textB [x] = lineB x.1 x.2 ++ [10]:=by rw [zca];simp [textB]
 rw [this];exact hS'
theorem zaq.new {W:World} {b:Nat} (l:List Int) (hb:b < W.heap.size):zaq (W.alloc (.cells (l.map (Value.int .i64)).toArray 3)) b (some ⟨W.heap.size,0,none⟩) l :=
 .inr ⟨W.heap.size,_,3,(0,0),rfl,by omega,by decide,heap_alloc_new _ _,fun i hi=>by simp [hi]⟩
structure SOk (e:ESt):Prop where
 l0:∀ n ∈ [e.lo,e.hi,e.md,e.f0,e.f1,e.st.late,e.st.x,e.st.y],-9223372036854775808 <= n /\ n <= 9223372036854775807
 ga:∀ h ∈ e.st.a,za0 h.r /\ 0 <= h.m /\ h.m <= 9223372036854775807
 gb:∀ h ∈ e.st.b,za0 h.r /\ 0 <= h.m /\ h.m <= 9223372036854775807
 la:e.st.a.length <= 300
 lb:e.st.b.length <= 300
 v:∀ x ∈ e.V,(x.hl = true \/ x.hr = true) /\ x.ok
 lv:e.V.length <= 900000
def upLs (e:ESt) (i:Nat):List (List UInt8 × List Int):=za5 e ++ ((if 0 < i then e.st.a.map (fun h=>(wRow,rowN 0 h)) else []) ++ (if 1 < i then e.st.b.map (fun h=>(wRow,rowN 1 h)) else []))
theorem zeK (e:ESt):zbP e = upLs e 2 ++ ((sortO e.V).map (fun x=>(wOut,outN x)) ++ [(wEnd,[])]):=by
 unfold zbP upLs zbE;simp [List.append_assoc]
theorem zdQ {x:Out} (h:x.ok):zaV (wOut,outN x):=by
 obtain ⟨h1,⟨h2,h3,h4⟩,h5,h6,h7⟩:=h;unfold I64 at *;refine ⟨(show wOut.length <= 8 by decide),?_,fun n hn=>?_⟩
 . unfold outN;simp only [List.length_cons,List.length_append];split <;> split <;> simp
 . unfold outN at hn;rcases List.mem_cons.1 hn with rfl | hn
   . split <;> split <;> decide
   . rcases List.mem_append.1 hn with hn | hn
     . split at hn
       . simp only [List.mem_cons,List.not_mem_nil,or_false] at hn;rcases hn with rfl | rfl | rfl <;> assumption
       . cases hn
     . split at hn
       . simp only [List.mem_cons,List.not_mem_nil,or_false] at hn;rcases hn with rfl | rfl | rfl <;> assumption
       . cases hn
theorem zd4 {s:Int} (hs:s = 0 \/ s = 1) {h:Hd} (hg:za0 h.r /\ 0 <= h.m /\ h.m <= 9223372036854775807):zaV (wRow,rowN s h):=⟨(show wRow.length <= 8 by decide),(show 5 <= 8 by decide),zfq hs hg.1 hg.2.1 hg.2.2⟩
theorem ze1 {e:ESt} (h:SOk e):∀ x ∈ za5 e,zaV x:=by
 have h0:=h.l0;simp only [List.mem_cons,List.not_mem_nil,or_false,forall_eq_or_imp,forall_eq] at h0;intro x hx;unfold za5 at hx;simp only [List.mem_cons,List.not_mem_nil,or_false] at hx;rcases hx with rfl | rfl | rfl
 . refine ⟨(show zc2.length <= 8 by decide),(show 3 <= 8 by decide),fun n hn=>?_⟩;simp only [List.mem_cons,List.not_mem_nil,or_false] at hn;omega
 . refine ⟨(show wFed.length <= 8 by decide),(show 3 <= 8 by decide),fun n hn=>?_⟩;simp only [List.mem_cons,List.not_mem_nil,or_false] at hn;omega
 . refine ⟨(show zbW.length <= 8 by decide),(show 2 <= 8 by decide),fun n hn=>?_⟩;simp only [List.mem_cons,List.not_mem_nil,or_false] at hn;omega
theorem zgT (e:ESt) (i:Nat) (hi:i < 2):upLs e (i + 1) = upLs e i ++ (e.st.of i).map (fun h=>(wRow,rowN i h)):=by
 have hi':i = 0 \/ i = 1:=by omega
 unfold upLs JSt.of;rcases hi' with rfl | rfl
 . simp
 . simp
theorem zdu {e:ESt} (h:SOk e) (i:Nat):∀ x ∈ upLs e i,zaV x:=by
 intro x hx;unfold upLs at hx;rcases List.mem_append.1 hx with hx | hx
 . exact ze1 h x hx
 . rcases List.mem_append.1 hx with hx | hx
   . split at hx
     . obtain ⟨g,hg,rfl⟩:=List.mem_map.1 hx;exact zd4 (.inl rfl) (h.ga g hg)
     . cases hx
   . split at hx
     . obtain ⟨g,hg,rfl⟩:=List.mem_map.1 hx;exact zd4 (.inr rfl) (h.gb g hg)
     . cases hx
theorem zcD {e:ESt} (h:SOk e) (i:Nat):(upLs e i).length <= 603:=by
 have h1:=h.la;have h2:=h.lb;unfold upLs za5;simp only [List.length_append,List.length_cons,List.length_nil];split <;> split <;> simp only [List.length_map,List.length_nil] <;> omega
theorem SOk.of {e:ESt} (h:SOk e) (i:Nat):(∀ g ∈ e.st.of i,za0 g.r /\ 0 <= g.m /\ g.m <= 9223372036854775807) /\ (e.st.of i).length <= 300:=by
 unfold JSt.of;split
 . exact ⟨h.ga,h.la⟩
 . exact ⟨h.gb,h.lb⟩
def zeX (e:ESt):Ending:=if 60000 < (savedT e).length then .returned (.tuple #[.string ByteArray.empty,errV 4]) else .returned (.tuple #[.string ⟨(savedT e).toArray⟩,.nilIface])
theorem zoJ (w:World):SB w.heap.size w.heap.size [] (w.alloc (.cells #[.pointer none,.slice none 0 0] 127)) :=
 .inl ⟨Nat.le_refl _,_,heap_alloc_new _ _,⟨rfl,.inl ⟨rfl,rfl⟩⟩,fun e=>nomatch e⟩
theorem EIs.extF {u u':World} {E P M:Nat} {v0 v1:Value} {D DG:Option Nat} {ents:List Ent} {lo hi md:Int} {st:JSt} {V W:List Out} {f0 f1:Int} (h:EIs u E P M v0 v1 D DG ents lo hi md st V W f0 f1) {B:Nat} (hB:u.heap.size <= B) (hx:Plan.ExtF B u u'):EIs u' E P M v0 v1 D DG ents lo hi md st V W f0 f1 :=
 h.keep hx (fun k hk e=>by have:=h.foot k hk;omega)
theorem zdx {N:Nat} {w w':World} (h:Plan.ExtF N w w'):(∀ b o,b < w.heap.size -> b < N -> w'.cell? ⟨b,o,none⟩ = w.cell? ⟨b,o,none⟩) /\ (∀ b o,b < w.heap.size -> b < N -> w'.frozen? ⟨b,o,none⟩ = w.frozen? ⟨b,o,none⟩) /\ True:=⟨h.rules.1,h.rules.2,trivial⟩
theorem lok1 {a:List UInt8 × List Int} (h:zaV a):∀ x ∈ ([] ++ [a]:List (List UInt8 × List Int)),zaV x:=by
 intro x hx;simp only [List.nil_append,List.mem_singleton] at hx;subst hx;exact h
theorem lok2 {a b:List UInt8 × List Int} (h:zaV a) (h2:zaV b):∀ x ∈ ([] ++ [a] ++ [b]:List (List UInt8 × List Int)),zaV x:=by
 intro x hx;rcases List.mem_append.1 hx with hx | hx
 . exact lok1 h x hx
 . simp only [List.mem_singleton] at hx;subst hx;exact h2
theorem zjt {w:World} {b:Nat} {l:List Out} (h:zbp w b 0 l) (j:Nat) (hj:j < l.length) :
 w.cell? ⟨b,j * 9,none⟩ = some (.int .i64 (l[j]'hj).key) /\ w.cell? ⟨b,j * 9 + 1,none⟩ = some (.int .i64 (l[j]'hj).l.k) /\ w.cell? ⟨b,j * 9 + 2,none⟩ = some (.int .i64 (l[j]'hj).l.t) /\ w.cell? ⟨b,j * 9 + 3,none⟩ = some (.int .i64 (l[j]'hj).l.v) /\ w.cell? ⟨b,j * 9 + 4,none⟩ = some (.int .i64 (l[j]'hj).r.k) /\ w.cell? ⟨b,j * 9 + 5,none⟩ = some (.int .i64 (l[j]'hj).r.t) /\ w.cell? ⟨b,j * 9 + 6,none⟩ = some (.int .i64 (l[j]'hj).r.v) /\ w.cell? ⟨b,j * 9 + 7,none⟩ = some (.bool (l[j]'hj).hl) /\ w.cell? ⟨b,j * 9 + 8,none⟩ = some (.bool (l[j]'hj).hr):=by
 have hk:∀ c,c < 9 -> w.cell? ⟨b,j * 9 + c,none⟩ = (l[j]'hj).cells[c]?:=fun c hc=>by
  have:=(h.cell j c hj hc).1
  rwa [Nat.zero_add] at this
 exact ⟨hk 0 (by omega),hk 1 (by omega),hk 2 (by omega),hk 3 (by omega),hk 4 (by omega),hk 5 (by omega),hk 6 (by omega),hk 7 (by omega),hk 8 (by omega)⟩
theorem zk9 {u:World} {E:Nat} {Bs:Nat -> Prop} {lo hi md:Int} {st:JSt} {V:List Out} {f0 f1:Int} (h:EAt u E Bs lo hi md st V V f0 f1) (es:ESt) (hes:es = ⟨lo,hi,md,st,V,f0,f1⟩) (ok:SOk es) (ht:TabP u) :
 Calls Tryz.prog 16 #[.pointer (some ⟨E,0,none⟩)] u fun e u'=>e = zeX es /\ Ext u u':=by
 obtain ⟨P,M,v0,v1,D,DG,ents,hI,-⟩:=h;have hpB:6 < u.heap.size:=ht.lt;have hok:=ze1 ok;have hEl:=hI.lt;have HES:=Lib.hid hes;clear hes;go_enter Tryz.func16,Tryz.ntmps16;go_upto_region 3 with fail;have hS0:=zoJ u;have hx0:Ext u (u.alloc (.cells #[.pointer none,.slice none 0 0] 127)):=(ExtM.refl _).alloc _;have hbl:u.heap.size < (u.alloc (.cells #[.pointer none,.slice none 0 0] 127)).heap.size:=by rw [World.size_alloc];omega
 generalize u.alloc (.cells #[.pointer none,.slice none 0 0] 127) = w1 at *;have hs10:=hx0.size;have hI1:=hI.ext hx0;generalize hB:u.heap.size = B at *;have HB:=Lib.hid hB;clear hB;have hE:E < B:=hEl;have ht1:TabP w1:=ht.keep (hx0.block _ ht.lt id);have c0:=hI1.c0;have c1:=hI1.c1;have c2:=hI1.c2;have lE:=hI1.lt;have ok0:=hok _ (show (zc2,[lo,hi,md]) ∈ za5 es by rw [HES.out];simp [za5]);have ok1:=hok _ (show (wFed,[f0,f1,st.late]) ∈ za5 es by rw [HES.out];simp [za5]);have ok2:=hok _ (show (zbW,[st.x,st.y]) ∈ za5 es by rw [HES.out];simp [za5]);have hbl1:=hbl;have hS1:SB B B (textB []) w1:=hS0;have hline0:∀ W,Ext w1 W -> ∀ c,Calls Tryz.prog 55 #[.string ⟨#[112,108,97,110]⟩,.slice (some ⟨W.heap.size,0,none⟩) 3 c,.pointer (some ⟨B,0,none⟩)] (W.alloc (.cells #[.int .i64 lo,.int .i64 hi,.int .i64 md] 3)) fun e w'=>e = .returned (.tuple #[]) /\ SB B B (textB ([] ++ [(zc2,[lo,hi,md])])) w' /\ BExt B B (W.alloc (.cells #[.int .i64 lo,.int .i64 hi,.int .i64 md] 3)) w':=fun W hW c =>
  zdy B B ([]) (zc2,[lo,hi,md]) _ rfl _ c _ (hS1.ext (hW.alloc _)) (ht1.keep ((hW.alloc _).block _ ht1.lt id)) hpB (zaq.new [lo,hi,md] (Nat.lt_of_lt_of_le hbl1 hW.size)) (fun _ h=>nomatch h) ok0 (by simp)
 have HI:=Lib.hid hI;have HX0:=Lib.hid hx0;clear hok hI hS0 hbl hx0;refine Plan.b0 (Plan.ExtF B) 18 ?_;refine Plan.qs 12 [0,1,2,3,4,5,6,7,8,9,10,11] ?_;iterate 12 go_big_quiet_step (fail)
 refine Plan.qs 4 [12,13,14,15] ?_;iterate 4 go_big_quiet_step (fail)
 refine Plan.o1 16 fun K hK=>?_;go_wp2_with (fail);refine hK _ _ ((ExtM.refl _).alloc _) ?_;clear hK K;refine Plan.o1 17 fun K hK=>?_;go_wp2_with (fail);refine (hline0 _ (ExtM.refl _).drew _).mono ?_;rintro e w2 ⟨rfl,hS2,h2⟩;have H2:=ExtF.trans _ _ _ ((ExtF.refl _).drew.alloc _) (BExt.extF h2);obtain ⟨hc2,hf2,-⟩:=zdx H2;have hs2_0:E < w2.heap.size:=by have:=H2.size;(try simp at this);omega
 go_wp2_with (fail);refine hK _ _ (BExt.extF h2) ?_;clear hK K;refine Plan.dn ?_;have hF2:Plan.ExtF B u w2:=ExtF.trans _ _ _ (ExtF.of_ext HX0.out) H2;have hI2:=HI.out.extF (Nat.le_of_eq HB.out) hF2;have ht2:TabP w2:=ht1.keep (H2.block _ ht1.lt (by omega));have hbl2:B < w2.heap.size:=Nat.lt_of_lt_of_le hbl1 H2.size;clear hc2 hf2 hs2_0 c0 c1 c2 lE hline0 hS1 h2 H2 ht1 hbl1;have c7:=hI2.c7;have c8:=hI2.c8;have c3:=hI2.c3;have lE:=hI2.lt;have hlate:=fun W (hW:Ext w2 W)=>zkI (hI2.ext hW).join;have hline1:∀ W,Ext w2 W -> ∀ c,Calls Tryz.prog 55 #[.string ⟨#[102,101,100]⟩,.slice (some ⟨W.heap.size,0,none⟩) 3 c,.pointer (some ⟨B,0,none⟩)] (W.alloc (.cells #[.int .i64 f0,.int .i64 f1,.int .i64 st.late] 3)) fun e w'=>e = .returned (.tuple #[]) /\ SB B B (textB ([] ++ [(zc2,[lo,hi,md])] ++ [(wFed,[f0,f1,st.late])])) w' /\ BExt B B (W.alloc (.cells #[.int .i64 f0,.int .i64 f1,.int .i64 st.late] 3)) w':=fun W hW c =>
  zdy B B ([] ++ [(zc2,[lo,hi,md])]) (wFed,[f0,f1,st.late]) _ rfl _ c _ (hS2.ext (hW.alloc _)) (ht2.keep ((hW.alloc _).block _ ht2.lt id)) hpB (zaq.new [f0,f1,st.late] (Nat.lt_of_lt_of_le hbl2 hW.size)) (lok1 ok0) ok1 (by simp)
 clear hI2;go_upto_region 4 with fail;refine Plan.b0 (Plan.ExtF B) 18 ?_;refine Plan.qs 12 [0,1,2,3,4,5,6,7,8,9,10,11] ?_;iterate 12 go_big_quiet_step (fail)
 refine Plan.qs 3 [12,13,14] ?_;iterate 3 go_big_quiet_step (fail)
 refine Plan.o1 15 fun K hK=>?_;go_wp2_with (fail);refine (hlate _ (ExtM.refl _).drew).mono ?_;rintro e w' ⟨rfl,rfl⟩;go_wp2_with (fail);refine hK _ _ (ExtM.refl _) ?_;clear hK K;refine Plan.o1 16 fun K hK=>?_;go_wp2_with (fail);refine hK _ _ ((ExtM.refl _).alloc _) ?_;clear hK K;refine Plan.o1 17 fun K hK=>?_;go_wp2_with (fail);refine (hline1 _ (ExtM.refl _).drew _).mono ?_;rintro e w3 ⟨rfl,hS3,h3⟩;have H3:=ExtF.trans _ _ _ ((ExtF.refl _).drew.alloc _) (BExt.extF h3);obtain ⟨hc3,hf3,-⟩:=zdx H3;have hs3_0:E < w3.heap.size:=by have:=H3.size;(try simp at this);omega
 go_wp2_with (fail);refine hK _ _ (BExt.extF h3) ?_;clear hK K;refine Plan.dn ?_;have hF3:Plan.ExtF B u w3:=ExtF.trans _ _ _ hF2 H3;have hI3:=HI.out.extF (Nat.le_of_eq HB.out) hF3;have ht3:TabP w3:=ht2.keep (H3.block _ ht2.lt (by omega));have hbl3:B < w3.heap.size:=Nat.lt_of_lt_of_le hbl2 H3.size;clear hc3 hf3 hs3_0 c7 c8 c3 lE hline1 hS2 h3 H3 ht2 hbl2 hlate hF2;have c3:=hI3.c3;have lE:=hI3.lt;have hm0:∀ W,Ext w3 W -> Calls Tryz.prog 59 #[.pointer (some ⟨P,0,none⟩),.int .i64 0] W fun e W'=>e = .returned (.int .i64 st.x) /\ W = W':=fun W hW=>zhI 0 (hI3.ext hW).join;have hm1:∀ W,Ext w3 W -> Calls Tryz.prog 59 #[.pointer (some ⟨P,0,none⟩),.int .i64 1] W fun e W'=>e = .returned (.int .i64 st.y) /\ W = W':=fun W hW=>zhI 1 (hI3.ext hW).join;have hline2:∀ W,Ext w3 W -> ∀ c,Calls Tryz.prog 55 #[.string ⟨#[109,97,114,107,115]⟩,.slice (some ⟨W.heap.size,0,none⟩) 2 c,.pointer (some ⟨B,0,none⟩)] (W.alloc (.cells #[.int .i64 st.x,.int .i64 st.y] 3)) fun e w'=>e = .returned (.tuple #[]) /\ SB B B (textB ([] ++ [(zc2,[lo,hi,md])] ++ [(wFed,[f0,f1,st.late])] ++ [(zbW,[st.x,st.y])])) w' /\ BExt B B (W.alloc (.cells #[.int .i64 st.x,.int .i64 st.y] 3)) w':=fun W hW c =>
  zdy B B ([] ++ [(zc2,[lo,hi,md])] ++ [(wFed,[f0,f1,st.late])]) (zbW,[st.x,st.y]) _ rfl _ c _ (hS3.ext (hW.alloc _)) (ht3.keep ((hW.alloc _).block _ ht3.lt id)) hpB (zaq.new [st.x,st.y] (Nat.lt_of_lt_of_le hbl3 hW.size)) (lok2 ok0 ok1) ok2 (by simp)
 clear hI3;go_upto_region 5 with fail;refine Plan.b0 (Plan.ExtF B) 13 ?_;refine Plan.qs 9 [0,1,2,3,4,6,7,8,9] ?_;iterate 9 go_big_quiet_step (fail)
 refine Plan.o1 5 fun K hK=>?_;go_wp2_with (fail);refine (hm0 _ (ExtM.refl _).drew).mono ?_;rintro e w' ⟨rfl,rfl⟩;go_wp2_with (fail);refine hK _ _ (ExtM.refl _) ?_;clear hK K;refine Plan.o1 10 fun K hK=>?_;go_wp2_with (fail);refine (hm1 _ (ExtM.refl _).drew).mono ?_;rintro e w' ⟨rfl,rfl⟩;go_wp2_with (fail);refine hK _ _ (ExtM.refl _) ?_;clear hK K;refine Plan.o1 11 fun K hK=>?_;go_wp2_with (fail);refine hK _ _ ((ExtM.refl _).alloc _) ?_;clear hK K;refine Plan.o1 12 fun K hK=>?_;go_wp2_with (fail);refine (hline2 _ (ExtM.refl _).drew _).mono ?_;rintro e w4 ⟨rfl,hS4,h4⟩;have H4:=ExtF.trans _ _ _ ((ExtF.refl _).drew.alloc _) (BExt.extF h4);obtain ⟨hc4,hf4,-⟩:=zdx H4;have hs4_0:E < w4.heap.size:=by have:=H4.size;(try simp at this);omega
 go_wp2_with (fail);refine hK _ _ (BExt.extF h4) ?_;clear hK K;refine Plan.dn ?_;have hF4:Plan.ExtF B u w4:=ExtF.trans _ _ _ hF3 H4;have hbl4:B < w4.heap.size:=Nat.lt_of_lt_of_le hbl3 H4.size;clear hc4 hf4 hs4_0 c3 lE hline2 hS3 h4 H4 ht3 hbl3 hm0 hm1 hF3;have hT:=Lib.hid ht;have hL0:SB B B (textB (upLs es 0)) w4:=by
  have:upLs es 0 = [] ++ [(zc2,[lo,hi,md])] ++ [(wFed,[f0,f1,st.late])] ++ [(zbW,[st.x,st.y])]:=by rw [HES.out];simp [upLs,za5]
  rw [this];exact hS4
 clear hS4 ok0 ok1 ok2 ht hEl;go_wp2_with fail;go_loopg [61] 3 (fun kx s61 wr=>∃ i:Nat,s61 = .int .i64 i /\ i <= 2 /\ 2 - i <= kx /\ SB B B (textB (upLs es i)) wr /\ Plan.ExtF B u wr)
 case atStart=>exact ⟨0,rfl,by omega,by omega,hL0,hF4⟩
 case round =>
  clear hL0 hF4 hbl4;obtain ⟨i,rfl,hi',hgk,hS,hF⟩:=hrel;have hIr:=HI.out.extF (Nat.le_of_eq HB.out) hF;have c3:=hIr.c3;have lE:=hIr.lt;have htr:TabP wr:=hT.out.keep (hF.block _ hT.out.lt (by omega));by_cases hi2:i < 2
  . skip;have hst:es.st = st:=by rw [HES.out]
    obtain ⟨hgo,hlo⟩:=ok.of i;rw [hst] at hgo hlo;have hrw:=zl7 i hi2 hIr.join (by omega);have HUP:=Lib.hid (zgT es i hi2);have hul:=zcD ok i;have huo:=zdu ok i;have HST:=Lib.hid hst;have hii:(i:Int) = 0 \/ (i:Int) = 1:=by omega
    have hHof:=Lib.hid (rfl:st.of i = st.of i);clear hst hIr hHof;generalize hhs:st.of i = hs at *;have HHS:=Lib.hid hhs;clear hhs;go_wp2_with (go_at_call 60;refine hrw.mono ?_;rintro e wS ⟨vo,rfl,hm,hxS⟩;refine Hid.out ?_);refine Lib.hid ?_;obtain ⟨p,c,rfl,-⟩:=zaa hm;have hSS:=hS.ext hxS;have htS:TabP wS:=htr.keep (hxS.block _ htr.lt id);have hFS:Plan.ExtF B u wS:=ExtF.trans _ _ _ hF (ExtF.of_ext hxS);have hmn:(Value.slice p hs.length c).ownBlock ≠ some B:=fun e=>by have:=(zaf hm B e).1;have:=hS.lt;omega
    clear hrw hS hxS hF c3 lE htr;go_wp2_with fail;go_loopg [71] (hs.length + 1) (fun kx s71 wr=>∃ j:Nat,s71 = .int .i64 j /\ j <= hs.length /\ hs.length - j <= kx /\ SB B B (textB (upLs es i ++ (hs.take j).map (fun h=>(wRow,rowN i h)))) wr /\ BExt B B wS wr)
    case atStart=>exact ⟨0,rfl,by omega,by omega,by simpa using hSS,BExt.refl _ _ _⟩
    case round =>
     clear hSS;obtain ⟨j,rfl,hj,hgk2,hS,hX⟩:=hrel;by_cases hjl:j < hs.length
     . have hmq:MRow wS _ _ hs:=hm;have hmq2:MRow wr _ _ hs:=zmQ hm hX (by decide) hmn;obtain ⟨g,cap,e1,hg,y0,y1,y2,y3⟩:=zc9 hmq2 j hs[j] (List.getElem?_eq_getElem hjl);simp only [Value.slice.injEq,true_and] at e1;obtain ⟨rfl,rfl⟩:=e1;have hho:=hgo _ (List.getElem_mem hjl);have HTK:=Lib.hid (List.take_succ_eq_append_getElem hjl);have htq:TabP _:=htS.bext hX hpB;have hlo2:∀ x ∈ upLs es i ++ (hs.take j).map (fun h=>(wRow,rowN i h)),zaV x:=fun x hx=>by
        rcases List.mem_append.1 hx with hx | hx
        . exact huo x hx
        . obtain ⟨q,hq,rfl⟩:=List.mem_map.1 hx;exact zd4 hii (hgo q (List.mem_of_mem_take hq))
       have hll:(upLs es i ++ (hs.take j).map (fun h=>(wRow,rowN i h))).length <= 2000000:=by
        rw [List.length_append,List.length_map,List.length_take];omega
       have hrow:=zd4 hii hho;generalize hs[j] = h at *;obtain ⟨⟨rk,rt,rv⟩,m⟩:=h;simp only at y0 y1 y2 y3;have hln:∀ W,Ext wr W -> ∀ c,Calls Tryz.prog 55 #[.string ⟨#[114,111,119]⟩,.slice (some ⟨W.heap.size,0,none⟩) 5 c,.pointer (some ⟨B,0,none⟩)] (W.alloc (.cells #[.int .i64 i,.int .i64 rk,.int .i64 rt,.int .i64 rv,.int .i64 m] 3)) fun e w'=>e = .returned (.tuple #[]) /\ SB B B (textB ((upLs es i ++ (hs.take j).map (fun h=>(wRow,rowN i h))) ++ [(wRow,rowN i ⟨⟨rk,rt,rv⟩,m⟩)])) w' /\ BExt B B (W.alloc (.cells #[.int .i64 i,.int .i64 rk,.int .i64 rt,.int .i64 rv,.int .i64 m] 3)) w':=fun W hW c =>
        zdy B B _ (wRow,rowN i ⟨⟨rk,rt,rv⟩,m⟩) _ rfl _ c _ (hS.ext (hW.alloc _)) (htq.keep ((hW.alloc _).block _ htq.lt id)) hpB (zaq.new [(i:Int),rk,rt,rv,m] (Nat.lt_of_lt_of_le hS.lt.2 hW.size)) hlo2 hrow hll
       clear hlo2 hll hrow hho hgo huo hmq hmq2 htq;have hSB:=hS.lt;have hl5:=hln (wr.alloc (.cells #[.int .i64 rk,.int .i64 rt,.int .i64 rv,.int .i64 m] 131)) ((ExtM.refl _).alloc _) 5;rw [World.size_alloc] at hl5;go_wp2_with (go_at_call 55;refine hl5.mono ?_;rintro e w7 ⟨rfl,hS7,hX7⟩;refine Hid.out ?_);refine Lib.hid ?_;have hX8:=hX.trans (BExt.trans (BExt.of_ext ((ExtM.refl _).alloc _) (by omega)) (BExt.trans (BExt.of_ext ((ExtM.refl _).alloc _) (by rw [World.size_alloc];omega)) hX7));have HX8:=Lib.hid hX8;clear hX hX7 hX8 hln hl5 y0 y1 y2 y3 hS;go_wp2_with fail;go_roundg (hs.length - (j + 1))
       case measure=>omega
       case rel =>
        refine ⟨j + 1,by go_num,by omega,Nat.le_refl _,?_,HX8.out⟩;rw [HTK.out,List.map_append,<- List.append_assoc];exact hS7
     . obtain rfl:j = hs.length:=by omega
       have hz:decide (hs.length < hs.length) = false:=by simp
       have hz2:decide ((hs.length:Int) < hs.length) = false:=by simp
       rw [List.take_length] at hS;have hF2:=ExtF.trans _ _ _ hFS hX.extF;have HF2:=Lib.hid hF2;clear hF2 hFS hX hm htS;go_wp2_with fail;go_roundg (2 - (i + 1))
       case measure=>omega
       case rel =>
        refine ⟨i + 1,by go_num,by omega,Nat.le_refl _,?_,HF2.out⟩;rw [HUP.out,HST.out,HHS.out];exact hS
  . obtain rfl:i = 2:=by omega
    have hz:decide ((2:Nat) < 2) = false:=by decide
    have hV:V.length < 1000000:=by have:=ok.lv;rw [HES.out] at this;show V.length < 1000000;simp only at this;omega
    have hv:=znf (h:=⟨P,M,v0,v1,D,DG,ents,hIr,rfl⟩) hV;have hsr:=hS.lt;have hOk:∀ x ∈ sortO V,(x.hl = true \/ x.hr = true) /\ x.ok:=fun x hx=>by
     have:=ok.v;rw [HES.out] at this;exact this x ((zbf V).mem_iff.1 hx)
    have hle:(sortO V).length < 1000000:=by rw [zaA];exact hV
    have hSL:zbP es = upLs es 2 ++ ((sortO V).map (fun x=>(wOut,outN x)) ++ [(wEnd,[])]):=by rw [zeK];rw [HES.out]
    have hul:=zcD ok 2;have huo:=zdu ok 2;have HSL:=Lib.hid hSL;clear hIr hV hSL;generalize sortO V = os at *;go_wp2_with (go_at_call 61;refine hv.mono ?_;rintro e wv ⟨p,c,rfl,hxv,hov⟩;refine Hid.out ?_);refine Lib.hid ?_;have hSv:=hS.ext hxv;have hFv:Plan.ExtF B u wv:=ExtF.trans _ _ _ hF (ExtF.of_ext hxv);have htv:=htr.keep (hxv.block _ htr.lt id);have HFV:=Lib.hid hFv;have HTV:=Lib.hid htv;clear hv hS hxv hF c3 lE htr hFv htv;go_wp2_with fail;go_loopg [97] (os.length + 1) (fun kx s97 wr2=>∃ j:Nat,s97 = .int .i64 j /\ j <= os.length /\ os.length - j <= kx /\ SB B B (textB (upLs es 2 ++ (os.take j).map (fun x=>(wOut,outN x)))) wr2 /\ BExt B B wv wr2)
    case atStart=>exact ⟨0,rfl,by omega,by omega,by simpa using hSv,BExt.refl _ _ _⟩
    case round =>
     clear hSv;obtain ⟨j,rfl,hj,hgk2,hS,hX⟩:=hrel;have htq:TabP _:=HTV.out.bext hX hpB;by_cases hjl:j < os.length
     . obtain ⟨b,rfl,hb1,hb2,hb3,cb,hcb⟩:=hov.resolve_left (by rintro rfl;simp at hjl);have hcw:=hX.row hcb (by omega) (by decide);obtain ⟨y0,y1,y2,y3,y4,y5,y6,y7,y8⟩:=zjt (hb3.keep (hcw.trans hcb.symm)) j hjl;have hbw:b < wr.heap.size:=(Array.getElem?_eq_some_iff.1 hcw).1;have hho:=hOk _ (List.getElem_mem hjl);have HTK:=Lib.hid (List.take_succ_eq_append_getElem hjl);have hlo2:∀ x ∈ upLs es 2 ++ (os.take j).map (fun x=>(wOut,outN x)),zaV x:=fun x hx=>by
        rcases List.mem_append.1 hx with hx | hx
        . exact huo x hx
        . obtain ⟨q,hq,rfl⟩:=List.mem_map.1 hx;exact zdQ (hOk q (List.mem_of_mem_take hq)).2
       have hll:(upLs es 2 ++ (os.take j).map (fun x=>(wOut,outN x))).length <= 2000000:=by
        rw [List.length_append,List.length_map,List.length_take];omega
       have hrow:=zdQ hho.2;generalize os[j] = x at *;have hSB:=hS.lt;have hho1:=hho.1;clear hov hcb hcw hOk huo hb3 hho;obtain ⟨key,⟨lk,lt,lv⟩,⟨rk,rt,rv⟩,hl,hr⟩:=x;simp only at y0 y1 y2 y3 y4 y5 y6 y7 y8 hho1;have houts:=zo0 ⟨key,⟨lk,lt,lv⟩,⟨rk,rt,rv⟩,hl,hr⟩ (wr.alloc (.cells #[.int .i64 key,.int .i64 lk,.int .i64 lt,.int .i64 lv,.int .i64 rk,.int .i64 rt,.int .i64 rv,.bool hl,.bool hr] 86)) hho1;simp only at houts;generalize hxo:(⟨key,⟨lk,lt,lv⟩,⟨rk,rt,rv⟩,hl,hr⟩:Out) = x at *;have HXO:=Lib.hid hxo;clear hxo;have hx1:Ext wr (wr.alloc (.cells #[.int .i64 key,.int .i64 lk,.int .i64 lt,.int .i64 lv,.int .i64 rk,.int .i64 rt,.int .i64 rv,.bool hl,.bool hr] 86)):=(ExtM.refl _).alloc _;go_wp2_with (go_at_call 62;refine houts.mono ?_;rintro e w5 ⟨vo,rfl,hio,hxo⟩;refine Hid.out ?_);refine Lib.hid ?_;have hx5:=ExtM.trans _ _ _ hx1 hxo;obtain ⟨ao,co,rfl,hni⟩:=hio.nums (b:=B) (by rw [World.size_alloc];omega);have hln:=zdy B B _ (wOut,outN x) ⟨#[111,117,116]⟩ rfl ao co w5 (hS.ext hx5) (htq.keep (hx5.block _ htq.lt id)) hpB hni hlo2 hrow hll;clear houts hio hxo hx1 hlo2 hrow hll htq;go_wp2_with (go_at_call 55;refine hln.mono ?_;rintro e w7 ⟨rfl,hS7,hX7⟩;refine Hid.out ?_);refine Lib.hid ?_;have hX8:=hX.trans (BExt.trans (BExt.of_ext hx5 (by omega)) hX7);have HX8:=Lib.hid hX8;clear hX hX7 hX8 hln hS hx5 hni y0 y1 y2 y3 y4 y5 y6 y7 y8;go_wp2_with fail;go_roundg (os.length - (j + 1))
       case measure=>omega
       case rel =>
        refine ⟨j + 1,by go_num,by omega,Nat.le_refl _,?_,HX8.out⟩;rw [HTK.out,List.map_append,<- List.append_assoc];exact hS7
     . obtain rfl:j = os.length:=by omega
       have hz3:decide (os.length < os.length) = false:=by simp
       have hz4:decide ((os.length:Int) < os.length) = false:=by simp
       rw [List.take_length] at hS;have hll:(upLs es 2 ++ os.map (fun x=>(wOut,outN x))).length <= 2000000:=by
        rw [List.length_append,List.length_map];omega
       have hlo2:∀ x ∈ upLs es 2 ++ os.map (fun x=>(wOut,outN x)),zaV x:=fun x hx=>by
        rcases List.mem_append.1 hx with hx | hx
        . exact huo x hx
        . obtain ⟨q,hq,rfl⟩:=List.mem_map.1 hx;exact zdQ (hOk q hq).2
       have hln:=zdy B B _ (wEnd,[]) ⟨#[101,110,100]⟩ rfl none 0 wr hS htq hpB (.inl rfl) hlo2 ⟨(show wEnd.length <= 8 by decide),(show 0 <= 8 by decide),fun n h=>nomatch h⟩ hll;have hFr:=ExtF.trans _ _ _ HFV.out hX.extF;have HFR:=Lib.hid hFr;have heq:textB (upLs es 2 ++ os.map (fun x=>(wOut,outN x)) ++ [(wEnd,[])]) = savedT es:=by unfold savedT;rw [HSL.out,List.append_assoc]
       rw [heq] at hln;clear hFr hX hov hOk huo hul hlo2 hll htq hle heq;go_wp2_with (go_at_call 55;refine hln.mono ?_;rintro e w7 ⟨rfl,hS7,hX7⟩;refine Hid.out ?_);refine Lib.hid ?_;clear hln;have hbl:=bl_c B B _ _ hS7;have hbs:=bs_c B B _ _ hS7;have hsv:zeX es = if 60000 < (savedT es).length then .returned (.tuple #[.string ByteArray.empty,errV 4]) else .returned (.tuple #[.string ⟨(savedT es).toArray⟩,.nilIface]):=rfl;generalize savedT es = T at *;have HSV:=Lib.hid hsv;clear hsv;go_wp2_with (go_at_call 63;refine hbl.mono ?_;rintro e w8 ⟨rfl,rfl⟩;refine Hid.out ?_);refine Lib.hid ?_;clear hbl;have hF7:Plan.ExtF B u w7:=ExtF.trans _ _ _ HFR.out hX7.extF;have hsz:w7.heap.size < w7.heap.size + 1:=by omega
       by_cases hbig:60000 < T.length
       . have hbi:(60000:Int) < (T.length:Nat):=by omega
         have hE:=hF7.ext (Nat.le_of_eq HB.out);go_wp2_with fail;go_ret2;exact ⟨by rw [HSV.out,if_pos hbig];rfl,hE⟩
       . have hbi:¬ (60000:Int) < (T.length:Nat):=by omega
         go_wp2_with (go_at_call 64;refine hbs.mono ?_;rintro e w9 ⟨rfl,hX9⟩;refine Hid.out ?_);refine Lib.hid ?_;have hF9:Plan.ExtF B u w9:=ExtF.trans _ _ _ hF7 hX9.extF;have hE:=hF9.ext (Nat.le_of_eq HB.out);go_wp2_with fail;go_ret2;exact ⟨by rw [HSV.out,if_neg hbig];rfl,hE⟩
def MaxP (w:World):Prop:=∃ m,w.cell? ⟨5,0,none⟩ = some (.int .i64 m)
theorem MaxP.lt {w:World} (h:MaxP w):5 < w.heap.size:=by obtain ⟨m,h⟩:=h;exact zac h
theorem MaxP.keep {w w':World} (h:MaxP w) (hb:w'.heap[5]? = w.heap[5]?):MaxP w':=by
 obtain ⟨m,h⟩:=h;exact ⟨m,(World.cell?_of_block (w:=w) (w':=w') (a:=⟨5,0,none⟩) hb).trans h⟩
theorem MaxP.ext {w w':World} (h:MaxP w) (hx:Ext w w'):MaxP w':=h.keep (hx.block _ h.lt id)
theorem zp2:(Tryz.prog.info? 9).map (fun i=>(i.zero,i.size,i.bytes)) = some (some (.string ByteArray.empty),1,16):=by kernel_rfl
theorem zkB (c:UInt8) (s:ByteArray) (w:World) (hs:s.size < 4294967281) (hm:MaxP w) :
 Calls Tryz.prog 38 #[.string s,.string ⟨#[c]⟩] w fun e w'=>∃ l:List ByteArray,l.map (·.data.toList) = cut1 c s.data.toList /\ e = .returned (.slice (some ⟨w.heap.size,0,none⟩) l.length l.length) /\ w' = w.alloc (.cells (l.map Value.string).toArray 9):=by
 obtain ⟨m,hm⟩:=hm;refine (Any.strings_Split Tryz.shSplit zp2 s ⟨#[c]⟩ m w hs hm (Nat.le_refl 1)).mono ?_;rintro e w' ⟨rfl,rfl⟩;have hl:=Lib.splitB_all ⟨#[c]⟩ (Nat.le_refl 1) 0 _ s rfl;refine ⟨Lib.splitB ⟨#[c]⟩ 0 (Lib.countB s ⟨#[c]⟩) s,?_,by rw [hl],rfl⟩;rw [Lib.splitB_data,<- ziN c _ _ (Nat.le_refl _)];rfl
theorem zdf {w w':World} (h:Below w.heap.size w w'):Ext w w':=⟨h.os,h.tape,h.output,h.size,fun k hk _=>h.block k hk⟩
theorem zoD (s:ByteArray) (n:Int) (w:World) (hs:s.size <= 1000000000) (h:Lib.atoiAll s.data.toList = .ok n) :
 Calls Tryz.prog 39 #[.string s] w fun e w'=>e = .returned (.tuple #[.int .i64 n,.nilIface]) /\ Ext w w':=by
 refine (Any.strconv_Atoi_ok Tryz.shAtoi s (by omega) n h w).mono ?_;rintro e w' ⟨rfl,hw⟩;refine ⟨rfl,?_⟩;rcases hw with rfl | ⟨t,rfl⟩
 . exact ExtM.refl _
 . exact zdf (Lib.bytesWorld_below _ _ _)
section
variable {u u':World} {E P M:Nat} {v0 v1:Value} {D DG:Option Nat} {ents:List Ent} {lo hi md:Int} {st:JSt} {V W:List Out} {f0 f1:Int}
theorem EIs.upJ {st':JSt} (h:EIs u E P M v0 v1 D DG ents lo hi md st V W f0 f1) (hu:JUp u u' P M (zaE P M v0 v1) lo hi md st') (hA:∀ h ∈ st'.a,h.r.ok) (hB:∀ h ∈ st'.b,h.r.ok) :
 EUp u u' E (zeA E P M v0 v1 D DG ents) lo hi md st' V W f0 f1:=by
 obtain ⟨v0',v1',-,h2,h3⟩:=h.joins hu hA hB;exact ⟨hu.1.mono (fun _ _ h=>.inl h),_,⟨_,_,_,_,_,_,_,h2,rfl⟩,h3⟩
end
end Go.Proofs.YtmcgnnmffeojpabGreatDoor
