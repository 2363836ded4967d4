import Derived.Test.YtmcgnnmffeojpabGreatDoorPk11
import Derived.Lib.SliceRun
set_option maxRecDepth 100000
set_option maxHeartbeats 8000000
namespace Go.Proofs.YtmcgnnmffeojpabGreatDoor
open Go.RowKit Go.Plan
def MRow (w:World) (base:Nat) (v:Value) (ms:List Hd):Prop:=w.ownsRow base 131 4 v ms.length (ms.flatMap Hd.cells)
theorem zoo:(Tryz.prog.info? 131).map (fun i=>(i.zero,i.size,i.bytes)) = some (some (.agg #[.int .i64 0,.int .i64 0,.int .i64 0,.int .i64 0]),4,32):=by kernel_rfl
theorem zdR (W:World) (base nb c:Nat) (v:Value) (acc:List Hd) (x:Hd) (ty:TypeId) (hown:MRow W base v acc) (hx:∀ j u,x.cells[j]? = some u -> W.cell? ⟨nb,j,none⟩ = some u) (hl:acc.length < 1000000) (hb:base <= W.heap.size) :
 ∃ v' w',(Builtin.append_ #[67,67] ty #[v,.slice (some ⟨nb,0,none⟩) 1 c]).run Tryz.prog W = .ok v' w' /\ MRow w' base v' (acc ++ [x]) /\ ExtR v.ownBlock W w' /\ (v'.ownBlock = v.ownBlock \/ ∃ k,v'.ownBlock = some k /\ W.heap.size <= k) :=
 zb8 zb9 zgg 67 _ 32 zoo rfl (by decide) Tryz.underlying67 (by decide) W base nb c v acc x ty hown hx hl hb
def zab (key fr to:Int) (h:Hd):Bool:=decide (h.r.k = key) && decide (fr <= h.r.t) && decide (h.r.t <= to)
def bump (h:Hd):Hd:=⟨h.r,wrap64 (h.m + 1)⟩
def zao (p:Hd -> Bool) (h:Hd):Hd:=if p h then bump h else h
theorem HRow.at? {w:World} {p:Option Addr} {n cap:Nat} {hs:List Hd} (h:HRow w (.slice p n cap) hs) (j:Nat) (x:Hd) (hj:hs[j]? = some x):∃ g,p = some ⟨g,0,none⟩ /\ g < w.heap.size /\ zpg w g j x:=by
 obtain ⟨hj',rfl⟩:=List.getElem?_eq_some_iff.1 hj;obtain ⟨p',cap',he,-⟩:=zaa h;injection he with h1 h2 h3;subst h2;exact h.at' j hj'
theorem HRow.setM {w:World} {g n cap:Nat} {hs:List Hd} (h:HRow w (.slice (some ⟨g,0,none⟩) n cap) hs) (j:Nat) (x:Hd) (hj:hs[j]? = some x) (m:Int):HRow (w.setCell ⟨g,j * 4 + 3,none⟩ (.int .i64 m)) (.slice (some ⟨g,0,none⟩) n cap) (hs.set j ⟨x.r,m⟩):=by
 obtain ⟨hj',rfl⟩:=List.getElem?_eq_some_iff.1 hj;obtain ⟨p',cap',he,-⟩:=zaa h;injection he with h1 h2 h3;subst h2;exact zbB zb9 h j 3 hj' (by decide) _ _ rfl
theorem HRow.len {w:World} {p:Option Addr} {n cap:Nat} {hs:List Hd} (h:HRow w (.slice p n cap) hs):n = hs.length:=by
 obtain ⟨p',cap',he,-⟩:=zaa h;injection he
theorem zhx {hs:List Hd} (h:zaD hs) (f:Hd -> Hd) (hf:∀ x,(f x).r = x.r):zaD (hs.map f):=by
 unfold zaD at *;rw [List.pairwise_map];refine h.imp ?_;intro a b hab;unfold leKT at *;rw [hf,hf];exact hab
theorem zi9 (p:Hd -> Bool) (x:Hd):(zao p x).r = x.r:=by unfold zao;split <;> rfl
theorem zfy (base:Nat) (w:World):MRow w base (.slice none 0 0) []:=⟨rfl,.inl ⟨rfl,rfl⟩⟩
theorem _root_.Go.Plan.ExtM.fresh {M N:Nat -> Prop} {a b c:World} (h1:ExtM M a b) (h2:ExtM N b c) (hN:∀ k,k < a.heap.size -> ¬ N k):ExtM M a c :=
 ⟨h2.os.trans h1.os,h2.tape.trans h1.tape,h2.output.trans h1.output,Nat.le_trans h1.size h2.size,fun k hk hn=>(h2.block k (Nat.lt_of_lt_of_le hk h1.size) (hN k hk)).trans (h1.block k hk hn)⟩
def zlX (w w':World) (S o:Nat) (v:Value) (hs:List Hd) (p:Hd -> Bool) (e:Ending):Prop :=
 ∃ vo,e = .returned vo /\ MRow w' w.heap.size vo (hs.filter p) /\ zaz w' S o v (hs.map (zao p)) /\ ExtM (fun k=>v.ownBlock = some k) w w'
theorem ziO (S o:Nat) (v:Value) (hs:List Hd) (key fr to:Int) (w:World) (h:zaz w S o v hs) (hft:to < fr) :
 Calls Tryz.prog 90 #[.pointer (some ⟨S,o,none⟩),.int .i64 key,.int .i64 fr,.int .i64 to] w fun e w'=>zlX w w' S o v hs (zab key fr to) e:=by
 have hd:decide (to < fr) = true:=by simpa using hft
 have hp:∀ x:Hd,zab key fr to x = false:=fun x=>by
  unfold zab;simp;omega
 go_enter Tryz.func90,Tryz.ntmps90;go_wp2;go_ret;refine ⟨_,rfl,?_,?_,ExtM.refl _⟩
 . rw [List.filter_eq_nil_iff.2 (fun a _=>by rw [hp];decide)];exact zfy _ _
 . have:hs.map (zao (zab key fr to)) = hs:=by
    conv=>rhs;rw [<- List.map_id hs]
    exact List.map_congr_left (fun a _=>by unfold zao;rw [hp];rfl)
   rw [this];exact h
def zdE (A R:List Hd) (d:Nat):List Hd:=A ++ ((R.take d).map bump ++ R.drop d)
theorem zj4 {A R:List Hd} {d:Nat} (hd:d < R.length):(zdE A R d)[A.length + d]? = some (R[d]'hd):=by
 unfold zdE;rw [List.getElem?_append_right (by omega),List.getElem?_append_right (by simp;omega)];simp;rw [Nat.min_eq_left (by omega),Nat.sub_self];simp
theorem ziU {A R:List Hd} {d:Nat} (hd:d < R.length):(zdE A R d).set (A.length + d) (bump (R[d]'hd)) = zdE A R (d + 1):=by
 unfold zdE;rw [List.set_append_right _ _ (by omega),List.set_append_right _ _ (by rw [List.length_map,List.length_take];omega),List.length_map,List.length_take,show A.length + d - A.length - min d R.length = 0 by omega,List.drop_eq_getElem_cons hd,List.set_cons_zero,List.take_succ_eq_append_getElem hd,List.map_append,List.append_assoc];rfl
theorem zbn (key fr to:Int) (x:Hd):zab key fr to x = true ↔ x.r.k = key /\ fr <= x.r.t /\ x.r.t <= to:=by
 unfold zab;simp [and_assoc]
theorem zjO {fr to:Int} {x:Hd} (h:za2 x.r.k fr x = false) (ht:x.r.t <= to):zab x.r.k fr to x = true:=by
 have h2:¬ za2 x.r.k fr x = true:=by rw [h];decide
 rw [zaN] at h2;rw [zbn];omega
theorem zix {R:List Hd} {d:Nat} {x:Hd} {key fr to:Int} (hs:zaD R) (hd:d < R.length) (hx:R[d] = x) (ha:za2 key fr x = false) (hn:x.r.k = key -> ¬ x.r.t <= to):∀ y ∈ R.drop d,zab key fr to y = false:=by
 have h2:¬ za2 key fr x = true:=by rw [ha];decide
 rw [zaN] at h2;have hp:(R.drop d).Pairwise leKT:=hs.sublist (List.drop_sublist d R);rw [List.drop_eq_getElem_cons hd,hx] at hp ⊢;have hp:=(List.pairwise_cons.1 hp).1;intro y hy;have hk:leKT x y:=by
  rcases List.mem_cons.1 hy with rfl | hy
  . unfold leKT;omega
  . exact hp y hy
 cases hq:zab key fr to y with
 | false=>rfl
 | true =>
   rw [zbn] at hq;unfold leKT at hk;exfalso;by_cases hxk:x.r.k = key
   . have:=hn hxk;omega
   . omega
theorem zfO {w wr:World} {S o:Nat} {v u:Value} {hs A R:List Hd} {d:Nat} {key fr to:Int} (h:zaz w S o v hs) (hx:ExtM (fun k=>v.ownBlock = some k) w wr) (hrow:HRow wr v (zdE A R d)) (hout:MRow wr w.heap.size u (R.take d)) (hAR:hs = A ++ R)
 (hA:∀ a ∈ A,za2 key fr a = true) (hall:∀ x ∈ R.take d,zab key fr to x = true) (hrest:∀ x ∈ R.drop d,zab key fr to x = false):zlX w wr S o v hs (zab key fr to) (.returned u):=by
 have hA':∀ a ∈ A,zab key fr to a = false:=fun a ha=>by
  have h1:=hA a ha;rw [zaN] at h1;cases hq:zab key fr to a with
  | false=>rfl
  | true=>rw [zbn] at hq;omega
 have e1:hs.filter (zab key fr to) = R.take d:=by
  rw [hAR,List.filter_append,List.filter_eq_nil_iff.2 (fun a ha=>by rw [hA' a ha];decide),List.nil_append]
  conv=>lhs;rw [<- List.take_append_drop d R]
  rw [List.filter_append,List.filter_eq_self.2 hall,List.filter_eq_nil_iff.2 (fun a ha=>by rw [hrest a ha];decide),List.append_nil]
 have e2:hs.map (zao (zab key fr to)) = zdE A R d:=by
  unfold zdE
  conv=>lhs;rw [hAR,<- List.take_append_drop d R]
  rw [List.map_append,List.map_append];have g1:A.map (zao (zab key fr to)) = A:=by
   conv=>rhs;rw [<- List.map_id A]
   exact List.map_congr_left (fun a ha=>by unfold zao;rw [hA' a ha];rfl)
  have g2:(R.take d).map (zao (zab key fr to)) = (R.take d).map bump:=List.map_congr_left (fun a ha=>by unfold zao;rw [hall a ha];rfl);have g3:(R.drop d).map (zao (zab key fr to)) = R.drop d:=by
   conv=>rhs;rw [<- List.map_id (R.drop d)]
   exact List.map_congr_left (fun a ha=>by unfold zao;rw [hrest a ha];rfl)
  rw [g1,g2,g3]
 refine ⟨u,rfl,by rw [e1];exact hout,?_,hx⟩;rw [e2];exact ⟨(ExtM.cell hx (p:=⟨S,o,none⟩) h.lt h.own).trans h.c0,(ExtM.frozen hx (p:=⟨S,o,none⟩) h.lt h.own).trans h.fz,hrow,by rw [<- e2];exact zhx h.srt _ (zi9 _),h.own⟩
theorem zjm (S o:Nat) (v:Value) (hs:List Hd) (key fr to:Int) (w:World) (h:zaz w S o v hs) (hft:fr <= to) (hl:hs.length < 1000000) :
 Calls Tryz.prog 90 #[.pointer (some ⟨S,o,none⟩),.int .i64 key,.int .i64 fr,.int .i64 to] w fun e w'=>zlX w w' S o v hs (zab key fr to) e:=by
 have hd:decide (to < fr) = false:=by simp;omega
 obtain ⟨A,R,hAR,hA,hR,hN⟩:∃ A R,hs = A ++ R /\ (∀ a ∈ A,za2 key fr a = true) /\ (∀ a ∈ R,za2 key fr a = false) /\ fromN key fr hs = A.length:=by
  obtain ⟨h1,h2⟩:=zcT h.srt key fr;exact ⟨_,_,(List.take_append_drop _ hs).symm,h1,h2,by rw [List.length_take,Nat.min_eq_left (zdJ _ _ _)]⟩
 have HL:=Lib.hid (show hs.length = A.length + R.length by rw [hAR,List.length_append]);have HAR:=Lib.hid hAR;clear hAR;obtain ⟨p,cap,rfl,-⟩:=zaa h.row;have hfrom:=fun u hu=>zll S o _ hs key fr u (h.ext hu) hl;rw [hN] at hfrom;have hown:=h.own;have hSlt:=h.lt;go_enter Tryz.func90,Tryz.ntmps90
 go_wp2_with (
  go_at_call 129;refine (hfrom _ (by first | exact ExtM.refl _ | exact (ExtM.refl _).drew)).mono ?_
  rintro e w1 ⟨rfl,hx1⟩)
 have hst:HRow w1 (.slice p hs.length cap) (zdE A R 0):=by
  have:zdE A R 0 = hs:=by unfold zdE;rw [HAR.out];simp
  rw [this];exact h.row.extF hx1
 go_loopg [9,10] hs.length (fun kx s9 s10 wr=>∃ d:Nat,s10 = .int .i64 ((A.length + d:Nat):Int) /\ d <= R.length /\ R.length - d <= kx /\ ExtM (fun k=>(Value.slice p hs.length cap).ownBlock = some k) w wr /\ HRow wr (.slice p hs.length cap) (zdE A R d) /\ MRow wr w.heap.size s9 (R.take d) /\ (∀ x ∈ R.take d,zab key fr to x = true))
 case atStart=>exact ⟨0,by simp,Nat.zero_le _,by have:=HL.out;omega,hx1.mono (fun _ _ h=>h.elim),hst,zfy _ _,fun x hx=>by simp at hx⟩
 case round =>
  obtain ⟨d,rfl,hdl,hgk,hx,hrow,hout,hall⟩:=hrel;have c0:wr.cell? ⟨S,o,none⟩ = some (.slice p hs.length cap):=(ExtM.cell hx (p:=⟨S,o,none⟩) hSlt hown).trans h.c0;by_cases hdn:d < R.length
  . have hat:=zj4 (A:=A) hdn;obtain ⟨g,rfl,hgl,⟨e0,e1,e2,e3,fz⟩⟩:=hrow.at? _ _ hat;have hid:A.length + d < hs.length:=by have:=HL.out;omega
    have hi1:decide (((A.length + d:Nat):Int) < (hs.length:Int)) = true:=by simp;omega
    have hset:=ziU (A:=A) hdn;have htk:=List.take_succ_eq_append_getElem hdn;generalize hR0:R[d] = x at *;have HX:=Lib.hid hR0;have HS:=Lib.hid hset;have HT:=Lib.hid htk;have HAT:=Lib.hid hat;generalize hI:A.length + d = i at *;have HI:=Lib.hid hI;have hxm:x ∈ R:=by rw [<- hR0];exact List.getElem_mem hdn
    have hsrt:zaD R:=by have:=h.srt;rw [HAR.out] at this;exact (List.pairwise_append.1 this).2.1
    clear hset hat hR0 htk hI;by_cases hk:x.r.k = key
    . subst hk;by_cases ht:x.r.t <= to
      . have hvo:∀ k,u9.ownBlock = some k -> w.heap.size <= k /\ k < wr.heap.size:=fun k hk=>zaf hout k hk;have hSr:S < wr.heap.size:=by have:=hx.size;omega
        have hgw:g < w.heap.size:=(zaf h.row g rfl).2;have hnS:¬ u9.ownBlock = some S:=fun e=>by have:=hvo _ e;omega
        have hng:¬ u9.ownBlock = some g:=fun e=>by have:=hvo _ e;omega
        obtain ⟨v',w',happ,hown',hgr,hloc⟩:=zdR (wr.drew.alloc (.cells #[.int .i64 x.r.k,.int .i64 x.r.t,.int .i64 x.r.v,.int .i64 x.m] 131)) w.heap.size wr.heap.size 1 u9 (R.take d) x 67
         (zag hout ((ExtM.refl wr).drew.alloc _:Ext wr _) (fun _ _ h=>h)) (fun j u hj=>(World.cell?_alloc_at (w:=wr.drew) _ _ wr.heap.size j rfl).trans (by simpa [Hd.cells] using hj)) (by rw [List.length_take];have:=HL.out;omega) (by have:=hx.size;simp;omega)
        go_wp2_with fail;have hgr':ExtR u9.ownBlock wr w':=ExtR.trans _ _ _ ((ExtR.refl wr).drew.alloc _) hgr;refine Plan.b0 (Plan.ExtR u9.ownBlock) 21 ?_;refine Plan.qs 12 [0,1,2,3,4,5,6,7,8,9,10,11] ?_;iterate 12 go_big_quiet_step (fail)
        refine Plan.qs 6 [12,13,14,15,16,17] ?_;iterate 6 go_big_quiet_step (fail)
        refine Plan.o1 18 fun K hK=>?_;go_wp2_with (fail);refine hK _ _ ((ExtM.refl _).alloc _) ?_;clear hK K;refine Plan.o1 19 fun K hK=>?_;refine zaw (happ) rfl _ _ rfl rfl rfl ?_;refine hK _ _ (hgr) ?_;simp only [Act.put,List.setIfInBounds_toArray,List.set_cons_succ,List.set_cons_zero];clear hK K;refine Plan.qs 1 [20] ?_;go_big_quiet_step (fail);refine Plan.dn ?_;have hc:=hgr'.rules.1;have hf:=hgr'.rules.2.1;have c0':w'.cell? ⟨S,o,none⟩ = _:=(hc _ _ hSr hnS).trans c0;have e3':w'.cell? ⟨g,i * 4 + 3,none⟩ = _:=(hc _ _ hgl hng).trans e3;have fz':=fun q=>(hf g q hgl hng).trans (fz q);clear hc hf c0 e0 e1 e2 e3 fz happ;go_wp2_with fail;go_roundg (R.length - (d + 1))
        case measure=>omega
        case rel =>
         have hv':∀ k,v'.ownBlock = some k -> g ≠ k:=fun k hk e=>by
          subst e;rcases hloc with h1 | ⟨k',h1,h2⟩
          . exact hng (h1 ▸ hk)
          . rw [h1] at hk
            have:=Option.some.inj hk
            simp at h2;omega
         refine ⟨d + 1,by rw [<- HI.out];rfl,by omega,Nat.le_refl _,?_,?_,?_,?_⟩
         . exact ExtM.setCell (p:=⟨g,i * 4 + 3,none⟩) (hx.fresh hgr' (fun k hk e=>by have:=hvo k e;omega)) (.inr rfl) _
         . have:=(hrow.ext hgr' (fun k hk e=>hng (by rw [<- hk] at e;exact e))).setM i x HAT.out (wrap64 (x.m + 1))
           rw [<- HS.out];exact this
         . rw [HT.out];exact zag hown' (ExtM.setCell (M:=fun k=>g = k) (ExtM.refl w') (p:=⟨g,_,none⟩) (.inr rfl) _) hv'
         . rw [HT.out];intro y hy;rcases List.mem_append.1 hy with hy | hy
           . exact hall y hy
           . rw [List.mem_singleton.1 hy];exact zjO (hR x hxm) ht
      . have hd1:decide (x.r.t <= to) = false:=by simpa using ht
        go_wp2_with fail;go_ret;exact zfO h hx hrow hout HAR.out hA hall (zix hsrt hdn HX.out (hR x hxm) (fun _=>by omega))
    . have hd1:decide (x.r.k = key) = false:=by simpa using hk
      go_wp2_with fail;go_ret;exact zfO h hx hrow hout HAR.out hA hall (zix hsrt hdn HX.out (hR x hxm) (fun e=>absurd e hk))
  . generalize hI:A.length + d = i at *;have hd1:¬ i < hs.length:=by have:=HL.out;omega
    clear hI;go_wp2_with fail;go_ret;exact zfO h hx hrow hout HAR.out hA hall (fun y hy=>by rw [List.drop_eq_nil_of_le (by omega)] at hy;cases hy)
theorem zpp (S o:Nat) (v:Value) (hs:List Hd) (key fr to:Int) (w:World) (h:zaz w S o v hs) (hl:hs.length < 1000000) :
 Calls Tryz.prog 90 #[.pointer (some ⟨S,o,none⟩),.int .i64 key,.int .i64 fr,.int .i64 to] w fun e w'=>zlX w w' S o v hs (zab key fr to) e:=by
 rcases (by omega:to < fr \/ fr <= to) with h1 | h1
 . exact ziO S o v hs key fr to w h h1
 . exact zjm S o v hs key fr to w h h1 hl
theorem zoV (S o:Nat) (v:Value) (hs:List Hd) (w:World) (h:zaz w S o v hs) (hl:hs.length < 1000000) :
 Calls Tryz.prog 105 #[.pointer (some ⟨S,o,none⟩)] w fun e w'=>∃ vo,e = .returned vo /\ MRow w' w.heap.size vo hs /\ Ext w w':=by
 obtain ⟨p,cap,rfl,-⟩:=zaa h.row;have c0:=h.c0;go_enter Tryz.func105,Tryz.ntmps105;go_wp2;go_loopg [3,11] hs.length (fun kx s3 s11 wr=>∃ d:Nat,s11 = .int .i64 (d:Int) /\ d <= hs.length /\ hs.length - d <= kx /\ Ext w wr /\ MRow wr w.heap.size s3 (hs.take d))
 case atStart=>exact ⟨0,rfl,Nat.zero_le _,by omega,ExtM.refl _,zfy _ _⟩
 case round =>
  obtain ⟨d,rfl,hdl,hgk,hx,hout⟩:=hrel;by_cases hdn:d < hs.length
  . obtain ⟨g,rfl,hgl,⟨e0,e1,e2,e3,fz⟩⟩:=(h.row.extF hx).at' d hdn;have HT:=Lib.hid (List.take_succ_eq_append_getElem hdn);generalize hs[d] = x at *;have hsz:=hx.size;obtain ⟨v',w',happ,hown',hgr,hloc⟩:=zdR ((wr.alloc (.cells #[.int .i64 x.r.k,.int .i64 x.r.t,.int .i64 x.r.v,.int .i64 x.m] 214)).alloc (.cells #[.int .i64 x.r.k,.int .i64 x.r.t,.int .i64 x.r.v,.int .i64 x.m] 131)) w.heap.size (wr.heap.size + 1) 1 u3 (hs.take d) x 67
     (zag hout (((ExtM.refl wr).alloc _).alloc _:Ext wr _) (fun _ _ h=>h)) (fun j u hj=>(World.cell?_alloc_at _ _ _ j (by simp)).trans (by simpa [Hd.cells] using hj)) (by rw [List.length_take];omega) (by simp;omega)
    have hx2:Ext w w':=(hx.fresh (ExtM.trans _ _ _ (((ExtM.refl wr).alloc _).alloc _) hgr) (fun k hk e=>by have:=zaf hout k e;omega))
    go_wp2_with (at_builtin;refine wpList_append_run happ rfl rfl _ _ rfl rfl rfl ?_;clear happ);go_roundg (hs.length - (d + 1))
    case measure=>omega
    case rel=>exact ⟨d + 1,rfl,by omega,Nat.le_refl _,hx2,by rw [HT.out];exact hown'⟩
  . go_wp2_with fail;go_ret;exact ⟨_,rfl,by rw [List.take_of_length_le (by omega)] at hout;exact hout,hx⟩
def ze4 (to:Int) (h:Hd):Bool:=decide (h.r.t <= to)
def zeq (B:Nat):Value:=.func (.func 138) #[] #[.pointer (some ⟨B,0,none⟩)]
theorem zic (to:Int) (B:Nat) (h:Hd) (w:World) (hB:w.cell? ⟨B,0,none⟩ = some (.int .i64 to)) :
 Calls Tryz.prog 138 #[.agg #[.int .i64 h.r.k,.int .i64 h.r.t,.int .i64 h.r.v,.int .i64 h.m],.pointer (some ⟨B,0,none⟩)] w fun e w'=>e = .returned (.bool (ze4 to h)) /\ Ext w w':=by
 have hlt:B < w.heap.size:=by
  unfold World.cell? at hB;split at hB
  . rename_i hb;exact (Array.getElem?_eq_some_iff.1 hb).1
  . cases hB
 go_enter Tryz.func138,Tryz.ntmps138;go_wp2;go_ret;exact ⟨rfl,(ExtM.refl _).alloc _⟩
theorem zex (v:Value) (hs:List Hd) (to:Int) (B:Nat) (w:World) (h:HRow w v hs) (hl:hs.length < 1000000) (hB:w.cell? ⟨B,0,none⟩ = some (.int .i64 to)) :
 Calls Tryz.prog 185 #[v,zeq B] w fun e w'=>Ext w w' /\ ((e = .returned (.int .i64 (-1)) /\ ∀ x ∈ hs,ze4 to x = false) \/ ∃ (k:Nat) (x:Hd),e = .returned (.int .i64 k) /\ hs[k]? = some x /\ k < hs.length /\ ze4 to x = true /\ ∀ y ∈ hs.take k,ze4 to y = false):=by
 have hBl:B < w.heap.size:=by
  unfold World.cell? at hB;split at hB
  . rename_i hb;exact (Array.getElem?_eq_some_iff.1 hb).1
  . cases hB
 obtain ⟨p,cap,rfl,-⟩:=zaa h;unfold zeq;go_enter Tryz.func185,Tryz.ntmps185;go_wp2;go_loopg [8] hs.length (fun kx s8 wr=>∃ d:Nat,s8 = .int .i64 (d:Int) /\ d <= hs.length /\ hs.length - d <= kx /\ Ext w wr /\ (∀ y ∈ hs.take d,ze4 to y = false))
 case atStart=>exact ⟨0,rfl,Nat.zero_le _,by omega,ExtM.refl _,fun y hy=>by simp at hy⟩
 case round =>
  obtain ⟨d,rfl,hdl,hgk,hx,hall⟩:=hrel;have hB':=(hx.cell (p:=⟨B,0,none⟩) hBl (fun h=>h)).trans hB;by_cases hdn:d < hs.length
  . obtain ⟨g,rfl,hgl,⟨e0,e1,e2,e3,fz⟩⟩:=(h.extF hx).at' d hdn;have hcl:=zic to B hs[d] wr hB';have HT:=Lib.hid (List.take_succ_eq_append_getElem hdn);have HD:=Lib.hid (List.getElem?_eq_getElem hdn);generalize hs[d] = x at *;cases hq:ze4 to x with
    | true =>
      rw [hq] at hcl;go_wp2_with (go_at_call 138;refine hcl.mono ?_;rintro e w1 ⟨rfl,hx1⟩);go_ret;exact ⟨ExtM.trans _ _ _ hx hx1,.inr ⟨d,x,rfl,HD.out,hdn,hq,hall⟩⟩
    | false =>
      rw [hq] at hcl;go_wp2_with (go_at_call 138;refine hcl.mono ?_;rintro e w1 ⟨rfl,hx1⟩);go_roundg (hs.length - (d + 1))
      case measure=>omega
      case rel =>
       refine ⟨d + 1,rfl,by omega,Nat.le_refl _,ExtM.trans _ _ _ hx hx1,fun y hy=>?_⟩;rw [HT.out] at hy;rcases List.mem_append.1 hy with hy | hy
       . exact hall y hy
       . rw [List.mem_singleton.1 hy];exact hq
  . go_wp2_with fail;go_ret;rw [List.take_of_length_le (by omega)] at hall;exact ⟨hx,.inl ⟨rfl,hall⟩⟩
theorem zhh (w:World) (b o n c:Nat) (hn:0 < n) (hc:∀ j,j < n * 4 -> (w.cell? ⟨b,o + j,none⟩).isSome = true) (hf:∀ j,j < n * 4 -> w.frozen? ⟨b,o + j,none⟩ = false) :
 ∃ zs,zs.length = n * 4 /\ ∀ ty,(Builtin.clear_ #[163] ty #[.slice (some ⟨b,o,none⟩) n c]).run Tryz.prog w = .ok (.tuple #[]) (w.setCells b o zs):=by
 have hl:(Builtin.zeroCells (Value.agg #[.int .i64 0,.int .i64 0,.int .i64 0,.int .i64 0]).cells n).toList.length = n * 4:=by
  rw [Array.length_toList];exact zen n
 refine ⟨_,hl,fun ty=>?_⟩;have h1:∀ v ∈ (Builtin.zeroCells (Value.agg #[.int .i64 0,.int .i64 0,.int .i64 0,.int .i64 0]).cells n).toList,v.oneCell' = true:=by
  intro v hv;simp [Builtin.zeroCells,Value.cells] at hv;obtain ⟨a,-,rfl⟩:=hv;have:a % 4 < 4:=Nat.mod_lt _ (by decide);generalize a % 4 = q at *;match q,this with
  | 0,_=>rfl
  | 1,_=>rfl
  | 2,_=>rfl
  | 3,_=>rfl
 have hst:=run_storeCells_cells (P:=Tryz.prog) b o _ 0 w (by rw [hl];simpa using hc) (by rw [hl];simpa using hf) h1;simp only [Nat.add_zero] at hst;obtain ⟨m,rfl⟩:∃ m,n = m + 1:=⟨n - 1,by omega⟩
 have hu:=run_underlying (w:=w) Tryz.underlying163;simp [Builtin.clear_,hu,hst]
theorem HRow.set0 {w:World} {g n cap:Nat} {hs:List Hd} (h:HRow w (.slice (some ⟨g,0,none⟩) n cap) hs) (j:Nat) (x:Hd) (hj:hs[j]? = some x) (m:Int):HRow (w.setCell ⟨g,j * 4,none⟩ (.int .i64 m)) (.slice (some ⟨g,0,none⟩) n cap) (hs.set j ⟨⟨m,x.r.t,x.r.v⟩,x.m⟩):=by
 obtain ⟨hj',rfl⟩:=List.getElem?_eq_some_iff.1 hj;obtain ⟨p',cap',he,-⟩:=zaa h;injection he with h1 h2 h3;subst h2;exact zbB zb9 h j 0 hj' (by decide) _ _ rfl
theorem HRow.set1 {w:World} {g n cap:Nat} {hs:List Hd} (h:HRow w (.slice (some ⟨g,0,none⟩) n cap) hs) (j:Nat) (x:Hd) (hj:hs[j]? = some x) (m:Int):HRow (w.setCell ⟨g,j * 4 + 1,none⟩ (.int .i64 m)) (.slice (some ⟨g,0,none⟩) n cap) (hs.set j ⟨⟨x.r.k,m,x.r.v⟩,x.m⟩):=by
 obtain ⟨hj',rfl⟩:=List.getElem?_eq_some_iff.1 hj;obtain ⟨p',cap',he,-⟩:=zaa h;injection he with h1 h2 h3;subst h2;exact zbB zb9 h j 1 hj' (by decide) _ _ rfl
theorem HRow.set2 {w:World} {g n cap:Nat} {hs:List Hd} (h:HRow w (.slice (some ⟨g,0,none⟩) n cap) hs) (j:Nat) (x:Hd) (hj:hs[j]? = some x) (m:Int):HRow (w.setCell ⟨g,j * 4 + 2,none⟩ (.int .i64 m)) (.slice (some ⟨g,0,none⟩) n cap) (hs.set j ⟨⟨x.r.k,x.r.t,m⟩,x.m⟩):=by
 obtain ⟨hj',rfl⟩:=List.getElem?_eq_some_iff.1 hj;obtain ⟨p',cap',he,-⟩:=zaa h;injection he with h1 h2 h3;subst h2;exact zbB zb9 h j 2 hj' (by decide) _ _ rfl
theorem HRow.setAll {w:World} {g n cap:Nat} {hs:List Hd} (h:HRow w (.slice (some ⟨g,0,none⟩) n cap) hs) (j:Nat) (hj:j < hs.length) (y:Hd) :
 HRow ((((w.setCell ⟨g,j * 4,none⟩ (.int .i64 y.r.k)).setCell ⟨g,j * 4 + 1,none⟩ (.int .i64 y.r.t)).setCell ⟨g,j * 4 + 2,none⟩ (.int .i64 y.r.v)).setCell ⟨g,j * 4 + 3,none⟩ (.int .i64 y.m)) (.slice (some ⟨g,0,none⟩) n cap) (hs.set j y):=by
 have g1:∀ (l:List Hd) (z:Hd),l.length = hs.length -> (l.set j z)[j]? = some z:=fun l z hl=>by rw [List.getElem?_set_self (by omega)]
 have h1:=h.set0 j _ (List.getElem?_eq_getElem hj) y.r.k;have h2:=h1.set1 j _ (g1 _ _ rfl) y.r.t;have h3:=h2.set2 j _ (g1 _ _ (by simp)) y.r.v;have h4:=h3.setM j _ (g1 _ _ (by simp)) y.m;simp only [List.set_set] at h4;exact h4
theorem zgN (g cap:Nat) (hs:List Hd) (to:Int) (B:Nat) (w:World) (h:HRow w (.slice (some ⟨g,0,none⟩) hs.length cap) hs) (hl:hs.length < 1000000) (hB:w.cell? ⟨B,0,none⟩ = some (.int .i64 to)) (hBg:B ≠ g) :
 Calls Tryz.prog 137 #[.slice (some ⟨g,0,none⟩) hs.length cap,zeq B] w fun e w'=>∃ n,e = .returned (.slice (some ⟨g,0,none⟩) n cap) /\ HRow w' (.slice (some ⟨g,0,none⟩) n cap) (hs.filter (fun x=>!ze4 to x)) /\ ExtM (fun k=>k = g) w w':=by
 have hif:=zex _ hs to B w h hl hB;have hBl:B < w.heap.size:=by
  unfold World.cell? at hB;split at hB
  . rename_i hb;exact (Array.getElem?_eq_some_iff.1 hb).1
  . cases hB
 have hdf:zeq B = .func (.func 138) #[] #[.pointer (some ⟨B,0,none⟩)]:=rfl;go_enter Tryz.func137,Tryz.ntmps137;go_wp2_with (go_at_call 185;refine hif.mono ?_;rintro e w1 ⟨hx1,⟨rfl,hno⟩ | ⟨k,x,rfl,hk,hkl,hdx,hpre⟩⟩)
 . go_ret;refine ⟨hs.length,rfl,?_,hx1.mono (fun _ _ h=>h.elim)⟩;rw [List.filter_eq_self.2 (fun a ha=>by rw [hno a ha];rfl)];exact h.extF hx1
 . have hst:hs.take k = (hs.take (k + 1)).filter (fun x=>!ze4 to x):=by
    obtain ⟨_,rfl⟩:=List.getElem?_eq_some_iff.1 hk;rw [List.take_succ_eq_append_getElem hkl,List.filter_append,List.filter_eq_self.2 (fun a ha=>by rw [hpre a ha];rfl),List.filter_eq_nil_iff.2 (fun a ha=>by rw [List.mem_singleton.1 ha,hdx];decide),List.append_nil]
   have hr1:=h.extF hx1;go_loopg [5,6] hs.length (fun kx s5 s6 wr=>∃ (i j:Nat) (cur:List Hd),s5 = .int .i64 (i:Int) /\ s6 = .int .i64 (j:Int) /\ i < j /\ j <= hs.length /\ hs.length - j <= kx /\ HRow wr (.slice (some ⟨g,0,none⟩) hs.length cap) cur /\ cur.take i = (hs.take j).filter (fun x=>!ze4 to x) /\ cur.drop j = hs.drop j /\ ExtM (fun k=>k = g) w wr)
   case atStart=>exact ⟨k,k + 1,hs,rfl,by go_num,by omega,by omega,by omega,hr1,hst,rfl,hx1.mono (fun _ _ h=>h.elim)⟩
   case round =>
    obtain ⟨i,j,cur,rfl,rfl,hij,hjn,hgk,hrow,htk,hdr,hx⟩:=hrel;have hlen:cur.length = hs.length:=hrow.len.symm;have HL:=Lib.hid hlen;clear hlen;by_cases hjl:j < hs.length
    . have hcj:cur[j]? = some (hs[j]'hjl):=by
       have:=congrArg List.head? hdr
       rw [List.head?_drop,List.head?_drop,List.getElem?_eq_getElem hjl] at this;exact this
      obtain ⟨g',hg',hgl,⟨e0,e1,e2,e3,fz⟩⟩:=hrow.at? _ _ hcj;obtain rfl:g = g':=by injection hg' with hg';injection hg'
      clear hg';have HT:=Lib.hid (List.take_succ_eq_append_getElem hjl);have HC:=Lib.hid hcj;have HTK:=Lib.hid htk;have HDR:=Lib.hid hdr;generalize hs[j] = x at *;clear hcj htk hdr;have hB':∀ u,ExtM (fun k=>k = g) w u -> u.cell? ⟨B,0,none⟩ = some (.int .i64 to):=fun u hu=>(hu.cell (p:=⟨B,0,none⟩) hBl hBg).trans hB;have hd2:HRow wr (.slice (some ⟨g,0,none⟩) hs.length cap) cur:=hrow;have hcl:=zic to B x (wr.alloc (.cells #[.int .i64 x.r.k,.int .i64 x.r.t,.int .i64 x.r.v,.int .i64 x.m] 214)) (hB' _ (hx.alloc _));have htk':∀ b,ze4 to x = b -> (hs.take (j + 1)).filter (fun x=>!ze4 to x) = if b = true then cur.take i else cur.take i ++ [x]:=fun b hb=>by
       rw [HT.out,List.filter_append,<- HTK.out];cases b <;> simp [hb]
      have hdr':∀ c:List Hd,c.drop j = hs.drop j -> c.drop (j + 1) = hs.drop (j + 1):=fun c hc=>by
       have:=congrArg (List.drop 1) hc
       rwa [List.drop_drop,List.drop_drop] at this
      have HF:=Lib.hid htk';have HD2:=Lib.hid hdr';clear htk' hdr' hif hk hdx hpre hst hr1 hd2 h hB;cases hq:ze4 to x with
      | true =>
        rw [hq] at hcl;have HQ:=Lib.hid hq;clear hq;go_wp2_with (go_at_call 138;refine hcl.mono ?_;rintro e w2 ⟨rfl,hx2⟩);have hx2':Ext wr w2:=ExtM.trans _ _ _ ((ExtM.refl wr).alloc _) hx2;go_roundg (hs.length - (j + 1))
        case measure=>omega
        case rel =>
         exact ⟨i,j + 1,cur,rfl,by go_num,by omega,by omega,Nat.le_refl _,hrow.extF hx2',by rw [HF.out _ HQ.out,if_pos rfl],HD2.out cur HDR.out,ExtM.trans _ _ _ hx (hx2'.mono (fun _ _ h=>h.elim))⟩
      | false =>
        rw [hq] at hcl;have HQ:=Lib.hid hq;clear hq;obtain ⟨y,hy⟩:∃ y,cur[i]? = some y:=⟨_,List.getElem?_eq_getElem (by have:=HL.out;omega)⟩
        obtain ⟨g',hg',-,⟨f0,f1,f2,f3,-⟩⟩:=hrow.at? _ _ hy;obtain rfl:g = g':=by injection hg' with hg';injection hg'
        have HY:=Lib.hid hy;clear hg' hy
        go_wp2_with (
         go_at_call 138;refine hcl.mono ?_;rintro e w2 ⟨rfl,hx2⟩;have hx2':Ext wr w2:=ExtM.trans _ _ _ ((ExtM.refl wr).alloc _) hx2;have b0:w2.cell? ⟨wr.heap.size,0,none⟩ = some (.int .i64 x.r.k):=(hx2.rules.1 _ _ (by simp)).trans (by go_simp);have b1:w2.cell? ⟨wr.heap.size,1,none⟩ = some (.int .i64 x.r.t):=(hx2.rules.1 _ _ (by simp)).trans (by go_simp);have b2:w2.cell? ⟨wr.heap.size,2,none⟩ = some (.int .i64 x.r.v):=(hx2.rules.1 _ _ (by simp)).trans (by go_simp);have b3:w2.cell? ⟨wr.heap.size,3,none⟩ = some (.int .i64 x.m):=(hx2.rules.1 _ _ (by simp)).trans (by go_simp);have q0:=(hx2'.rules.1 _ _ hgl).trans f0;have q1:=(hx2'.rules.1 _ _ hgl).trans f1;have q2:=(hx2'.rules.1 _ _ hgl).trans f2;have q3:=(hx2'.rules.1 _ _ hgl).trans f3
         have qz:∀ o,w2.frozen? ⟨g,o,none⟩ = false:=fun o=>(hx2'.rules.2.1 _ _ hgl).trans (fz o))
        go_roundg (hs.length - (j + 1))
        case measure=>omega
        case rel =>
         have hil:i < cur.length:=by have:=HL.out;omega
         have h5:=(hrow.extF hx2').setAll i hil x;refine ⟨i + 1,j + 1,cur.set i x,by go_num,by go_num,by omega,by omega,Nat.le_refl _,h5,?_,?_,?_⟩
         . rw [HF.out _ HQ.out,if_neg (by decide),List.take_set,List.take_succ_eq_append_getElem hil,List.set_append_right _ _ (by rw [List.length_take];omega),List.length_take,show i - min i cur.length = 0 by omega];rfl
         . refine HD2.out _ ?_;rw [List.drop_set_of_lt (by omega)];exact HDR.out
         . have h6:ExtM (fun k=>k = g) w w2:=ExtM.trans _ _ _ hx (hx2'.mono (fun _ _ h=>h.elim));exact ExtM.setCell (p:=⟨g,_,none⟩) (ExtM.setCell (p:=⟨g,_,none⟩) (ExtM.setCell (p:=⟨g,_,none⟩) (ExtM.setCell (p:=⟨g,_,none⟩) h6 (.inr rfl) _) (.inr rfl) _) (.inr rfl) _) (.inr rfl) _
    . have hjn2:j = hs.length:=by omega
      rw [hjn2,List.take_length] at htk;have HJ:=Lib.hid hjn2;have HTK:=Lib.hid htk;clear htk hdr hjn2 hst hr1 hpre hdx hk hif;have hin:i < hs.length:=by omega
      obtain ⟨cap',f,hcap',hg,hnc,hc63,hf⟩:∃ cap' f,cap' = cap /\ wr.rowIs g 214 (cap' * 4) f /\ cur.length <= cap' /\ cap' <= maxLen /\ ∀ j,j < cur.length * 4 -> (cur.flatMap Hd.cells)[j]? = some (f j):=by
       rcases zbJ hrow with ⟨h1,-⟩ | ⟨g',cap',f,h1,-,hg,hnc,hc63,hf⟩
       . cases h1
       injection h1 with h1 h2 h3;injection h1 with h1;injection h1 with h1;subst h1;exact ⟨cap',f,h3.symm,hg,hnc,hc63,hf⟩
      subst hcap';have hnc':hs.length <= cap':=by have:=HL.out;omega
      obtain ⟨zs,hzl,hcl⟩:=zhh wr g (i * 4) (hs.length - i) (cap' - i) (by omega) (fun j hj=>by rw [hg.cell (by omega)];rfl) (fun j _=>hg.frozen _);have hg2:=rowIs_setCells zs (i * 4) wr f hg;have hx2:ExtM (fun k=>k = g) w (wr.setCells g (i * 4) zs):=ExtM.trans _ _ _ hx (za8 _ _ _ _);have hP:HRow (wr.setCells g (i * 4) zs) (.slice (some ⟨g,0,none⟩) i cap') (hs.filter (fun x=>!ze4 to x)):=by
       have hli:(cur.take i).length = i:=by rw [List.length_take];have:=HL.out;omega
       rw [<- HTK.out];unfold HRow;rw [hli];refine zcx hg2 (Nat.zero_le _) (by omega) hc63 (by rw [zbL,hli]) (fun q hq=>?_);rw [if_neg (by omega),zgu zb9,List.getElem?_take_of_lt hq];exact hf q (by have:=HL.out;omega)
      clear hg2 hg hf;unfold maxLen at hc63;go_wp2_with fail
      all_goals
       go_ret;exact ⟨i,rfl,hP,hx2⟩
def zeC (to:Int) (hs:List Hd):List Hd:=hs.filter (fun x=>!ze4 to x)
theorem zpu (w:World):HRow w (.slice none 0 0) []:=⟨rfl,.inl ⟨rfl,rfl⟩⟩
theorem ze6 (v:Value) (hs:List Hd) (to:Int) (B:Nat) (w:World) (h:HRow w v hs) (hl:hs.length < 1000000) (hB:w.cell? ⟨B,0,none⟩ = some (.int .i64 to)) (hBg:v.ownBlock ≠ some B) :
 Calls Tryz.prog 137 #[v,zeq B] w fun e w'=>∃ v',e = .returned v' /\ v'.ownBlock = v.ownBlock /\ HRow w' v' (zeC to hs) /\ ExtM (fun k=>v.ownBlock = some k) w w':=by
 rcases h.2 with ⟨rfl,h0⟩ | ⟨g,cap,cur,rfl,-⟩
 . obtain rfl:=List.eq_nil_of_length_eq_zero h0;have hif:=zex _ [] to B w h (by simp) hB;have hdf:zeq B = .func (.func 138) #[] #[.pointer (some ⟨B,0,none⟩)]:=rfl;go_enter Tryz.func137,Tryz.ntmps137;go_wp2_with (go_at_call 185;refine hif.mono ?_;rintro e w1 ⟨hx1,⟨rfl,hno⟩ | ⟨k,x,rfl,hk,-⟩⟩)
   . go_ret;exact ⟨_,rfl,rfl,zpu _,hx1.mono (fun _ _ h=>h.elim)⟩
 . exact (zgN g cap hs to B w h hl hB (fun e=>hBg (by rw [e];rfl))).mono fun e w' ⟨n,he,hr,hx⟩=>⟨_,he,rfl,hr,hx.mono (fun k _ e=>by rw [e];rfl)⟩
theorem zne (S o:Nat) (v:Value) (hs:List Hd) (to:Int) (w:World) (h:zaz w S o v hs) (hl:hs.length < 1000000) :
 Calls Tryz.prog 101 #[.pointer (some ⟨S,o,none⟩),.int .i64 to] w fun e w'=>e = .returned (.int .i64 ((hs.length - (zeC to hs).length:Nat):Int)) /\ zco w w' S o v (zeC to hs):=by
 have hle:(zeC to hs).length <= hs.length:=List.length_filter_le _ _;have hlt:=h.lt;have hx1:Ext w (w.alloc (.cells #[.int .i64 to] 3)):=(ExtM.refl w).alloc _;have h1:=h.ext hx1;have c0:=h.c0;have fz:=h.fz;have hdel:=ze6 v hs to w.heap.size _ h1.row hl (by go_simp) (h.row.ne (Nat.le_refl _));have hdf:zeq w.heap.size = .func (.func 138) #[] #[.pointer (some ⟨w.heap.size,0,none⟩)]:=rfl;obtain ⟨p,cap,rfl,-⟩:=zaa h.row;have hown:=h.own;have h0:=h;clear h h1;go_enter Tryz.func101,Tryz.ntmps101
 go_wp2_with (
  go_at_call 137;refine hdel.mono ?_;rintro e w2 ⟨v',rfl,hvo,hr,hx⟩;have hx3:=ExtM.trans _ _ _ (hx1.mono (fun _ _ h=>h.elim)) hx;have c2:=(ExtM.cell hx3 (p:=⟨S,o,none⟩) hlt hown).trans c0;have f2:=(ExtM.frozen hx3 (p:=⟨S,o,none⟩) hlt hown).trans fz;obtain ⟨p2,cap2,rfl,-⟩:=zaa hr
  clear hx)
 go_ret;exact ⟨by rw [Int.ofNat_sub hle];rfl,zhQ h0 hx3 hr (.inl hvo) (h0.srt.sublist List.filter_sublist)⟩
end Go.Proofs.YtmcgnnmffeojpabGreatDoor
namespace Go.Plan
def ExtK (B:Nat) (w w':World):Prop:=ExtM (fun k=>¬ k = B) w w'
theorem ExtK.refl {B:Nat} (w:World):ExtK B w w:=ExtM.refl w
theorem ExtK.trans {B:Nat} (a b c:World) (h:ExtK B a b) (k:ExtK B b c):ExtK B a c:=ExtM.trans _ _ _ h k
instance {B:Nat}:Std.Refl (ExtK B):=⟨ExtK.refl⟩
instance {B:Nat}:Trans (ExtK B) (ExtK B) (ExtK B):=⟨fun h k=>ExtK.trans _ _ _ h k⟩
theorem ExtK.drew {B:Nat} {a w:World} (h:ExtK B a w):ExtK B a w.drew:=ExtM.drew h
theorem ExtK.size {B:Nat} {w w':World} (h:ExtK B w w'):w.heap.size <= w'.heap.size:=ExtM.size h
theorem ExtK.rules {B:Nat} {w w':World} (h:ExtK B w w'):(∀ o,B < w.heap.size -> w'.cell? ⟨B,o,none⟩ = w.cell? ⟨B,o,none⟩) /\ (∀ o,B < w.heap.size -> w'.frozen? ⟨B,o,none⟩ = w.frozen? ⟨B,o,none⟩) /\ True :=
 ⟨fun o hb=>ExtM.cell h (p:=⟨B,o,none⟩) hb (fun h=>h rfl),fun o hb=>ExtM.frozen h (p:=⟨B,o,none⟩) hb (fun h=>h rfl),trivial⟩
@[go_sem] theorem cell?_extK (B:Nat) (w p:World) (o:Nat) (hb:B < w.heap.size):(Plan.ext (ExtK B) w p).cell? ⟨B,o,none⟩ = w.cell? ⟨B,o,none⟩ :=
  (zb7 ExtK.refl w p).rules.1 o hb
@[go_sem] theorem frozen?_extK (B:Nat) (w p:World) (o:Nat) (hb:B < w.heap.size):(Plan.ext (ExtK B) w p).frozen? ⟨B,o,none⟩ = w.frozen? ⟨B,o,none⟩ :=
  (zb7 ExtK.refl w p).rules.2.1 o hb
@[go_sem] theorem cell?_extK_drew (B:Nat) (w p:World) (o:Nat) (hb:B < w.heap.size):(Plan.ext (ExtK B) w.drew p).cell? ⟨B,o,none⟩ = w.cell? ⟨B,o,none⟩:=cell?_extK B w.drew p o hb
@[go_sem] theorem frozen?_extK_drew (B:Nat) (w p:World) (o:Nat) (hb:B < w.heap.size):(Plan.ext (ExtK B) w.drew p).frozen? ⟨B,o,none⟩ = w.frozen? ⟨B,o,none⟩:=frozen?_extK B w.drew p o hb
end Go.Plan
namespace Go.Proofs.YtmcgnnmffeojpabGreatDoor
open Go.RowKit Go.Plan
theorem zaz.extM {M:Nat -> Prop} {w w':World} {S o:Nat} {v:Value} {hs:List Hd} (h:zaz w S o v hs) (hx:ExtM M w w') (hS:¬ M S) (hr:∀ k,v.ownBlock = some k -> ¬ M k):zaz w' S o v hs :=
 ⟨(hx.cell (p:=⟨S,o,none⟩) h.lt hS).trans h.c0,(hx.frozen (p:=⟨S,o,none⟩) h.lt hS).trans h.fz,h.row.ext hx hr,h.srt,h.own⟩
theorem zaG {w:World} {b o:Nat} {u:Value} (h:w.cell? ⟨b,o,none⟩ = some u):b < w.heap.size:=by
 unfold World.cell? at h;split at h
 . rename_i hb;exact (Array.getElem?_eq_some_iff.1 hb).1
 . cases h
theorem zc9 {w:World} {b:Nat} {v:Value} {L:List Hd} (h:MRow w b v L) (x:Nat) (X:Hd) (hx:L[x]? = some X) :
 ∃ g cap,v = .slice (some ⟨g,0,none⟩) L.length cap /\ g < w.heap.size /\ w.cell? ⟨g,x * 4,none⟩ = some (.int .i64 X.r.k) /\ w.cell? ⟨g,x * 4 + 1,none⟩ = some (.int .i64 X.r.t) /\ w.cell? ⟨g,x * 4 + 2,none⟩ = some (.int .i64 X.r.v) /\ w.cell? ⟨g,x * 4 + 3,none⟩ = some (.int .i64 X.m):=by
 obtain ⟨hlt,rfl⟩:=List.getElem?_eq_some_iff.1 hx;obtain ⟨g,cap,rfl,hg,h0,-⟩:=zaJ (enc:=Hd.cells) zb9 h x 0 hlt (by omega);have hk:∀ c,c < 4 -> w.cell? ⟨g,x * 4 + c,none⟩ = (L[x].cells)[c]?:=fun c hc=>by
  obtain ⟨g',cap',e1,-,e2,-⟩:=zaJ (enc:=Hd.cells) zb9 h x c hlt hc;simp only [Value.slice.injEq,Option.some.injEq,Addr.mk.injEq,and_true,true_and] at e1;rw [e1.1];exact e2
 exact ⟨g,cap,rfl,hg,hk 0 (by omega),hk 1 (by omega),hk 2 (by omega),hk 3 (by omega)⟩
def zbs (l r:Row):Out:=⟨l.k,l,r,true,true⟩
def zan (s:Nat) (r:Row):Out:=if s = 0 then ⟨r.k,r,⟨0,0,0⟩,true,false⟩ else ⟨r.k,⟨0,0,0⟩,r,false,true⟩
def zai (md:Int) (s:Nat):Bool:=if s = 0 then decide (md = 1) || decide (md = 3) else decide (md = 2) || decide (md = 3)
def frI (lo hi:Int) (s:Nat) (t:Int):Int:=if s = 0 then t + lo else t - hi
def tilI (lo hi:Int) (s:Nat) (t:Int):Int:=if s = 0 then t + hi else t - lo
def chg1 (md:Int) (s:Nat) (r:Row) (m:Hd):List (Out × Bool) :=
 (if m.m = 0 /\ zai md (1 - s) = true then [(zan (1 - s) m.r,true)] else []) ++ [(if s = 0 then zbs r m.r else zbs m.r r,false)]
def chgs (md:Int) (s:Nat) (r:Row) (ms:List Hd):List (Out × Bool) :=
 ms.flatMap (chg1 md s r) ++ (if ms = [] /\ zai md s = true then [(zan s r,false)] else [])
structure JSt where
 a:List Hd
 b:List Hd
 x:Int
 y:Int
 late:Int
def JSt.of (st:JSt) (s:Nat):List Hd:=if s = 0 then st.a else st.b
def JSt.at (st:JSt) (s:Nat):Int:=if s = 0 then st.x else st.y
def JSt.put (st:JSt) (s:Nat) (l:List Hd):JSt:=if s = 0 then { st with a:=l } else { st with b:=l }
def feedE (lo hi:Int) (s:Nat) (r:Row) (x y:Int) (own:Nat):Int :=
 if za3 r.k r.t r.v = false then 1
 else if r.t <= (if s = 0 then x else y) then 10
 else if tilI lo hi s r.t > (if s = 0 then y else x) /\ 300 <= own then 12 else 0
def zaj (lo hi md:Int) (s:Nat) (r:Row) (st:JSt):List (Out × Bool) :=
 if feedE lo hi s r st.x st.y (st.of s).length = 0 then chgs md s r ((st.of (1 - s)).filter (zab r.k (frI lo hi s r.t) (tilI lo hi s r.t))) else []
def zam (lo hi:Int) (s:Nat) (r:Row) (st:JSt):JSt :=
 let e:=feedE lo hi s r st.x st.y (st.of s).length
 if e = 10 then { st with late:=wrap64 (st.late + 1) }
 else if e = 0 then
  let p:=zab r.k (frI lo hi s r.t) (tilI lo hi s r.t)
  let st1:=st.put (1 - s) ((st.of (1 - s)).map (zao p))
  if tilI lo hi s r.t > st.at (1 - s) then st1.put s (addH (st1.of s) ⟨r,(((st.of (1 - s)).filter p).length:Nat)⟩) else st1
 else st
def putJ (s:Nat) (x:Hd) (st:JSt):JSt:=st.put s (addL (st.of s) x)
def zbr (lo hi:Int) (s:Nat) (t:Int) (st:JSt):JSt :=
 if s = 0 then { st with x:=t,b:=st.b.filter (fun h=>decide (tilI lo hi 1 h.r.t > t)) } else { st with y:=t,a:=st.a.filter (fun h=>decide (tilI lo hi 0 h.r.t > t)) }
theorem ziZ (lo hi t:Int) (hs:List Hd):hs.filter (fun h=>decide (tilI lo hi 1 h.r.t > t)) = zeC (t + lo) hs:=by
 unfold zeC ze4 tilI;congr 1
 funext h
 simp only [if_neg (show ¬ (1:Nat) = 0 by decide)];rw [<- decide_not];exact decide_eq_decide.2 (by omega)
theorem ziL (lo hi t:Int) (hs:List Hd):hs.filter (fun h=>decide (tilI lo hi 0 h.r.t > t)) = zeC (t - hi) hs:=by
 unfold zeC ze4 tilI;congr 1
 funext h
 simp only [if_true];rw [<- decide_not];exact decide_eq_decide.2 (by omega)
end Go.Proofs.YtmcgnnmffeojpabGreatDoor
