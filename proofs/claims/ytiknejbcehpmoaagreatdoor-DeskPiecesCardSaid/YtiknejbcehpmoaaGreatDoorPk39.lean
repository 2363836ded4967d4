import Derived.Test.YtiknejbcehpmoaaGreatDoorPk30
import Derived.Test.YtiknejbcehpmoaaGreatDoorPk34
import Derived.Test.YtiknejbcehpmoaaGreatDoorPk35
import Derived.Test.YtiknejbcehpmoaaGreatDoorPk36
import Derived.Test.YtiknejbcehpmoaaGreatDoorPk37
import Derived.Test.YtiknejbcehpmoaaGreatDoorPk38
import Derived.Deep.DeepCutAuto
import Derived.Deep.CutBlock
import Derived.Shelf.GgSortFunc.SmallK
import Derived.Lib.Fields
set_option maxRecDepth 100000
set_option maxHeartbeats 8000000
namespace Go.Proofs.YtiknejbcehpmoaaGreatDoor
open Go.RowKit Go.Plan
theorem zpa {u:World} (s:ByteArray) (hs:s.size < 4000000000) (hm:MaxP u) (hE:ErrP u) (ht:TabP u) (hLd:Laid u) (hB:zfM s.data.toList = none -> BadC) :
 Calls Tryz.prog 95 #[.string s] u fun e u'=>LoadV u s.data.toList e u':=by
 have hsz:s.data.toList.length = s.size:=by rw [Array.length_toList];rfl
 have hsp:=zkB 10 s u (by omega) hm;go_enter Tryz.func95,Tryz.ntmps95;go_wp2_with (go_at_call 13;refine hsp.mono ?_;rintro e w1 ⟨ls,hls,rfl,rfl⟩;refine Hid.out ?_);refine Lib.hid ?_;have hcell:=zib u ls;have hx1:Ext u (u.alloc (.cells (ls.map Value.string).toArray 9)):=(ExtM.refl _).alloc _;have hbl:u.heap.size < (u.alloc (.cells (ls.map Value.string).toArray 9)).heap.size:=by rw [World.size_alloc];omega
 have HLS:=Lib.hid hls;clear hls hsp;generalize u.alloc (.cells (ls.map Value.string).toArray 9) = w1 at *;have hout:zfM s.data.toList = none -> LoadV u s.data.toList (.returned (.tuple #[.pointer none,errV 3])) w1:=fun h=>by
  unfold LoadV;rw [h];exact ⟨hx1,rfl⟩
 have hq:=zmI _ _ HLS.out;by_cases h1:60000 < s.size
 . have d1:decide ((60000:Int) < s.size) = true:=by simp;omega
   have d1':decide (60000 < s.size) = true:=by simp;omega
   rw [if_pos (.inl (by omega))] at hq;have hfin:=hout hq;clear hout hq;go_wp2_with fail;go_ret2;exact hfin
 have d1:decide ((60000:Int) < s.size) = false:=by simp;omega
 have d1':decide (60000 < s.size) = false:=by simp;omega
 by_cases h2:ls.length < 5
 . have d2:decide ((ls.length:Int) < 5) = true:=by simp;omega
   have d2':decide (ls.length < 5) = true:=by simp;omega
   rw [List.length_map,if_pos (.inr (.inl (by omega)))] at hq;have hfin:=hout hq;clear hout hq;go_wp2_with fail;go_ret2;exact hfin
 have d2:decide ((ls.length:Int) < 5) = false:=by simp;omega
 have d2':decide (ls.length < 5) = false:=by simp;omega
 have hl2:ls.length - 2 < ls.length:=by omega
 have hl1:ls.length - 1 < ls.length:=by omega
 have y2:=hcell _ hl2;have y1:=hcell _ hl1;have q2:(ls.map (·.data.toList))[ls.length - 2]? = some (ls[ls.length - 2].data.toList):=by simp [hl2]
 have q1:(ls.map (·.data.toList))[ls.length - 1]? = some (ls[ls.length - 1].data.toList):=by simp [hl1]
 rw [List.length_map,q2,q1] at hq;have hnl:ls.length <= 60001:=by
  have:=congrArg List.length HLS.out
  rw [List.length_map] at this;have h9:=zer 10 _ s.data.toList (Nat.le_refl _);omega
 have t2:=Lib.toList_data ls[ls.length - 2];have t1:=Lib.toList_data ls[ls.length - 1];rw [<- t2,<- t1] at hq;clear q1 q2 t1 t2;by_cases h3:ls[ls.length - 2].toList = [101,110,100]
 . by_cases h4:ls[ls.length - 1].toList = []
   . have h5:ls[ls.length - 1].toList.isEmpty = true:=by rw [h4];rfl
     rw [if_neg (by rw [h3,h4];unfold wEnd;simp;omega)] at hq;have HQ:=Lib.hid hq;have HO:=Lib.hid hout;clear hq hout;go_upto_region 5 with fail;have hxa:Ext w1 (w1.alloc (.cells #[.pointer none,.bool false] 224)):=(ExtM.refl _).alloc _;have hL0:LdS (w1.alloc (.cells #[.pointer none,.bool false] 224)) w1.heap.size (w1.alloc (.cells #[.pointer none,.bool false] 224)).heap.size w1.heap.size (some none):=by
      refine ⟨⟨?_,?_,fun q=>?_⟩,Nat.le_refl _,?_⟩
      . go_simp
      . go_simp
      . rw [Go.RowKit.frozen?_alloc_cells];simp [World.frozen?]
      . rw [World.size_alloc];omega
     generalize w1.alloc (.cells #[.pointer none,.bool false] 224) = w2 at *;have hE2:ErrP w2:=hE.keep (ExtM.trans _ _ _ hx1 hxa) id id;have hm2:MaxP w2:=hm.ext (ExtM.trans _ _ _ hx1 hxa);have ht2:TabP w2:=ht.keep ((ExtM.trans _ _ _ hx1 hxa:Ext u w2).block _ ht.lt id);have hl2d:Laid w2:=(hLd.of hx1).of hxa;have hcw:∀ (i:Nat) (h:i < ls.length),w2.cell? ⟨u.heap.size,i,none⟩ = some (.string ls[i]):=fun i h=>(hxa.cell (p:=⟨u.heap.size,i,none⟩) hbl id).trans (hcell i h);have hLb:=hL0.inn;have gE:=hE.lt;have gm:=hm.lt;have gt:=ht.lt;generalize hB0:w1.heap.size = B at *;have hBu:u.heap.size < B:=hbl;have HB0:=Lib.hid hB0;clear y1 y2 h3 h4 h5;generalize ls[ls.length - 1] = z1 at *;generalize ls[ls.length - 2] = z2 at *;clear hB0 hcell hl1 hbl d1 d1' d2 d2' hE hm ht hLd;obtain ⟨m,hmm⟩:∃ m,m = ls.length - 2:=⟨_,rfl⟩
     have hml:m + 2 <= ls.length:=by omega
     have hml':m <= 60000:=by omega
     rw [<- hmm] at hl2 HQ;go_wp2_with fail;rw [<- hmm];have HMM:=Lib.hid hmm;clear hmm;go_loopg [53] (m + 1) (fun kx s53 wr=>∃ (i:Nat) (r:Option (Option ESt)),s53 = .int .i64 i /\ i <= m /\ m - i <= kx /\ LdS wr B wr.heap.size B r /\ Plan.ExtF B w2 wr /\ zg7 i (((ls.map (·.data.toList)).take m).drop i) r = zg7 0 ((ls.map (·.data.toList)).take m) (some none) /\ ROk i r /\ zpo i r)
     case atStart=>exact ⟨0,some none,rfl,by omega,by omega,hL0,ExtF.refl _,rfl,(fun e h=>nomatch h),⟨fun _=>rfl,fun h=>by omega⟩⟩
     case round =>
      obtain ⟨i,r,rfl,hi,hgo,hS,hF,hR,hok,hrn⟩:=hrel;by_cases him:i < m
      . have hil:i < ls.length:=by omega
        have hcr:=(hF.rules.1 u.heap.size i (zac (hcw i hil)) hBu).trans (hcw i hil);have hdr:((ls.map (·.data.toList)).take m).drop i = ls[i].data.toList :: ((ls.map (·.data.toList)).take m).drop (i + 1):=by
         rw [List.drop_eq_getElem_cons (by rw [List.length_take,List.length_map];omega)];simp
        have hls0:ls[i].data.toList ∈ cut1 10 s.data.toList:=by rw [<- HLS.out];exact List.mem_map.2 ⟨_,List.getElem_mem hil,rfl⟩
        have hxs:ls[i].size <= 60000:=by
         have:=zh1 10 _ _ hls0
         rw [zbA,zbA] at this;omega
        rw [hdr,zjs] at hR;have HR:=Lib.hid hR;have hlB:=hS.inn;have hmr:MaxP wr:=hm2.keep (hF.block _ (by have:=hxa.size;have:=hx1.size;omega) (by omega));have hEr:ErrP wr:=hE2.keep hF (by omega) (by omega);have hLr:Laid wr:=hl2d.ofM hF (by omega);have hlu:u.heap.size < wr.heap.size:=by omega
        clear hR hdr hls0;generalize ls[i] = x at *;have hwc:=zn1 x wr (by omega) hmr;go_wp2_with (go_at_call 13;refine hwc.mono ?_;rintro e w3 ⟨nm,ws,hnm,hws,rfl,rfl⟩;refine Hid.out ?_);refine Lib.hid ?_;clear hwc;have hxw:Ext wr (wr.alloc (.cells (Value.string nm :: ws.map Value.string).toArray 9)):=(ExtM.refl _).alloc _;have hcw3:=zib wr (nm :: ws);rw [List.map_cons] at hcw3;have hsz3:(wr.alloc (.cells (Value.string nm :: ws.map Value.string).toArray 9)).heap.size = wr.heap.size + 1:=World.size_alloc _ _;have hwl:ws.length <= 60000 /\ (∀ y ∈ ws,y.size <= 60000):=by
         have h9:=zer 32 _ x.data.toList (Nat.le_refl _);rw [zbA] at h9;constructor
         . have:=congrArg List.length hws
           rw [List.length_map,List.length_tail] at this;omega
         . intro y hy;have:y.data.toList ∈ cut1 32 x.data.toList:=List.mem_of_mem_tail (by rw [<- hws];exact List.mem_map.2 ⟨y,hy,rfl⟩)
           have:=zh1 32 _ _ this
           rw [zbA,zbA] at this;omega
        obtain ⟨hwl,hwy⟩:=hwl;have hnmz:nm.size <= 60000:=by
         have h1:nm.data.toList ∈ cut1 32 x.data.toList:=by
          rw [hnm];cases hc:cut1 32 x.data.toList with
          | nil=>exact absurd hc (znF _ _)
          | cons p q=>exact List.mem_cons_self
         have:=zh1 32 _ _ h1
         rw [zbA,zbA] at this;omega
        have hS3:=(hS.keep hxw (fun _ _ h=>h)).up (show wr.heap.size <= wr.heap.size + 1 by omega);have hF3:Plan.ExtF B w2 _:=ExtF.trans _ _ _ hF (ExtF.of_ext hxw);have HNM:=Lib.hid hnm;have HWS:=Lib.hid hws;generalize wr.alloc (.cells (Value.string nm :: ws.map Value.string).toArray 9) = w3 at *;generalize hN:wr.heap.size = N at *;have HN:=Lib.hid hN;have hBN:B < N:=by omega
        have hm3:MaxP w3:=hmr.ext hxw;have hE3:ErrP w3:=hEr.keep hxw id id;have hL3:Laid w3:=hLr.of hxw;have hN3:N < w3.heap.size:=by omega
        have hnm0:w3.cell? ⟨N,0,none⟩ = some (.string nm):=hcw3 0 (by simp);have hws0:∀ (j:Nat) (h:j < ws.length),w3.cell? ⟨N,1 + j,none⟩ = some (.string ws[j]):=fun j h=>by
         have:=hcw3 (j + 1) (by simpa using h)
         rw [show 1 + j = j + 1 by omega];exact this
        clear hnm hws hN hS hF hxw hmr hEr hLr hcw3 hcr;go_upto_region 10 with fail;go_cut [61,62,63] (fun s61 s62 s63 wx=>∃ o,s61 = .slice (some ⟨N,o,none⟩) ws.length ws.length /\ s62 = .int .i64 ws.length /\ s63 = .int .i64 0 /\ (0 < ws.length -> o = 1) /\ wx = w3)
        case first =>
         by_cases h0:ws.length = 0
         . obtain rfl:ws = []:=List.eq_nil_of_length_eq_zero h0;simp only [List.length_nil];go_wp2_with fail;go_meet
           case rel=>exact ⟨0,rfl,rfl,rfl,fun h=>absurd h (by decide),rfl⟩
         . have h0':¬ 1 = ws.length + 1:=by omega
           go_wp2_with fail;go_meet
           case rel=>exact ⟨1,rfl,rfl,rfl,fun _=>rfl,rfl⟩
        case rest =>
         obtain ⟨o,rfl,rfl,rfl,ho,rfl⟩:=hcut;generalize wc = wS at *;obtain ⟨W,hW⟩:∃ W,W = ws.map (·.data.toList):=⟨_,rfl⟩
         have hWl:W.length = ws.length:=by rw [hW,List.length_map]
         have HW:=Lib.hid hW;have HWL:=Lib.hid hWl;rw [<- hW] at HWS;clear hW hWl;generalize hC:wS.heap.size = C at *;have hNC:N < C:=hN3;have HC:=Lib.hid hC;clear hC hN3;have hS3':LdS wS B C B (midR r (W.take 0)):=by rw [List.take_zero];exact hS3.up (by omega)
         go_wp2_with fail;go_loopg [9,63] (ws.length + 1) (fun kx s9 s63 w4=>∃ (j:Nat) (n:List Int),s63 = .int .i64 j /\ j <= ws.length /\ ws.length - j <= kx /\ n.length = j /\ IR w4 C s9 n /\ LdS w4 B C B (midR r (W.take j)) /\ ExtM (fun k=>k = B \/ C <= k) wS w4 /\ (zbz (W.take j) = some n \/ zbz (W.take j) = none))
         case atStart=>exact ⟨0,[],rfl,by omega,by omega,rfl,⟨rfl,.inl ⟨rfl,rfl⟩⟩,hS3',ExtM.refl _,.inl rfl⟩
         case round =>
          clear hS3 hS3';obtain ⟨j,n,rfl,hj,hgk,hnj,hir,hS4,hX,hnum⟩:=hrel;have HNJ:=Lib.hid hnj;clear hnj;have hCw:C <= wr.heap.size:=by have:=hX.size;have:=HC.out;omega
          by_cases hjl:j < ws.length
          . skip;have hNl:N < wS.heap.size:=by have:=HC.out;omega
            have hyc:=(hX.cell (p:=⟨N,1 + j,none⟩) hNl (show ¬ (N = B \/ C <= N) by omega)).trans (hws0 j hjl);have ho1:o = 1:=ho (by omega);have hys:=hwy _ (List.getElem_mem hjl)
            have HTK:Hid (W.take (j + 1) = W.take j ++ [ws[j].data.toList]):=Lib.hid (by
             have hjW:j < W.length:=by rw [HWL.out];exact hjl
             rw [List.take_succ_eq_append_getElem hjW];congr 2
             have:=HW.out;subst this;simp)
            have hEr:ErrP wr:=hE3.keep hX (by omega) (by omega);generalize ws[j] = y at *;have hat:=zjT y wr (by omega) hEr;have hNw:N < wr.heap.size:=by omega
            subst ho1;go_wp2_with (go_at_call 42;refine hat.mono ?_;rintro e w5 ⟨k,ev,rfl,hx5,hA⟩;refine Hid.out ?_);refine Lib.hid ?_;clear hat hyc hEr;have hS5:=hS4.keep hx5 (fun _ _ h=>h);have hir5:IR w5 C u9 n:=zag hir hx5 (fun _ _ h=>h);obtain ⟨c1,cf⟩:=hS5.bad;have hlB5:=hS5.inn.2;have hsz5:=hx5.size;have hput:=LdS.put (w:=y.data.toList) hS5;rw [<- HTK.out] at hput;have hX5:ExtM (fun k=>k = B \/ C <= k) wS w5:=ExtM.trans _ _ _ hX (hx5.mono fun _ _ h=>h.elim);generalize hbb:(midR r (W.take j)).isNone = bb at *;clear hbb;go_upto_region 14 with fail;go_cut [] (fun wx=>LdS wx B C B (midR r (W.take (j + 1))) /\ ExtM (fun k=>k = B) w5 wx)
            case first =>
             rcases hA with ⟨hk,rfl⟩ | ⟨hn,t,p,rfl⟩
             . have hpt:=hput.1 k hk;cases bb
               all_goals
                go_wp2_with fail;go_meet
                case rel=>exact ⟨hpt,ExtM.setCell (M:=fun k=>k = B) (p:=⟨B,1,none⟩) (ExtM.refl _) (.inr rfl) _⟩
             . have hpt:=hput.2 hn;cases bb
               all_goals
                go_wp2_with fail;go_meet
                case rel=>exact ⟨hpt,ExtM.setCell (M:=fun k=>k = B) (p:=⟨B,1,none⟩) (ExtM.refl _) (.inr rfl) _⟩
            case rest =>
             obtain ⟨hS6,hx6⟩:=hcut;have hir6:IR wc C u9 n:=zag hir5 hx6 (fun k hk e=>by have h1:=(zaf hir5 k hk).1;have h2:k = B:=e;omega);have hX6:ExtM (fun k=>k = B \/ C <= k) wS wc:=ExtM.trans _ _ _ hX5 (hx6.mono fun _ _ h=>.inl h);have hCw6:C <= wc.heap.size:=by have:=hx6.size;omega
             obtain ⟨v',w',happ,hir',hxr,hloc⟩:=zbe (wc.alloc (.cells #[.int .i64 k] 3)) C wc.heap.size 1 u9 n [k] 56 (zag hir6 ((ExtM.refl _).alloc _:Ext wc _) (fun _ _ h=>h))
              (fun q v hq=>(World.cell?_alloc_at _ _ _ q rfl).trans (by simpa using hq)) (by have:=HNJ.out;simp only [List.length_cons,List.length_nil];omega) (by rw [World.size_alloc];omega)
             have hxc:ExtM (fun k=>C <= k) wc w':=(((ExtM.refl _).alloc _:Ext wc _).mono (fun _ _ h=>h.elim)).fresh' hxr (fun k hk e=>(zaf hir6 k e).1);have hS':=hS6.keep hxc (fun k hk e=>by omega);have hX':ExtM (fun k=>k = B \/ C <= k) wS w':=ExtM.trans _ _ _ hX6 (hxc.mono fun _ _ h=>.inr h);obtain ⟨pv,cv,hpv,-⟩:=zaa hir6;have HALL:=Lib.hid (⟨hir',hS',hX'⟩:_ /\ _ /\ _);subst hpv;have hnn:zbz (W.take (j + 1)) = some (n ++ [k]) \/ zbz (W.take (j + 1)) = none:=by
              rw [HTK.out,zd1];rcases hnum with h | h
              . rw [h];rcases hA with ⟨hk,-⟩ | ⟨hn,-⟩
                . rw [hk];exact .inl rfl
                . cases hh:Lib.atoiAll y.data.toList with
                  | ok q=>exact absurd hh (hn q)
                  | _=>exact .inr rfl
              . rw [h];exact .inr rfl
             clear hir' hS' hX' hxr hloc hxc hS6 hir6 hX6 hput c1 cf hS5 hir5 hX5 hA hx5 hx6;go_wp2_with (at_builtin;refine wpList_append_run happ rfl rfl _ _ rfl rfl rfl ?_;clear happ);go_roundg (ws.length - (j + 1))
             case measure=>omega
             case rel =>
              obtain ⟨q1,q2,q3⟩:=HALL.out;exact ⟨j + 1,n ++ [k],by go_num,by omega,Nat.le_refl _,by simp [HNJ.out],q1,q2,q3,hnn⟩
          . obtain rfl:j = ws.length:=by omega
            have hz:decide (ws.length < ws.length) = false:=by simp
            have hz2:decide ((ws.length:Int) < ws.length) = false:=by simp
            rw [List.take_of_length_le (by rw [HWL.out];exact Nat.le_refl _)] at hS4 hnum;obtain ⟨c1,cf⟩:=hS4.bad;have hlB4:=hS4.inn.2;have hFw:Plan.ExtF B w2 wr:=ExtF.trans _ _ _ hF3 (hX.mono fun k _ e=>by show B <= k;omega);rcases zjx (i:=i) (x:=x.data.toList) (r:=r) HNM.out HWS.out with ⟨hmid,hstep⟩ | ⟨eo,n',hr,hmid,hn',hstep⟩
            . rw [hmid] at c1 hS4;rw [Option.isNone_none] at c1;have HE:=Lib.hid (⟨hS4,hFw,hstep⟩:_ /\ _ /\ _);clear hS4 hFw hX hir hnum;go_wp2_with fail;go_roundg (m - (i + 1))
              case measure=>omega
              case rel =>
               obtain ⟨q1,q2,q3⟩:=HE.out;refine ⟨i + 1,none,by go_num,by omega,Nat.le_refl _,q1.up hCw,q2,?_,(fun e h=>nomatch h),?_⟩
               . have:=HR.out;rwa [q3] at this
               . have:=@zet i x.data.toList r;rwa [q3] at this
            . rw [hmid] at c1 hS4;rw [Option.isNone_some] at c1;obtain rfl:n = n':=by
               rcases hnum with h | h
               . exact Option.some.inj (h.symm.trans hn')
               . rw [h] at hn';cases hn'
              obtain ⟨a,cap,rfl,hni⟩:=hir.nums (b:=B) (by omega);have hga:∀ g,a = some ⟨g,0,none⟩ -> C <= g:=fun g hg=>(zaf hir g (by rw [hg];rfl)).1;have hNl:N < wS.heap.size:=by have:=HC.out;omega
              have hnm1:=(hX.cell (p:=⟨N,0,none⟩) hNl (show ¬ (N = B \/ C <= N) by omega)).trans hnm0;have hLr:Laid wr:=hL3.ofM hX (by omega);have hline:Calls Tryz.prog 141 #[.pointer (some ⟨B,0,none⟩),.int .i64 i,.string nm,.slice a n.length cap] wr fun q u'=>q = .returned (.tuple #[]) /\ LdS u' B u'.heap.size B (zc5 i x.data.toList r) /\ Plan.ExtF B wr u':=by
               rw [hstep];cases hle:zb3 i nm.data.toList n eo with
               | some e'=>exact zpl hS4 i (by omega) nm n a cap hni hga (fun z hz=>(hok z (by rw [hr,hz])).2) (fun h=>by have:=hrn.1 h;rw [hr] at this;exact Option.some.inj this) hle
               | none =>
                 have hbad:zfM s.data.toList = none:=by
                  have h1:=HR.out;rw [hstep,hle] at h1;have h2:zg7 0 ((ls.map (·.data.toList)).take m) (some none) = none:=h1.symm;rw [HQ.out,h2]
                 exact hB hbad wr B C B eo i nm n a cap hS4 (by omega) (by omega) hni hga (fun z hz=>hok z (by rw [hr,hz])) (zew _ hn') (fun h=>by have:=hrn.1 h;rw [hr] at this;exact Option.some.inj this) (fun h e=>hrn.2 h (by rw [hr,e])) hle hLr
              have hNw:N < wr.heap.size:=by omega
              clear hir hni hnum hX hn';go_wp2_with (go_at_call 141;refine hline.mono ?_;rintro q w9 ⟨rfl,hS9,hF9⟩;refine Hid.out ?_);refine Lib.hid ?_;have HE:=Lib.hid (⟨hS9,ExtF.trans _ _ _ hFw hF9⟩:_ /\ Plan.ExtF B w2 w9);clear hS9 hF9 hline hS4 hFw;go_wp2_with fail;go_roundg (m - (i + 1))
              case measure=>omega
              case rel =>
               obtain ⟨q1,q2⟩:=HE.out;exact ⟨i + 1,_,by go_num,by omega,Nat.le_refl _,q1,q2,HR.out,zkr hok (by omega),zet⟩
      . obtain rfl:i = m:=by omega
        have hz:decide (i < i) = false:=by simp
        have hz2:decide ((i:Int) < i) = false:=by simp
        have hdr:((ls.map (·.data.toList)).take i).drop i = []:=List.drop_eq_nil_of_le (by rw [List.length_take,List.length_map];omega);have hR0:∀ r,zg7 i [] r = r:=fun r=>by cases r <;> rfl
        rw [hdr,hR0] at hR;have hq:=HQ.out;rw [<- hR] at hq;have h3m:3 <= i:=by have:=HMM.out;omega
        have hXF:Plan.ExtF B u wr:=ExtF.trans _ _ _ (ExtF.of_ext (ExtM.trans _ _ _ hx1 hxa)) hF;have htr:TabP wr:=ht2.keep (hF.block _ (by have:=hxa.size;have:=hx1.size;omega) (by omega));have hBl:=hS.inn;clear hdr hR0 hR hgo hF;cases r with
        | none =>
          obtain ⟨c1,cf⟩:=hS.bad;rw [Option.isNone_none] at c1;have hfin:LoadV u s.data.toList (.returned (.tuple #[.pointer none,errV 3])) wr:=by unfold LoadV;rw [hq];exact ⟨hXF.ext (Nat.le_of_lt hBu),rfl⟩
          clear hq hS hXF;go_wp2_with fail;go_ret2;exact hfin
        | some eo =>
          cases eo with
          | none=>exact absurd rfl (hrn.2 (by omega))
          | some e =>
            obtain ⟨E,Bs,hLd,hat,hnB,hBL,hBs⟩:=hS;obtain ⟨hsok,-⟩:=hok e rfl;have hsave:=zk9 hat e rfl hsok htr;have c0:=hLd.c0;have c1:=hLd.c1;have lL:=hLd.lt;have HAT:=Lib.hid (⟨hLd,hat,hBs⟩:_ /\ _ /\ _);clear hLd hat hnB hBs hok hrn;by_cases hbig:60000 < (savedT e).length
            . rw [show zeX e = .returned (.tuple #[.string ByteArray.empty,errV 4]) from if_pos hbig] at hsave;have hne:savedT e ≠ s.data.toList:=fun h=>by rw [h,zbA] at hbig;omega
              simp only [if_neg hne] at hq;go_wp2_with (go_at_call 94;refine hsave.mono ?_;rintro e' w9 ⟨rfl,hx9⟩;refine Hid.out ?_);refine Lib.hid ?_;have hfin:LoadV u s.data.toList (.returned (.tuple #[.pointer none,errV 3])) w9:=by unfold LoadV;rw [hq];exact ⟨ExtM.trans _ _ _ (hXF.ext (Nat.le_of_lt hBu)) hx9,rfl⟩
              clear hq hXF hsave;have er4:errV 4 = .iface 47 (.int .i64 4):=rfl;rw [er4];go_wp2_with fail;go_ret2;exact hfin
            . rw [show zeX e = .returned (.tuple #[.string ⟨(savedT e).toArray⟩,.nilIface]) from if_neg hbig] at hsave;have hT1:(ByteArray.mk (savedT e).toArray).toList = savedT e:=by rw [Lib.toList_data]
              have hT2:=Lib.toList_data s;by_cases hTs:savedT e = s.data.toList
              . have hbs:ByteArray.mk (savedT e).toArray = s:=by
                 obtain ⟨⟨l⟩⟩:=s;simp only at hTs;rw [hTs]
                rw [hbs] at hsave;simp only [if_pos hTs] at hq;have hfin:∀ w9,Ext wr w9 -> LoadV u s.data.toList (.returned (.tuple #[.pointer (some ⟨E,0,none⟩),.nilIface])) w9:=fun w9 hx9=>by
                 obtain ⟨-,hat,hBs⟩:=HAT.out;unfold LoadV;rw [hq];exact ⟨ExtM.trans _ _ _ (hXF.ext (Nat.le_of_lt hBu)) hx9,E,Bs,rfl,hat.ext hx9,fun k hk=>Nat.le_trans (Nat.le_of_lt hBu) (hBs k hk).1⟩
                have HFN:=Lib.hid hfin;clear hfin hq hXF hTs hbs hT1 hT2;go_wp2_with (go_at_call 94;refine hsave.mono ?_;rintro e' w9 ⟨rfl,hx9⟩;refine Hid.out ?_);refine Lib.hid ?_;have k0:=(hx9.cell (p:=⟨B,0,none⟩) lL id).trans c0;have lL9:=zac k0;have hfin:=HFN.out w9 hx9;clear hsave c0 c1 lL hx9;go_wp2_with fail;go_ret2;exact hfin
              . have hne1:(savedT e == s.toList) = false:=by rw [hT2];exact beq_false_of_ne hTs
                simp only [if_neg hTs] at hq;have hfin:∀ w9,Ext wr w9 -> LoadV u s.data.toList (.returned (.tuple #[.pointer none,errV 3])) w9:=fun w9 hx9=>by
                 unfold LoadV;rw [hq];exact ⟨ExtM.trans _ _ _ (hXF.ext (Nat.le_of_lt hBu)) hx9,rfl⟩
                clear hq hXF hTs hT1 hT2;generalize savedT e = T at *;go_wp2_with (go_at_call 94;refine hsave.mono ?_;rintro e' w9 ⟨rfl,hx9⟩;refine Hid.out ?_);refine Lib.hid ?_;replace hfin:=hfin w9 hx9;clear hsave c0 c1 lL hx9;go_wp2_with fail;go_ret2;exact hfin
   . have h5:ls[ls.length - 1].toList.isEmpty = false:=by simpa using h4
     rw [if_pos (.inr (.inr (.inr (by simpa using h4))))] at hq;have hfin:=hout hq;clear hout hq;go_wp2_with fail;go_ret2;exact hfin
 . rw [if_pos (.inr (.inr (.inl (by unfold wEnd;simpa using h3))))] at hq;have hfin:=hout hq;clear hout hq;go_wp2_with fail;go_ret2;exact hfin
theorem zm8 {u:World} {E:Nat} {Bs:Nat -> Prop} {lo hi md:Int} {st:JSt} {V W:List Out} {f0 f1:Int} (h:EAt u E Bs lo hi md st V W f0 f1) (hp:zay lo hi) (t:Int) (hl:st.b.length < 1000000) :
 Calls Tryz.prog 92 #[.pointer (some ⟨E,0,none⟩),.int .i64 0,.int .i64 t] u fun e u'=>e = .returned (errV (moveI 0 t st.x st.y)) /\ EUp u u' E Bs lo hi md (if moveI 0 t st.x st.y = 0 then zbr lo hi 0 t st else st) V W f0 f1:=by
 obtain ⟨P,c3,hm⟩:=ziC h hp t hl;have lE:=h.lt _ h.mine;have hm0:=hm u (ExtM.refl _);clear hm;generalize (if moveI 0 t st.x st.y = 0 then zbr lo hi 0 t st else st) = st' at *;go_enter Tryz.func92,Tryz.ntmps92;go_wp2_with (go_at_call 134;refine hm0.mono ?_;rintro e w1 ⟨rfl,-,hu⟩;refine Hid.out ?_);refine Lib.hid ?_;clear hm0;go_wp2_with fail;go_ret;exact ⟨rfl,hu⟩
theorem zlH {u:World} {E:Nat} {Bs:Nat -> Prop} {lo hi md:Int} {st:JSt} {V W:List Out} {f0 f1:Int} (h:EAt u E Bs lo hi md st V W f0 f1) (hp:zay lo hi) (t:Int) (hl:st.a.length < 1000000) :
 Calls Tryz.prog 92 #[.pointer (some ⟨E,0,none⟩),.int .i64 1,.int .i64 t] u fun e u'=>e = .returned (errV (moveI 1 t st.x st.y)) /\ EUp u u' E Bs lo hi md (if moveI 1 t st.x st.y = 0 then zbr lo hi 1 t st else st) V W f0 f1:=by
 obtain ⟨P,c3,hm⟩:=ziB h hp t hl;have lE:=h.lt _ h.mine;have hm0:=hm u (ExtM.refl _);clear hm;generalize (if moveI 1 t st.x st.y = 0 then zbr lo hi 1 t st else st) = st' at *;go_enter Tryz.func92,Tryz.ntmps92;go_wp2_with (go_at_call 134;refine hm0.mono ?_;rintro e w1 ⟨rfl,-,hu⟩;refine Hid.out ?_);refine Lib.hid ?_;clear hm0;go_wp2_with fail;go_ret;exact ⟨rfl,hu⟩
section
variable {u u':World} {T F E:Nat} {Bs:Nat -> Prop} {v0 v1:Value} {lo hi md x0 x1:Int} {s:TSt} {m:List (Out × Value)} {W:List Out}
end
theorem zjK {lo hi md:Int} {L R:List Row} (hL:∀ r ∈ L,za0 r) (hR:∀ r ∈ R,za0 r):∀ x ∈ zcb lo hi md 0 L R,zhl x:=by
 intro x hx;unfold zcb pairsL lonesL at hx;simp only [List.mem_append,List.mem_flatMap,List.mem_map,List.mem_filter] at hx;rcases hx with ⟨l,hl,r,⟨hr,hm⟩,rfl⟩ | hx | hx
 . have hk:l.k = r.k:=by
    unfold mtB mtL at hm;simp only [if_true,Bool.and_eq_true,decide_eq_true_eq] at hm
    first | exact hm.1.1 | exact hm.1
   exact .inr ⟨l,r,hL l hl,hR r hr,hk,rfl⟩
 . split at hx
   . obtain ⟨r,hr,rfl⟩:=List.mem_map.1 hx;exact .inl ⟨0,r,by decide,hL r (List.mem_filter.1 hr).1,rfl⟩
   . cases hx
 . split at hx
   . obtain ⟨r,hr,rfl⟩:=List.mem_map.1 hx;exact .inl ⟨1,r,by decide,hR r (List.mem_filter.1 hr).1,rfl⟩
   . cases hx
theorem EOk.sok {e:ESt} (h:EOk e) (hV:e.V.length <= 900000):SOk e:=by
 have hp:(-1048576 <= e.lo /\ e.lo <= 1048576) /\ (-1048576 <= e.hi /\ e.hi <= 1048576) /\ 0 <= e.md /\ e.md <= 3:=by
  have hp:=h.plan;unfold checkI at hp;by_cases h1:¬ (-1048576 <= e.lo /\ e.lo <= 1048576) \/ ¬ (-1048576 <= e.hi /\ e.hi <= 1048576)
  . rw [if_pos h1] at hp;cases hp
  . rw [if_neg h1] at hp;by_cases h2:e.hi < e.lo
    . rw [if_pos h2] at hp;cases hp
    . rw [if_neg h2] at hp;by_cases h3:¬ (0 <= e.md /\ e.md <= 3)
      . rw [if_pos h3] at hp;cases hp
      . omega
 have:=h.f0;have:=h.f1;have:=h.late;have:=h.i0;have:=h.i1;have:=h.il;have:=h.mx;have:=h.my
 refine ⟨fun k hk=>?_,h.ga,h.gb,h.la,h.lb,fun x hx=>zir (h.v x hx),hV⟩;simp only [List.mem_cons,List.not_mem_nil,or_false] at hk;omega
structure Lib4 (w:World):Prop where
 l:Laid w
 m:MaxP w
 e:ErrP w
 t:TabP w
theorem Lib4.ext {w w':World} (h:Lib4 w) (hx:Ext w w'):Lib4 w':=⟨h.l.of hx,h.m.ext hx,h.e.keep hx id id,h.t.keep (hx.block _ h.t.lt id)⟩
structure StE where
 what:Int
 side:Int
 n:Int
 key:Int
 time:Int
 value:Int
def StE.row (x:StE):Row:=znA x.key x.time x.value
def StE.feed (x:StE):StE:={ x with what:=0 }
theorem zh3 (lo hi:Int) (s:Nat) (r:Row) (st:JSt) (hs:s = 0 \/ s = 1):(zam lo hi s r st).x = st.x /\ (zam lo hi s r st).y = st.y:=by
 unfold zam;simp only;rcases hs with rfl | rfl
 . split
   . exact ⟨rfl,rfl⟩
   . split
     . split <;> exact ⟨rfl,rfl⟩
     . exact ⟨rfl,rfl⟩
 . split
   . exact ⟨rfl,rfl⟩
   . split
     . split <;> exact ⟨rfl,rfl⟩
     . exact ⟨rfl,rfl⟩
structure POk (lo hi md:Int) (st:JSt) (V:List Out) (f0 f1:Int) (n:Nat):Prop where
 inv:∃ L R,EInv lo hi md st L R V /\ L.length <= n /\ R.length <= n /\ (∀ r ∈ L,za0 r) /\ ∀ r ∈ R,za0 r
 mx:-1099511627777 <= st.x /\ st.x <= 1099511627776
 my:-1099511627777 <= st.y /\ st.y <= 1099511627776
 f0:0 <= f0 /\ f0 <= n
 f1:0 <= f1 /\ f1 <= n
 late:0 <= st.late /\ st.late <= n
theorem POk.new (lo hi md:Int):POk lo hi md ⟨[],[],-1099511627777,-1099511627777,0⟩ [] 0 0 0 :=
 ⟨⟨[],[],EInv.new lo hi md _ _ _,Nat.le_refl _,Nat.le_refl _,(fun _ h=>nomatch h),(fun _ h=>nomatch h)⟩,by decide,by decide,by decide,by decide,by decide⟩
section
variable {lo hi md:Int} {st:JSt} {V:List Out} {f0 f1:Int} {n:Nat}
theorem POk.more (h:POk lo hi md st V f0 f1 n):POk lo hi md st V f0 f1 (n + 1):=by
 obtain ⟨L,R,h1,h2,h3,h4⟩:=h.inv
 have:=h.f0;have:=h.f1;have:=h.late
 exact ⟨⟨L,R,h1,by omega,by omega,h4⟩,h.mx,h.my,by push_cast;omega,by push_cast;omega,by push_cast;omega⟩
theorem POk.perm (h:POk lo hi md st V f0 f1 n) {V':List Out} (hp:V'.Perm V):POk lo hi md st V' f0 f1 n:=by
 obtain ⟨L,R,h1,h2⟩:=h.inv;exact ⟨⟨L,R,⟨h1.a,h1.b,hp.trans h1.v⟩,h2⟩,h.mx,h.my,h.f0,h.f1,h.late⟩
theorem POk.la (h:POk lo hi md st V f0 f1 n):st.a.length <= n:=by
 obtain ⟨L,R,h1,h2,h3,h4⟩:=h.inv;exact Nat.le_trans h1.a.len h2
theorem POk.lb (h:POk lo hi md st V f0 f1 n):st.b.length <= n:=by
 obtain ⟨L,R,h1,h2,h3,h4⟩:=h.inv;exact Nat.le_trans h1.b.len h3
theorem POk.lV (h:POk lo hi md st V f0 f1 n):V.length <= n * n + 2 * n:=by
 obtain ⟨L,R,h0,h4,h5,h6⟩:=h.inv;rw [h0.v.length_eq];unfold zcb;rw [List.length_append,List.length_append];have h1:=zgY lo hi 0 R L;have h2:=zha lo hi md 0 L R;have h3:=zha lo hi md (1 - 0) R L;have h6:L.length * R.length <= n * n:=Nat.mul_le_mul h4 h5;omega
theorem POk.lV9 (h:POk lo hi md st V f0 f1 n) (hn:n < 600):V.length <= 900000:=by
 have h1:=h.lV;have:n * n <= 600 * 600:=Nat.mul_le_mul (by omega) (by omega);omega
theorem POk.outs (h:POk lo hi md st V f0 f1 n):∀ x ∈ V,zhl x:=by
 obtain ⟨L,R,h0,-,-,h4,h5⟩:=h.inv;exact fun x hx=>zjK h4 h5 x (h0.v.mem_iff.1 hx)
theorem zeh (lo hi:Int) (s:Nat) (r:Row) (x y:Int) (own:Nat):feedE lo hi s r x y own = 0 \/ feedE lo hi s r x y own = 10 \/ feedE lo hi s r x y own = 1 \/ feedE lo hi s r x y own = 12:=by
 unfold feedE;generalize (if s = 0 then x else y) = p;generalize (if s = 0 then y else x) = q;by_cases h1:za3 r.k r.t r.v = false
 . rw [if_pos h1];exact .inr (.inr (.inl rfl))
 rw [if_neg h1];by_cases h2:r.t <= p
 . rw [if_pos h2];exact .inr (.inl rfl)
 rw [if_neg h2];by_cases h3:tilI lo hi s r.t > q /\ 300 <= own
 . rw [if_pos h3];exact .inr (.inr (.inr rfl))
 . rw [if_neg h3];exact .inl rfl
theorem zeY {lo hi:Int} {s:Nat} {r:Row} {x y:Int} {own:Nat} (h:feedE lo hi s r x y own = 0):za0 r:=by
 unfold feedE at h;split at h
 . cases h
 . rename_i hg;unfold za0;simpa using hg
theorem zeu (lo hi:Int) (s:Nat) (hs:s < 2) (r:Row) (st:JSt):(zam lo hi s r st).x = st.x /\ (zam lo hi s r st).y = st.y:=zh3 lo hi s r st (by omega)
theorem POk.feed0 (h:POk lo hi md st V f0 f1 n) (hn:n < 1000000) (r:Row):POk lo hi md (zam lo hi 0 r st) (zaH V (zaj lo hi md 0 r st)) (fedI (feedE lo hi 0 r st.x st.y (st.of 0).length) f0) f1 (n + 1) /\ zb1 V (zaj lo hi md 0 r st):=by
 obtain ⟨L,R,h1,h2,h3,h4,h5⟩:=h.inv;have q0:=h.f0;have q1:=h.f1;have q2:=h.late;obtain ⟨ex,ey⟩:=zeu lo hi 0 (by decide) r st;rcases zeh lo hi 0 r st.x st.y (st.of 0).length with hE | hE | hE | hE
 . obtain ⟨hv,hi'⟩:=h1.feed0 r hE (by omega);have hg:=zeY hE;have ef:fedI 0 f0 = f0 + 1:=by unfold fedI wrap64;rw [if_pos (.inl rfl)];omega
   have el:(zam lo hi 0 r st).late = st.late:=by
    unfold zam;simp only [hE];rw [if_neg (by decide),if_pos trivial];split <;> rfl
   refine ⟨⟨⟨r :: L,R,hi',by (try simp only [List.length_cons]) <;> omega,by (try simp only [List.length_cons]) <;> omega,(fun q hq=>(List.mem_cons.1 hq).elim (fun e=>e ▸ hg) (h4 q)),h5⟩,by rw [ex];exact h.mx,by rw [ey];exact h.my,?_,?_,by rw [el];push_cast;omega⟩,hv⟩
   . (try simp only [hE,ef]);push_cast;omega
   . (try simp only [hE,ef]);push_cast;omega
 . have eC:zaj lo hi md 0 r st = []:=by unfold zaj;rw [if_neg (by rw [hE];decide)]
   have w3:wrap64 (st.late + 1) = st.late + 1:=by unfold wrap64;omega
   have eJ:zam lo hi 0 r st = { st with late:=st.late + 1 }:=by unfold zam;simp only [hE];rw [if_pos trivial,w3]
   have ef:fedI 10 f0 = f0 + 1:=by unfold fedI wrap64;rw [if_pos (.inr rfl)];omega
   rw [eC,eJ,hE,ef];exact ⟨⟨⟨L,R,h1.late _,by omega,by omega,h4,h5⟩,h.mx,h.my,by push_cast;omega,by push_cast;omega,by show 0 <= st.late + 1 /\ st.late + 1 <= _;push_cast;omega⟩,trivial⟩
 . have eC:zaj lo hi md 0 r st = []:=by unfold zaj;rw [if_neg (by rw [hE];decide)]
   have eJ:zam lo hi 0 r st = st:=by unfold zam;simp only [hE];rw [if_neg (by decide),if_neg (by decide)]
   have ef:fedI 1 f0 = f0:=by unfold fedI;rw [if_neg (by decide)]
   rw [eC,eJ,hE,ef];exact ⟨h.more,trivial⟩
 . have eC:zaj lo hi md 0 r st = []:=by unfold zaj;rw [if_neg (by rw [hE];decide)]
   have eJ:zam lo hi 0 r st = st:=by unfold zam;simp only [hE];rw [if_neg (by decide),if_neg (by decide)]
   have ef:fedI 12 f0 = f0:=by unfold fedI;rw [if_neg (by decide)]
   rw [eC,eJ,hE,ef];exact ⟨h.more,trivial⟩
theorem POk.feed1 (h:POk lo hi md st V f0 f1 n) (hn:n < 1000000) (r:Row):POk lo hi md (zam lo hi 1 r st) (zaH V (zaj lo hi md 1 r st)) f0 (fedI (feedE lo hi 1 r st.x st.y (st.of 1).length) f1) (n + 1) /\ zb1 V (zaj lo hi md 1 r st):=by
 obtain ⟨L,R,h1,h2,h3,h4,h5⟩:=h.inv;have q0:=h.f0;have q1:=h.f1;have q2:=h.late;obtain ⟨ex,ey⟩:=zeu lo hi 1 (by decide) r st;rcases zeh lo hi 1 r st.x st.y (st.of 1).length with hE | hE | hE | hE
 . obtain ⟨hv,hi'⟩:=h1.feed1 r hE (by omega);have hg:=zeY hE;have ef:fedI 0 f1 = f1 + 1:=by unfold fedI wrap64;rw [if_pos (.inl rfl)];omega
   have el:(zam lo hi 1 r st).late = st.late:=by
    unfold zam;simp only [hE];rw [if_neg (by decide),if_pos trivial];split <;> rfl
   refine ⟨⟨⟨L,r :: R,hi',by (try simp only [List.length_cons]) <;> omega,by (try simp only [List.length_cons]) <;> omega,h4,fun q hq=>(List.mem_cons.1 hq).elim (fun e=>e ▸ hg) (h5 q)⟩,by rw [ex];exact h.mx,by rw [ey];exact h.my,?_,?_,by rw [el];push_cast;omega⟩,hv⟩
   . (try simp only [hE,ef]);push_cast;omega
   . (try simp only [hE,ef]);push_cast;omega
 . have eC:zaj lo hi md 1 r st = []:=by unfold zaj;rw [if_neg (by rw [hE];decide)]
   have w3:wrap64 (st.late + 1) = st.late + 1:=by unfold wrap64;omega
   have eJ:zam lo hi 1 r st = { st with late:=st.late + 1 }:=by unfold zam;simp only [hE];rw [if_pos trivial,w3]
   have ef:fedI 10 f1 = f1 + 1:=by unfold fedI wrap64;rw [if_pos (.inr rfl)];omega
   rw [eC,eJ,hE,ef];exact ⟨⟨⟨L,R,h1.late _,by omega,by omega,h4,h5⟩,h.mx,h.my,by push_cast;omega,by push_cast;omega,by show 0 <= st.late + 1 /\ st.late + 1 <= _;push_cast;omega⟩,trivial⟩
 . have eC:zaj lo hi md 1 r st = []:=by unfold zaj;rw [if_neg (by rw [hE];decide)]
   have eJ:zam lo hi 1 r st = st:=by unfold zam;simp only [hE];rw [if_neg (by decide),if_neg (by decide)]
   have ef:fedI 1 f1 = f1:=by unfold fedI;rw [if_neg (by decide)]
   rw [eC,eJ,hE,ef];exact ⟨h.more,trivial⟩
 . have eC:zaj lo hi md 1 r st = []:=by unfold zaj;rw [if_neg (by rw [hE];decide)]
   have eJ:zam lo hi 1 r st = st:=by unfold zam;simp only [hE];rw [if_neg (by decide),if_neg (by decide)]
   have ef:fedI 12 f1 = f1:=by unfold fedI;rw [if_neg (by decide)]
   rw [eC,eJ,hE,ef];exact ⟨h.more,trivial⟩
theorem POk.move (h:POk lo hi md st V f0 f1 n) (s:Nat) (hs:s < 2) (t:Int) (hm:moveI s t st.x st.y = 0):POk lo hi md (zbr lo hi s t st) V f0 f1 (n + 1):=by
 have hr:=zcP hm;obtain ⟨L,R,h1,h2⟩:=h.more.inv;have ht:(if s = 0 then st.x else st.y) <= t:=by
  have hn:¬ t < ofI s st.x st.y:=fun hh=>by
   unfold moveI at hm;rw [if_neg (by omega),if_neg (by omega),if_pos hh] at hm;cases hm
  have hs':s = 0 \/ s = 1:=by omega
  rcases hs' with rfl | rfl
  . have e:ofI ((0:Nat):Int) st.x st.y = st.x:=rfl;rw [e] at hn;rw [if_pos rfl];omega
  . have e:ofI ((1:Nat):Int) st.x st.y = st.y:=rfl;rw [e] at hn;rw [if_neg (by decide)];omega
 have hi':=h1.move s t ht;have hm1:=h.more;unfold zbr at hi' ⊢;split
 . rename_i h0;rw [if_pos h0] at hi';exact ⟨⟨L,R,hi',h2⟩,by show _ <= t /\ t <= _;omega,h.my,hm1.f0,hm1.f1,hm1.late⟩
 . rename_i h0;rw [if_neg h0] at hi';exact ⟨⟨L,R,hi',h2⟩,h.mx,by show _ <= t /\ t <= _;omega,hm1.f0,hm1.f1,hm1.late⟩
theorem POk.eok2 {u:World} {E:Nat} {Bs:Nat -> Prop} (ok:POk lo hi md st V f0 f1 n) (hn:n < 1000000) (hla:st.a.length <= 300) (hlb:st.b.length <= 300) (hck:checkI lo hi md = 0) (h:EAt u E Bs lo hi md st V V f0 f1):EOk ⟨lo,hi,md,st,V,f0,f1⟩:=by
 obtain ⟨P,M,v0,v1,D,DG,ents,hI,-⟩:=h;obtain ⟨L,R,h1,h2,h3,h4,h5⟩:=ok.inv;have q0:=ok.f0;have q1:=ok.f1;have q2:=ok.late;refine ⟨hck,q0.1,q1.1,q2.1,by show f0 <= _;omega,by show f1 <= _;omega,by show st.late <= _;omega,ok.mx,ok.my,?_,?_,hI.join.s0.srt,hI.join.s1.srt,by show st.a.length <= _;omega,by show st.b.length <= _;omega,ok.outs⟩
 . intro g hg;have hg:g ∈ st.a:=hg;obtain ⟨D,hp,-⟩:=h1.a.all;have hm:=h1.a.met g hg;have hc:R.countP (mtB lo hi 0 g.r) <= R.length:=List.countP_le_length;exact ⟨h4 _ (hp.mem_iff.2 (List.mem_append_left _ (List.mem_map.2 ⟨g,hg,rfl⟩))),by omega,by omega⟩
 . intro g hg;have hg:g ∈ st.b:=hg;obtain ⟨D,hp,-⟩:=h1.b.all;have hm:=h1.b.met g hg;have hc:L.countP (mtB lo hi 1 g.r) <= L.length:=List.countP_le_length;exact ⟨h5 _ (hp.mem_iff.2 (List.mem_append_left _ (List.mem_map.2 ⟨g,hg,rfl⟩))),by omega,by omega⟩
end
section
variable {u:World} {E:Nat} {Bs:Nat -> Prop} {lo hi md:Int} {st:JSt} {V W:List Out} {f0 f1:Int}
theorem EAt.jn (h:EAt u E Bs lo hi md st V W f0 f1):∃ P M v0 v1,u.cell? ⟨E,3,none⟩ = some (.pointer (some ⟨P,0,none⟩)) /\ E < u.heap.size /\ JIs u P M v0 v1 lo hi md st:=by
 obtain ⟨P,M,v0,v1,D,DG,ents,hI,-⟩:=h;exact ⟨P,M,v0,v1,hI.c3,hI.lt,hI.join⟩
theorem zow (h:EAt u E Bs lo hi md st V W f0 f1):Calls Tryz.prog 90 #[.pointer (some ⟨E,0,none⟩)] u fun e u'=>e = .returned (.int .i64 st.late) /\ Ext u u':=by
 obtain ⟨P,M,v0,v1,c3,lE,hj⟩:=h.jn;have hl:=zkI hj;clear hj;go_enter Tryz.func90,Tryz.ntmps90;go_wp2_with (go_at_call 132;refine hl.mono ?_;rintro e w1 ⟨rfl,rfl⟩);go_ret;exact ⟨rfl,ExtM.refl _⟩
theorem znt (s:Int) (h:EAt u E Bs lo hi md st V W f0 f1) (x:Int) (hx:ofI s st.x st.y = x):Calls Tryz.prog 93 #[.pointer (some ⟨E,0,none⟩),.int .i64 s] u fun e u'=>e = .returned (.int .i64 x) /\ Ext u u':=by
 obtain ⟨P,M,v0,v1,c3,lE,hj⟩:=h.jn;have hl:=zhI s hj;rw [hx] at hl;clear hj hx;go_enter Tryz.func93,Tryz.ntmps93;go_wp2_with (go_at_call 135;refine hl.mono ?_;rintro e w1 ⟨rfl,rfl⟩);go_ret;exact ⟨rfl,ExtM.refl _⟩
theorem zni (s:Nat) (hs:s < 2) (h:EAt u E Bs lo hi md st V W f0 f1) (q:Nat) (hq:(st.of s).length = q):Calls Tryz.prog 89 #[.pointer (some ⟨E,0,none⟩),.int .i64 (s:Nat)] u fun e u'=>e = .returned (.int .i64 (q:Nat)) /\ Ext u u':=by
 obtain ⟨P,M,v0,v1,c3,lE,hj⟩:=h.jn;have hl:=zoa s hs hj;rw [hq] at hl;clear hj hq;go_enter Tryz.func89,Tryz.ntmps89;go_wp2_with (go_at_call 131;refine hl.mono ?_;rintro e w1 ⟨rfl,rfl⟩);go_ret;exact ⟨rfl,ExtM.refl _⟩
theorem zif (h:EAt u E Bs lo hi md st V W f0 f1) (hl:W.length < 1000000):∃ ents,za7 ents W /\ (ents.map (·.key)).Nodup /\ Calls Tryz.prog 88 #[.pointer (some ⟨E,0,none⟩)] u (zgd u (allG ents)):=by
 obtain ⟨P,M,v0,v1,D,DG,ents,h,-⟩:=h;refine ⟨ents,h.rep,h.grp.nodup,?_⟩;have c0:=h.lt;have hv:=znC E 6 DG ents W u h.grp h.rep hl;go_enter Tryz.func88,Tryz.ntmps88;go_wp2_with (go_at_call 130;refine hv.mono ?_;rintro e w1 ⟨p,cap,rfl,hx,ho⟩);go_ret;exact ⟨p,cap,rfl,hx,ho⟩
theorem zoZ (h:EAt u E Bs lo hi md st V W f0 f1):Calls Tryz.prog 87 #[.pointer (some ⟨E,0,none⟩),.int .i64 0] u fun e u'=>e = .returned (.int .i64 f0) /\ Ext u u':=by
 have c7:=h.c70;go_enter Tryz.func87,Tryz.ntmps87;go_wp2_with fail;go_ret;exact ⟨rfl,ExtM.refl _⟩
theorem zoy (h:EAt u E Bs lo hi md st V W f0 f1):Calls Tryz.prog 87 #[.pointer (some ⟨E,0,none⟩),.int .i64 1] u fun e u'=>e = .returned (.int .i64 f1) /\ Ext u u':=by
 have c7:=h.c71;go_enter Tryz.func87,Tryz.ntmps87;go_wp2_with fail;go_ret;exact ⟨rfl,ExtM.refl _⟩
end
section
variable {u:World} {E:Nat} {Bs:Nat -> Prop} {lo hi md:Int} {st:JSt} {V W:List Out} {f0 f1:Int}
theorem zhk {P M:Nat} {v0 v1:Value} (h:JIs u P M v0 v1 lo hi md st) (s t c:Int) (hc:moveI s t st.x st.y = c) (h0:c ≠ 0) :
 Calls Tryz.prog 134 #[.pointer (some ⟨P,0,none⟩),.int .i64 s,.int .i64 t] u fun e u'=>e = .returned (.iface 47 (.int .i64 c)) /\ u = u':=by
 have c5:=h.c5;go_enter Tryz.func134,Tryz.ntmps134;go_wp2_with (go_at_call 176;refine (zg0 M s t st.x st.y c _ h.mks hc h0).mono ?_;rintro e w1 ⟨rfl,rfl⟩);go_ret;exact ⟨rfl,rfl⟩
theorem zn4 (h:EAt u E Bs lo hi md st V W f0 f1) (s t:Int) (hs:s ≠ 0 /\ s ≠ 1):Calls Tryz.prog 92 #[.pointer (some ⟨E,0,none⟩),.int .i64 s,.int .i64 t] u fun e u'=>e = .returned (errV 1) /\ Ext u u':=by
 have hm:moveI s t st.x st.y = 1:=by unfold moveI;rw [if_pos hs]
 obtain ⟨P,M,v0,v1,c3,lE,hj⟩:=h.jn;have hl:=zhk hj s t 1 hm (by decide);clear hj hm;go_enter Tryz.func92,Tryz.ntmps92;go_wp2_with (go_at_call 134;refine hl.mono ?_;rintro e w1 ⟨rfl,rfl⟩);go_ret;exact ⟨rfl,ExtM.refl _⟩
end
section
variable {u:World} {E:Nat} {Bs:Nat -> Prop} {lo hi md:Int} {st:JSt} {V W:List Out} {f0 f1:Int}
end
theorem zmT (lo hi md:Int) (w:World) (hc:checkI lo hi md ≠ 0) :
 Calls Tryz.prog 19 #[.agg #[.int .i64 lo,.int .i64 hi,.int .i64 md]] w fun e w'=>e = .returned (.tuple #[.pointer none,errV (checkI lo hi md)]) /\ Ext w w':=by
 have hk:=fun u=>zlg lo hi md u hc;have he:errV (checkI lo hi md) = .iface 47 (.int .i64 (checkI lo hi md)):=by unfold errV;rw [if_neg hc]
 rw [he] at hk ⊢;generalize checkI lo hi md = c at *;clear hc he;go_enter Tryz.func19,Tryz.ntmps19;go_wp2_with (go_at_call 43;refine (hk _).mono ?_;rintro e w1 ⟨rfl,hx1⟩);go_ret2;exact ⟨rfl,ExtM.trans _ _ _ ((ExtM.refl w).alloc _) hx1⟩
section
variable {u:World} {J:Nat} {r0 r1:Value} {lo hi md:Int} {st:RSt}
end
def za1 (L:List RHd):Prop:=∀ x ∈ L,-1099511627776 <= x.r.t /\ x.r.t <= 1099511627776
theorem zeJ {lo hi:Int} {r:Row} {st:RSt} (hE:feedE lo hi 0 r st.x st.y (st.of 0).length = 0) (hb:¬ tilI lo hi 0 r.t > st.y):za4 lo hi 0 r st = { st with b:=st.b.map (zsN (zab r.k (frI lo hi 0 r.t) (tilI lo hi 0 r.t))) }:=by
 unfold za4;simp only [hE];rw [if_neg (by decide),if_pos trivial];exact if_neg hb
theorem zej {lo hi:Int} {r:Row} {st:RSt} (hE:feedE lo hi 0 r st.x st.y (st.of 0).length = 0) (hb:tilI lo hi 0 r.t > st.y) :
 za4 lo hi 0 r st = { st with a:=st.a ++ [⟨r,((st.b.filter (fun x=>zab r.k (frI lo hi 0 r.t) (tilI lo hi 0 r.t) x.hd)).length:Nat),st.came + 1⟩],b:=st.b.map (zsN (zab r.k (frI lo hi 0 r.t) (tilI lo hi 0 r.t))),came:=st.came + 1 }:=by
 unfold za4;simp only [hE];rw [if_neg (by decide),if_pos trivial];exact if_pos hb
theorem zeE {lo hi:Int} {r:Row} {st:RSt} (hE:feedE lo hi 1 r st.x st.y (st.of 1).length = 0) (hb:¬ tilI lo hi 1 r.t > st.x):za4 lo hi 1 r st = { st with a:=st.a.map (zsN (zab r.k (frI lo hi 1 r.t) (tilI lo hi 1 r.t))) }:=by
 unfold za4;simp only [hE];rw [if_neg (by decide),if_pos trivial];exact if_neg hb
theorem zef {lo hi:Int} {r:Row} {st:RSt} (hE:feedE lo hi 1 r st.x st.y (st.of 1).length = 0) (hb:tilI lo hi 1 r.t > st.x) :
 za4 lo hi 1 r st = { st with b:=st.b ++ [⟨r,((st.a.filter (fun x=>zab r.k (frI lo hi 1 r.t) (tilI lo hi 1 r.t) x.hd)).length:Nat),st.came + 1⟩],a:=st.a.map (zsN (zab r.k (frI lo hi 1 r.t) (tilI lo hi 1 r.t))),came:=st.came + 1 }:=by
 unfold za4;simp only [hE];rw [if_neg (by decide),if_pos trivial];exact if_pos hb
def zdO (lo hi:Int) (s:Int) (r:Row) (st:JSt):Int:=if s = 0 then feedE lo hi 0 r st.x st.y st.a.length else if s = 1 then feedE lo hi 1 r st.x st.y st.b.length else 1
def zcR (lo hi md:Int) (s:Int) (r:Row) (st:JSt):List (Out × Bool):=if s = 0 then zaj lo hi md 0 r st else if s = 1 then zaj lo hi md 1 r st else []
def zgm (lo hi:Int) (s:Int) (r:Row) (st:JSt):JSt:=if s = 0 then zam lo hi 0 r st else if s = 1 then zam lo hi 1 r st else st
def zhq (lo hi:Int) (s:Int) (r:Row) (st:RSt):RSt:=if s = 0 then za4 lo hi 0 r st else if s = 1 then za4 lo hi 1 r st else st
def zqp (s:Int) (x:Hd) (st:JSt):JSt:=if s = 0 then putJ 0 x st else if s = 1 then putJ 1 x st else st
def zqH (s:Int) (x:Hd) (st:RSt):RSt:=if s = 0 then zrm 0 x st else if s = 1 then zrm 1 x st else st
def mvJ (lo hi:Int) (s t:Int) (st:JSt):JSt:=if moveI s t st.x st.y = 0 then (if s = 0 then zbr lo hi 0 t st else zbr lo hi 1 t st) else st
def mvR (lo hi:Int) (s t:Int) (st:RSt):RSt:=if moveI s t st.x st.y = 0 then (if s = 0 then zbS lo hi 0 t st else zbS lo hi 1 t st) else st
structure zce (st:JSt) (rs:RSt) (n:Nat):Prop where
 rel:RelJ st rs
 la:rs.a.length <= 300
 lb:rs.b.length <= 300
 ta:za1 rs.a
 tb:za1 rs.b
 c0:0 <= rs.came
 c1:rs.came <= (n:Int)
theorem zce.more {st:JSt} {rs:RSt} {n:Nat} (h:zce st rs n):zce st rs (n + 1):=⟨h.rel,h.la,h.lb,h.ta,h.tb,h.c0,by have:=h.c1;push_cast;omega⟩
theorem zce.a {st:JSt} {rs:RSt} {n:Nat} (h:zce st rs n):st.a.length = rs.a.length:=h.rel.len 0
theorem zce.b {st:JSt} {rs:RSt} {n:Nat} (h:zce st rs n):st.b.length = rs.b.length:=h.rel.len 1
theorem za1.add {L:List RHd} (h:za1 L) {x:RHd} (hx:-1099511627776 <= x.r.t /\ x.r.t <= 1099511627776):za1 (L ++ [x]):=fun y hy=>by
 rcases List.mem_append.1 hy with hy | hy
 . exact h y hy
 . rw [List.mem_singleton.1 hy];exact hx
theorem za1.map {L:List RHd} (h:za1 L) (p:Hd -> Bool):za1 (L.map (zsN p)):=fun y hy=>by
 obtain ⟨x,hx,rfl⟩:=List.mem_map.1 hy;rw [(zfw p x).1];exact h x hx
theorem za1.filter {L:List RHd} (h:za1 L) (p:RHd -> Bool):za1 (L.filter p):=fun y hy=>h y ((List.mem_filter.1 hy).1)
theorem zlB {lo hi:Int} {s:Nat} {r:Row} {x y:Int} {own:Nat} (h:feedE lo hi s r x y own = 0):za3 r.k r.t r.v = true /\ (tilI lo hi s r.t > (if s = 0 then y else x) -> own < 300):=by
 unfold feedE at h;by_cases h1:za3 r.k r.t r.v = false
 . rw [if_pos h1] at h;cases h
 rw [if_neg h1] at h;by_cases h2:r.t <= (if s = 0 then x else y)
 . rw [if_pos h2] at h;cases h
 rw [if_neg h2] at h;by_cases h3:tilI lo hi s r.t > (if s = 0 then y else x) /\ 300 <= own
 . rw [if_pos h3] at h;cases h
 . exact ⟨by simpa using h1,fun h4=>by omega⟩
theorem zge {lo hi:Int} {s:Nat} (hs:s < 2) {r:Row} {rs:RSt} {n:Nat} (la:rs.a.length <= 300) (lb:rs.b.length <= 300) (ta:za1 rs.a) (tb:za1 rs.b) (c0:0 <= rs.came) (c1:rs.came <= (n:Int)) :
 (za4 lo hi s r rs).a.length <= 300 /\ (za4 lo hi s r rs).b.length <= 300 /\ za1 (za4 lo hi s r rs).a /\ za1 (za4 lo hi s r rs).b /\ 0 <= (za4 lo hi s r rs).came /\ (za4 lo hi s r rs).came <= ((n + 1:Nat):Int):=by
 have hs':s = 0 \/ s = 1:=by omega
 by_cases h10:feedE lo hi s r rs.x rs.y (rs.of s).length = 10
 . have e:za4 lo hi s r rs = { rs with late:=wrap64 (rs.late + 1) }:=by unfold za4;exact if_pos h10
   rw [e];exact ⟨la,lb,ta,tb,c0,by push_cast;omega⟩
 by_cases h0:feedE lo hi s r rs.x rs.y (rs.of s).length = 0
 . obtain ⟨hg,hf⟩:=zlB h0;have ht:=zcr hg;rcases hs' with rfl | rfl
   . by_cases hb:tilI lo hi 0 r.t > rs.y
     . rw [zej h0 hb]
       have:=hf hb
       have e:(rs.of 0).length = rs.a.length:=rfl;exact ⟨by simp;omega,by simp;omega,ta.add ht,tb.map _,by show 0 <= rs.came + 1;omega,by show rs.came + 1 <= _;push_cast;omega⟩
     . rw [zeJ h0 hb];exact ⟨la,by simp;omega,ta,tb.map _,c0,by show rs.came <= _;push_cast;omega⟩
   . by_cases hb:tilI lo hi 1 r.t > rs.x
     . rw [zef h0 hb]
       have:=hf hb
       have e:(rs.of 1).length = rs.b.length:=rfl;exact ⟨by simp;omega,by simp;omega,ta.map _,tb.add ht,by show 0 <= rs.came + 1;omega,by show rs.came + 1 <= _;push_cast;omega⟩
     . rw [zeE h0 hb];exact ⟨by simp;omega,lb,ta.map _,tb,c0,by show rs.came <= _;push_cast;omega⟩
 . have e:za4 lo hi s r rs = rs:=by unfold za4;exact (if_neg h10).trans (if_neg h0)
   rw [e];exact ⟨la,lb,ta,tb,c0,by push_cast;omega⟩
theorem zce.feed {st:JSt} {rs:RSt} {n:Nat} (h:zce st rs n) (lo hi s:Int) (r:Row):zce (zgm lo hi s r st) (zhq lo hi s r rs) (n + 1):=by
 unfold zgm zhq;by_cases h0:s = 0
 . rw [if_pos h0,if_pos h0];obtain ⟨a,b,c,d,e,f⟩:=zge (lo:=lo) (hi:=hi) (s:=0) (r:=r) (by omega) h.la h.lb h.ta h.tb h.c0 h.c1;exact ⟨zgv h.rel lo hi 0 (by omega) r,a,b,c,d,e,f⟩
 rw [if_neg h0,if_neg h0];by_cases h1:s = 1
 . rw [if_pos h1,if_pos h1];obtain ⟨a,b,c,d,e,f⟩:=zge (lo:=lo) (hi:=hi) (s:=1) (r:=r) (by omega) h.la h.lb h.ta h.tb h.c0 h.c1;exact ⟨zgv h.rel lo hi 1 (by omega) r,a,b,c,d,e,f⟩
 rw [if_neg h1,if_neg h1];exact h.more
theorem zqo {L:List RHd} {x:Hd} {came:Int} (h:L.length <= 300) (ht:za1 L):(putL L x came).length <= 300 /\ za1 (putL L x came):=by
 unfold putL;by_cases he:addE (L.map RHd.hd) x = 0
 . rw [if_pos he,List.length_append,List.length_singleton];unfold addE at he;rw [List.length_map] at he;by_cases h1:(za3 x.r.k x.r.t x.r.v && decide (0 <= x.m)) = false
   . rw [if_pos h1] at he;omega
   . rw [if_neg h1] at he;have hg:za3 x.r.k x.r.t x.r.v = true:=by
      cases hh:za3 x.r.k x.r.t x.r.v
      . exact absurd (by rw [hh];rfl) h1
      . rfl
     by_cases h2:300 <= L.length
     . rw [if_pos h2] at he;omega
     . exact ⟨by omega,ht.add (zcr hg)⟩
 . rw [if_neg he];exact ⟨h,ht⟩
theorem zce.put {st:JSt} {rs:RSt} {n:Nat} (h:zce st rs n) (s:Int) (x:Hd):zce (zqp s x st) (zqH s x rs) (n + 1):=by
 unfold zqp zqH;have hc0:=h.c0;have hc1:=h.c1;by_cases h0:s = 0
 . rw [if_pos h0,if_pos h0]
   have:=zql (L:=rs.a) (x:=x) (came:=rs.came)
   exact ⟨(zq4 h.rel 0 (by omega) x).1,(zqo h.la h.ta).1,h.lb,(zqo h.la h.ta).2,h.tb,by show 0 <= putN _ _ _;exact Int.le_trans hc0 this.1,by show putN rs.a x rs.came <= _;push_cast;omega⟩
 rw [if_neg h0,if_neg h0];by_cases h1:s = 1
 . rw [if_pos h1,if_pos h1]
   have:=zql (L:=rs.b) (x:=x) (came:=rs.came)
   exact ⟨(zq4 h.rel 1 (by omega) x).1,h.la,(zqo h.lb h.tb).1,h.ta,(zqo h.lb h.tb).2,by show 0 <= putN _ _ _;exact Int.le_trans hc0 this.1,by show putN rs.b x rs.came <= _;push_cast;omega⟩
 rw [if_neg h1,if_neg h1];exact h.more
theorem zce.move {st:JSt} {rs:RSt} {n:Nat} (h:zce st rs n) (lo hi s t:Int):zce (mvJ lo hi s t st) (mvR lo hi s t rs) (n + 1):=by
 have hm:∀ s':Nat,(zbS lo hi s' t rs).a.length <= 300 /\ (zbS lo hi s' t rs).b.length <= 300 /\ za1 (zbS lo hi s' t rs).a /\ za1 (zbS lo hi s' t rs).b /\ (zbS lo hi s' t rs).came = rs.came:=fun s'=>by
  unfold zbS;split
  . exact ⟨h.la,Nat.le_trans (List.length_filter_le _ _) h.lb,h.ta,h.tb.filter _,rfl⟩
  . exact ⟨Nat.le_trans (List.length_filter_le _ _) h.la,h.lb,h.ta.filter _,h.tb,rfl⟩
 have hc0:=h.c0;have hc1:=h.c1;have go:∀ s':Nat,zce (zbr lo hi s' t st) (zbS lo hi s' t rs) (n + 1):=fun s'=>by
  obtain ⟨a,b,c,d,e⟩:=hm s';exact ⟨zkY h.rel lo hi s' t,a,b,c,d,by rw [e];exact hc0,by rw [e];push_cast;omega⟩
 unfold mvJ mvR;rw [h.rel.x,h.rel.y];split
 . split
   . exact go 0
   . exact go 1
 . exact h.more
structure JX (w u:World) (P M J:Nat) (lo hi md:Int) (Av Bs Cs:Nat -> Prop) (st:JSt) (rs:RSt):Prop where
 ext:Ext w u
 j:JAt u P M Bs lo hi md st
 r:RAt u J Cs lo hi md rs
 nB:∀ k,Bs k -> w.heap.size <= k /\ ¬ Cs k /\ ¬ Av k
 nC:∀ k,Cs k -> w.heap.size <= k /\ ¬ Av k
 av:∀ b,Av b -> b < u.heap.size
section
variable {w u u':World} {P M J:Nat} {lo hi md:Int} {Av Bs Cs:Nat -> Prop} {st:JSt} {rs:RSt}
theorem JX.of (h:JX w u P M J lo hi md Av Bs Cs st rs) (hx:Ext u u'):JX w u' P M J lo hi md Av Bs Cs st rs :=
 ⟨ExtM.trans _ _ _ h.ext hx,h.j.ext hx,h.r.ext hx,h.nB,h.nC,fun b hb=>Nat.lt_of_lt_of_le (h.av b hb) hx.size⟩
variable {n:Nat}
end
open Go.RowKit Go.Plan Go.Sort
variable {α:Type} [Inhabited α]
section
variable {n:Nat} {lt:α -> α -> Bool} {g:Nat} {lb:Array Value} {sf:Nat} {sb:Array Value} {blk:Nat} {H:Array α -> World -> Prop}
end
variable {α:Type} [Inhabited α]
section
variable {n:Nat} {lt:α -> α -> Bool} {g:Nat} {lb:Array Value} {sf:Nat} {sb:Array Value} {blk:Nat} {H:Array α -> World -> Prop}
end
instance:Inhabited Out:=⟨⟨0,⟨0,0,0⟩,⟨0,0,0⟩,false,false⟩⟩
structure RB (w:World) (B:Nat) (v:Value) (l:List Out):Prop where
 c0:w.cell? ⟨B,0,none⟩ = some v
 f0:w.frozen? ⟨B,0,none⟩ = false
 row:w.ownsRow 0 94 9 v l.length (l.flatMap Out.cells)
 own:v.ownBlock ≠ some B
theorem RB.lt {w:World} {B:Nat} {v:Value} {l:List Out} (h:RB w B v l):B < w.heap.size:=zac h.c0
theorem RB.extM {M:Nat -> Prop} {w w':World} {B:Nat} {v:Value} {l:List Out} (h:RB w B v l) (hx:ExtM M w w') (hB:¬ M B) (hv:∀ k,v.ownBlock = some k -> ¬ M k):RB w' B v l :=
 ⟨(hx.cell (p:=⟨B,0,none⟩) h.lt hB).trans h.c0,(hx.frozen (p:=⟨B,0,none⟩) h.lt hB).trans h.f0,zag h.row hx hv,h.own⟩
theorem RB.of {w w':World} {B:Nat} {v:Value} {l:List Out} (h:RB w B v l) (hx:Ext w w'):RB w' B v l:=h.extM hx (fun h=>h) (fun _ _ h=>h)
structure RE (w:World) (B:Nat) (v:Value) (l:List Out):Prop where
 c0:w.cell? ⟨B,1,none⟩ = some v
 f0:w.frozen? ⟨B,1,none⟩ = false
 row:w.ownsRow 0 94 9 v l.length (l.flatMap Out.cells)
 own:v.ownBlock ≠ some B
theorem RE.lt {w:World} {B:Nat} {v:Value} {l:List Out} (h:RE w B v l):B < w.heap.size:=zac h.c0
theorem RE.extM {M:Nat -> Prop} {w w':World} {B:Nat} {v:Value} {l:List Out} (h:RE w B v l) (hx:ExtM M w w') (hB:¬ M B) (hv:∀ k,v.ownBlock = some k -> ¬ M k):RE w' B v l :=
 ⟨(hx.cell (p:=⟨B,1,none⟩) h.lt hB).trans h.c0,(hx.frozen (p:=⟨B,1,none⟩) h.lt hB).trans h.f0,zag h.row hx hv,h.own⟩
theorem RE.of {w w':World} {B:Nat} {v:Value} {l:List Out} (h:RE w B v l) (hx:Ext w w'):RE w' B v l:=h.extM hx (fun h=>h) (fun _ _ h=>h)
structure REIs (u:World) (R J:Nat) (r0 r1 rv:Value) (lo hi md:Int) (rs:RSt) (l:List Out) (f0 f1:Int):Prop where
 c0:u.cell? ⟨R,0,none⟩ = some (.pointer (some ⟨J,0,none⟩))
 bag:RE u R rv l
 c2:u.cell? ⟨R,2,none⟩ = some (.int .i64 f0)
 c3:u.cell? ⟨R,3,none⟩ = some (.int .i64 f1)
 fz:∀ q,u.frozen? ⟨R,q,none⟩ = false
 join:RIs u J r0 r1 lo hi md rs
 nR:¬ zaO J r0 r1 R
 nv:∀ k,rv.ownBlock = some k -> ¬ zaO J r0 r1 k
def zdU (R J:Nat) (r0 r1 rv:Value) (k:Nat):Prop:=k = R \/ rv.ownBlock = some k \/ zaO J r0 r1 k
section
variable {u u':World} {R J:Nat} {r0 r1 rv:Value} {lo hi md:Int} {rs:RSt} {l:List Out} {f0 f1:Int}
theorem REIs.lt (h:REIs u R J r0 r1 rv lo hi md rs l f0 f1):R < u.heap.size:=zac h.c0
theorem REIs.foot (h:REIs u R J r0 r1 rv lo hi md rs l f0 f1) (k:Nat) (hk:zdU R J r0 r1 rv k):k < u.heap.size:=by
 rcases hk with rfl | hk | hk
 . exact h.lt
 . exact (zaf h.bag.row k hk).2
 . exact h.join.foot k hk
theorem REIs.keep {F:Nat -> Prop} (h:REIs u R J r0 r1 rv lo hi md rs l f0 f1) (hx:ExtM F u u') (hF:∀ k,zdU R J r0 r1 rv k -> ¬ F k):REIs u' R J r0 r1 rv lo hi md rs l f0 f1:=by
 have hR:=hF R (.inl rfl);have k:=fun o=>hx.cell (p:=⟨R,o,none⟩) h.lt hR;exact ⟨(k _).trans h.c0,h.bag.extM hx hR (fun q hq=>hF q (.inr (.inl hq))),(k _).trans h.c2,(k _).trans h.c3,fun q=>(hx.frozen (p:=⟨R,q,none⟩) h.lt hR).trans (h.fz q),h.join.extM hx (hF _ (.inr (.inr (.inl rfl)))) (fun q hq=>hF q (.inr (.inr (.inr (.inl hq))))) (fun q hq=>hF q (.inr (.inr (.inr (.inr hq))))),h.nR,h.nv⟩
theorem REIs.ext (h:REIs u R J r0 r1 rv lo hi md rs l f0 f1) (hx:Ext u u'):REIs u' R J r0 r1 rv lo hi md rs l f0 f1:=h.keep hx (fun _ _ h=>h)
end
def REAt (u:World) (R:Nat) (Cs:Nat -> Prop) (lo hi md:Int) (rs:RSt) (l:List Out) (f0 f1:Int):Prop:=∃ J r0 r1 rv,REIs u R J r0 r1 rv lo hi md rs l f0 f1 /\ Cs = zdU R J r0 r1 rv
section
variable {u u':World} {R:Nat} {Cs:Nat -> Prop} {lo hi md:Int} {rs:RSt} {l:List Out} {f0 f1:Int}
theorem REAt.lt (h:REAt u R Cs lo hi md rs l f0 f1) (k:Nat) (hk:Cs k):k < u.heap.size:=by
 obtain ⟨J,r0,r1,rv,h,rfl⟩:=h;exact h.foot k hk
theorem REAt.keep {F:Nat -> Prop} (h:REAt u R Cs lo hi md rs l f0 f1) (hx:ExtM F u u') (hF:∀ k,Cs k -> ¬ F k):REAt u' R Cs lo hi md rs l f0 f1:=by
 obtain ⟨J,r0,r1,rv,h,rfl⟩:=h;exact ⟨J,r0,r1,rv,h.keep hx hF,rfl⟩
theorem REAt.ext (h:REAt u R Cs lo hi md rs l f0 f1) (hx:Ext u u'):REAt u' R Cs lo hi md rs l f0 f1:=h.keep hx (fun _ _ h=>h)
end
def zbd (l:List Out) (cs:List (Out × Bool)):List Out:=cs.foldl (fun l c=>if c.2 then l.erase c.1 else l ++ [c.1]) l
theorem zek:∀ (cs:List (Out × Bool)) {l V:List Out},l.Perm V -> (zbd l cs).Perm (zaH V cs)
 | [],_,_,h=>h
 | c :: cs,l,V,h=>by
   show (zbd (if c.2 then l.erase c.1 else l ++ [c.1]) cs).Perm (zaH V (c :: cs));rw [zhD];refine zek cs ?_;split
   . exact h.erase _
   . exact (List.perm_append_singleton _ _).trans (List.Perm.cons _ h)
def sfV (lo hi md s:Int) (r:Row) (st:JSt) (V:List Out):List Out:=zaH V (zcR lo hi md s r st)
def sfL (lo hi md s:Int) (r:Row) (st:JSt) (l:List Out):List Out:=zbd l (zcR lo hi md s r st)
def sf0 (lo hi s:Int) (r:Row) (st:JSt) (f:Int):Int:=if s = 0 then fedI (zdO lo hi s r st) f else f
def sf1 (lo hi s:Int) (r:Row) (st:JSt) (f:Int):Int:=if s = 1 then fedI (zdO lo hi s r st) f else f
structure EG (lo hi md:Int) (st:JSt) (V:List Out) (f0 f1:Int) (rs:RSt) (l:List Out) (n:Nat):Prop where
 g:zce st rs n
 ok:POk lo hi md st V f0 f1 n
 p:l.Perm V
section
variable {lo hi md:Int} {st:JSt} {V:List Out} {f0 f1:Int} {rs:RSt} {l:List Out} {n:Nat}
theorem EG.more (h:EG lo hi md st V f0 f1 rs l n):EG lo hi md st V f0 f1 rs l (n + 1):=⟨h.g.more,h.ok.more,h.p⟩
theorem EG.valid (h:EG lo hi md st V f0 f1 rs l n) (hn:n < 600) (s:Int) (r:Row):zb1 V (zcR lo hi md s r st):=by
 unfold zcR;split
 . exact (h.ok.feed0 (by omega) r).2
 . split
   . exact (h.ok.feed1 (by omega) r).2
   . trivial
theorem EG.feed (h:EG lo hi md st V f0 f1 rs l n) (hn:n < 600) (s:Int) (r:Row):EG lo hi md (zgm lo hi s r st) (sfV lo hi md s r st V) (sf0 lo hi s r st f0) (sf1 lo hi s r st f1) (zhq lo hi s r rs) (sfL lo hi md s r st l) (n + 1):=by
 refine ⟨h.g.feed lo hi s r,?_,zek _ h.p⟩;unfold zgm sfV sf0 sf1 zcR zdO;by_cases h0:s = 0
 . subst h0;simp only [if_true,show ¬ (0:Int) = 1 by decide,if_false];exact (h.ok.feed0 (by omega) r).1
 by_cases h1:s = 1
 . subst h1;simp only [if_true,show ¬ (1:Int) = 0 by decide,if_false];exact (h.ok.feed1 (by omega) r).1
 . simp only [if_neg h0,if_neg h1];exact h.ok.more
theorem EG.move (h:EG lo hi md st V f0 f1 rs l n) (s t:Int):EG lo hi md (mvJ lo hi s t st) V f0 f1 (mvR lo hi s t rs) l (n + 1):=by
 refine ⟨h.g.move lo hi s t,?_,h.p⟩;unfold mvJ;by_cases hm:moveI s t st.x st.y = 0
 . rw [if_pos hm];have hs:s = 0 \/ s = 1:=by
    rcases Classical.em (s ≠ 0 /\ s ≠ 1) with hs | hs
    . unfold moveI at hm;rw [if_pos hs] at hm;cases hm
    . omega
   rcases hs with rfl | rfl
   . rw [if_pos rfl];exact h.ok.move 0 (by decide) t hm
   . rw [if_neg (by decide)];exact h.ok.move 1 (by decide) t hm
 . rw [if_neg hm];exact h.ok.more
theorem EG.perm (h:EG lo hi md st V f0 f1 rs l n) {V':List Out} (hp:V'.Perm V):EG lo hi md st V' f0 f1 rs l n:=⟨h.g,h.ok.perm hp,h.p.trans hp.symm⟩
end
structure EX (w u:World) (E R:Nat) (lo hi md:Int) (Av Bs Cs:Nat -> Prop) (st:JSt) (V:List Out) (f0 f1:Int) (rs:RSt) (l:List Out) (g0 g1:Int):Prop where
 ext:Ext w u
 e:EAt u E Bs lo hi md st V V f0 f1
 r:REAt u R Cs lo hi md rs l g0 g1
 nB:∀ k,Bs k -> w.heap.size <= k /\ ¬ Cs k /\ ¬ Av k
 nC:∀ k,Cs k -> w.heap.size <= k /\ ¬ Av k
 av:∀ b,Av b -> b < u.heap.size
section
variable {w u u':World} {E R:Nat} {lo hi md:Int} {Av Bs Cs:Nat -> Prop} {st:JSt} {V:List Out} {f0 f1:Int} {rs:RSt} {l:List Out} {g0 g1:Int}
theorem EX.of (h:EX w u E R lo hi md Av Bs Cs st V f0 f1 rs l g0 g1) (hx:Ext u u'):EX w u' E R lo hi md Av Bs Cs st V f0 f1 rs l g0 g1 :=
 ⟨ExtM.trans _ _ _ h.ext hx,h.e.ext hx,h.r.ext hx,h.nB,h.nC,fun b hb=>Nat.lt_of_lt_of_le (h.av b hb) hx.size⟩
variable {n:Nat}
end
structure LSt where
 e:ESt
 rs:RSt
 l:List Out
def LSt.new (lo hi md:Int):LSt:=⟨⟨lo,hi,md,⟨[],[],-1099511627777,-1099511627777,0⟩,[],0,0⟩,⟨[],[],-1099511627777,-1099511627777,0,0⟩,[]⟩
def nAt (ns:List Int) (i:Nat):Int:=ns.getD i 0
theorem zq7 {hs:List Hd} {x:Hd} (hg:∀ h ∈ hs,za0 h.r /\ 0 <= h.m /\ h.m <= 9223372036854775807) (hs1:zaD hs) (hl:hs.length <= 300) (hm:x.m <= 9223372036854775807) :
 (∀ h ∈ addL hs x,za0 h.r /\ 0 <= h.m /\ h.m <= 9223372036854775807) /\ zaD (addL hs x) /\ (addL hs x).length <= 300:=by
 by_cases he:addE hs x = 0
 . have hx:za0 x.r /\ 0 <= x.m:=by
    unfold addE at he;split at he
    . cases he
    . rename_i hq;simp only [Bool.and_eq_false_imp,Classical.not_imp,Bool.not_eq_false,decide_eq_true_eq] at hq;exact hq
   refine ⟨fun y hy=>?_,by unfold addL;rw [if_pos he];exact zhJ hs1 x,zhV he hl⟩;unfold addL at hy;rw [if_pos he] at hy;rcases List.mem_cons.1 ((zey hs x).mem_iff.1 hy) with rfl | hy
   . exact ⟨hx.1,hx.2,hm⟩
   . exact hg y hy
 . unfold addL;rw [if_neg he];exact ⟨hg,hs1,hl⟩
theorem EOk.put {e:ESt} (h:EOk e) (s:Int) (x:Hd) (hm:x.m <= 9223372036854775807):EOk { e with st:=zqp s x e.st }:=by
 unfold zqp;split
 . obtain ⟨h1,h2,h3⟩:=zq7 (x:=x) h.ga h.sa h.la hm;exact ⟨h.plan,h.f0,h.f1,h.late,h.i0,h.i1,h.il,h.mx,h.my,h1,h.gb,h2,h.sb,h3,h.lb,h.v⟩
 . split
   . obtain ⟨h1,h2,h3⟩:=zq7 (x:=x) h.gb h.sb h.lb hm;exact ⟨h.plan,h.f0,h.f1,h.late,h.i0,h.i1,h.il,h.mx,h.my,h.ga,h1,h.sa,h2,h.la,h3,h.v⟩
   . exact h
open Go.RowKit Go.Plan Go.Lib
def numO (s:List UInt8):Option Int:=match atoiAll s with
 | .ok n=>if itoa n = s then some n else none
 | _=>none
def numW (s:List UInt8):Int:=match atoiAll s with
 | .ok n=>if itoa n = s then n else 0
 | _=>0
theorem ztf {s:List UInt8} {n:Int} (h:numO s = some n):numW s = n:=by
 unfold numO at h;unfold numW;cases hm:atoiAll s with
 | ok m =>
   rw [hm] at h;simp only at h ⊢;split at h
   . rename_i e;cases h;exact if_pos e
   . cases h
 | _=>rw [hm] at h;cases h
end Go.Proofs.YtiknejbcehpmoaaGreatDoor
