import Derived.Test.YtmcgnnmffeojpabGreatDoorPk32
import Derived.Deep.DeepCutAuto
import Derived.Deep.CutBlock
set_option maxRecDepth 100000
set_option maxHeartbeats 8000000
namespace Go.Proofs.YtmcgnnmffeojpabGreatDoor
open Go.RowKit Go.Plan
theorem zpa {u : World} (s : ByteArray) (hs : s.size < 4000000000) (hm : MaxP u) (hE : ErrP u) (ht : TabP u) (hLd : Laid u) (hB : zfM s.data.toList = none -> BadC) :
 Calls Tryz.prog 6 #[.string s] u fun e u' => LoadV u s.data.toList e u' := by
 have hsz : s.data.toList.length = s.size := by rw [Array.length_toList];rfl
 have hsp := zkB 10 s u (by omega) hm;go_enter Tryz.func6,Tryz.ntmps6;go_wp2_with (go_at_call 38;refine hsp.mono ?_;rintro e w1 ⟨ls,hls,rfl,rfl⟩;refine Hid.out ?_);refine Lib.hid ?_;have hcell := zib u ls;have hx1 : Ext u (u.alloc (.cells (ls.map Value.string).toArray 9)) := (ExtM.refl _).alloc _;have hbl : u.heap.size < (u.alloc (.cells (ls.map Value.string).toArray 9)).heap.size := by rw [World.size_alloc];omega
 have HLS := Lib.hid hls;clear hls hsp;generalize u.alloc (.cells (ls.map Value.string).toArray 9) = w1 at *;have hout : zfM s.data.toList = none -> LoadV u s.data.toList (.returned (.tuple #[.pointer none,errV 3])) w1 := fun h => by
  unfold LoadV;rw [h];exact ⟨hx1,rfl⟩
 have hq := zmI _ _ HLS.out;by_cases h1 : 60000 < s.size
 . have d1 : decide ((60000 : Int) < s.size) = true := by simp;omega
   have d1' : decide (60000 < s.size) = true := by simp;omega
   rw [if_pos (.inl (by omega))] at hq;have hfin := hout hq;clear hout hq;go_wp2_with fail;go_ret2;exact hfin
 have d1 : decide ((60000 : Int) < s.size) = false := by simp;omega
 have d1' : decide (60000 < s.size) = false := by simp;omega
 by_cases h2 : ls.length < 5
 . have d2 : decide ((ls.length : Int) < 5) = true := by simp;omega
   have d2' : decide (ls.length < 5) = true := by simp;omega
   rw [List.length_map,if_pos (.inr (.inl (by omega)))] at hq;have hfin := hout hq;clear hout hq;go_wp2_with fail;go_ret2;exact hfin
 have d2 : decide ((ls.length : Int) < 5) = false := by simp;omega
 have d2' : decide (ls.length < 5) = false := by simp;omega
 have hl2 : ls.length - 2 < ls.length := by omega
 have hl1 : ls.length - 1 < ls.length := by omega
 have y2 := hcell _ hl2;have y1 := hcell _ hl1;have q2 : (ls.map (·.data.toList))[ls.length - 2]? = some (ls[ls.length - 2].data.toList) := by simp [hl2]
 have q1 : (ls.map (·.data.toList))[ls.length - 1]? = some (ls[ls.length - 1].data.toList) := by simp [hl1]
 rw [List.length_map,q2,q1] at hq;have hnl : ls.length <= 60001 := by
  have := congrArg List.length HLS.out
  rw [List.length_map] at this;have h9 := zer 10 _ s.data.toList (Nat.le_refl _);omega
 have t2 := Lib.toList_data ls[ls.length - 2];have t1 := Lib.toList_data ls[ls.length - 1];rw [<- t2,<- t1] at hq;clear q1 q2 t1 t2;by_cases h3 : ls[ls.length - 2].toList = [101,110,100]
 . by_cases h4 : ls[ls.length - 1].toList = []
   . have h5 : ls[ls.length - 1].toList.isEmpty = true := by rw [h4];rfl
     rw [if_neg (by rw [h3,h4];unfold wEnd;simp;omega)] at hq;have HQ := Lib.hid hq;have HO := Lib.hid hout;clear hq hout;go_upto_region 5 with fail;have hxa : Ext w1 (w1.alloc (.cells #[.pointer none,.bool false] 95)) := (ExtM.refl _).alloc _;have hL0 : LdS (w1.alloc (.cells #[.pointer none,.bool false] 95)) w1.heap.size (w1.alloc (.cells #[.pointer none,.bool false] 95)).heap.size w1.heap.size (some none) := by
      refine ⟨⟨?_,?_,fun q => ?_⟩,Nat.le_refl _,?_⟩
      . go_simp
      . go_simp
      . rw [Go.RowKit.frozen?_alloc_cells];simp [World.frozen?]
      . rw [World.size_alloc];omega
     generalize w1.alloc (.cells #[.pointer none,.bool false] 95) = w2 at *;have hE2 : ErrP w2 := hE.keep (ExtM.trans _ _ _ hx1 hxa) id id;have hm2 : MaxP w2 := hm.ext (ExtM.trans _ _ _ hx1 hxa);have ht2 : TabP w2 := ht.keep ((ExtM.trans _ _ _ hx1 hxa : Ext u w2).block _ ht.lt id);have hl2d : Laid w2 := (hLd.of hx1).of hxa;have hcw : ∀ (i : Nat) (h : i < ls.length),w2.cell? ⟨u.heap.size,i,none⟩ = some (.string ls[i]) := fun i h => (hxa.cell (p := ⟨u.heap.size,i,none⟩) hbl id).trans (hcell i h);have hLb := hL0.inn;have gE := hE.lt;have gm := hm.lt;have gt := ht.lt;generalize hB0 : w1.heap.size = B at *;have hBu : u.heap.size < B := hbl;have HB0 := Lib.hid hB0;clear y1 y2 h3 h4 h5;generalize ls[ls.length - 1] = z1 at *;generalize ls[ls.length - 2] = z2 at *;clear hB0 hcell hl1 hbl d1 d1' d2 d2' hE hm ht hLd;obtain ⟨m,hmm⟩ : ∃ m,m = ls.length - 2 := ⟨_,rfl⟩
     have hml : m + 2 <= ls.length := by omega
     have hml' : m <= 60000 := by omega
     rw [<- hmm] at hl2 HQ;go_wp2_with fail;rw [<- hmm];have HMM := Lib.hid hmm;clear hmm;go_loopg [53] (m + 1) (fun kx s53 wr => ∃ (i : Nat) (r : Option (Option ESt)),s53 = .int .i64 i /\ i <= m /\ m - i <= kx /\ LdS wr B wr.heap.size B r /\ Plan.ExtF B w2 wr /\ zg7 i (((ls.map (·.data.toList)).take m).drop i) r = zg7 0 ((ls.map (·.data.toList)).take m) (some none) /\ ROk i r /\ zpo i r)
     case atStart => exact ⟨0,some none,rfl,by omega,by omega,hL0,ExtF.refl _,rfl,(fun e h => nomatch h),⟨fun _ => rfl,fun h => by omega⟩⟩
     case round =>
      obtain ⟨i,r,rfl,hi,hgo,hS,hF,hR,hok,hrn⟩ := hrel;by_cases him : i < m
      . have hil : i < ls.length := by omega
        have hcr := (hF.rules.1 u.heap.size i (zac (hcw i hil)) hBu).trans (hcw i hil);have hdr : ((ls.map (·.data.toList)).take m).drop i = ls[i].data.toList :: ((ls.map (·.data.toList)).take m).drop (i + 1) := by
         rw [List.drop_eq_getElem_cons (by rw [List.length_take,List.length_map];omega)];simp
        have hls0 : ls[i].data.toList ∈ cut1 10 s.data.toList := by rw [<- HLS.out];exact List.mem_map.2 ⟨_,List.getElem_mem hil,rfl⟩
        have hxs : ls[i].size <= 60000 := by
         have := zh1 10 _ _ hls0
         rw [zbA,zbA] at this;omega
        rw [hdr,zjs] at hR;have HR := Lib.hid hR;have hlB := hS.inn;have hmr : MaxP wr := hm2.keep (hF.block _ (by have := hxa.size;have := hx1.size;omega) (by omega));have hEr : ErrP wr := hE2.keep hF (by omega) (by omega);have hLr : Laid wr := hl2d.ofM hF (by omega);have hlu : u.heap.size < wr.heap.size := by omega
        clear hR hdr hls0;generalize ls[i] = x at *;have hwc := zn1 x wr (by omega) hmr;go_wp2_with (go_at_call 38;refine hwc.mono ?_;rintro e w3 ⟨nm,ws,hnm,hws,rfl,rfl⟩;refine Hid.out ?_);refine Lib.hid ?_;clear hwc;have hxw : Ext wr (wr.alloc (.cells (Value.string nm :: ws.map Value.string).toArray 9)) := (ExtM.refl _).alloc _;have hcw3 := zib wr (nm :: ws);rw [List.map_cons] at hcw3;have hsz3 : (wr.alloc (.cells (Value.string nm :: ws.map Value.string).toArray 9)).heap.size = wr.heap.size + 1 := World.size_alloc _ _;have hwl : ws.length <= 60000 /\ (∀ y ∈ ws,y.size <= 60000) := by
         have h9 := zer 32 _ x.data.toList (Nat.le_refl _);rw [zbA] at h9;constructor
         . have := congrArg List.length hws
           rw [List.length_map,List.length_tail] at this;omega
         . intro y hy;have : y.data.toList ∈ cut1 32 x.data.toList := List.mem_of_mem_tail (by rw [<- hws];exact List.mem_map.2 ⟨y,hy,rfl⟩)
           have := zh1 32 _ _ this
           rw [zbA,zbA] at this;omega
        obtain ⟨hwl,hwy⟩ := hwl;have hS3 := (hS.keep hxw (fun _ _ h => h)).up (show wr.heap.size <= wr.heap.size + 1 by omega);have hF3 : Plan.ExtF B w2 _ := ExtF.trans _ _ _ hF (ExtF.of_ext hxw);have HNM := Lib.hid hnm;have HWS := Lib.hid hws;generalize wr.alloc (.cells (Value.string nm :: ws.map Value.string).toArray 9) = w3 at *;generalize hN : wr.heap.size = N at *;have HN := Lib.hid hN;have hBN : B < N := by omega
        have hm3 : MaxP w3 := hmr.ext hxw;have hE3 : ErrP w3 := hEr.keep hxw id id;have hL3 : Laid w3 := hLr.of hxw;have hN3 : N < w3.heap.size := by omega
        have hnm0 : w3.cell? ⟨N,0,none⟩ = some (.string nm) := hcw3 0 (by simp);have hws0 : ∀ (j : Nat) (h : j < ws.length),w3.cell? ⟨N,1 + j,none⟩ = some (.string ws[j]) := fun j h => by
         have := hcw3 (j + 1) (by simpa using h)
         rw [show 1 + j = j + 1 by omega];exact this
        clear hnm hws hN hS hF hxw hmr hEr hLr hcw3 hcr;go_upto_region 10 with fail;go_cut [61,62,63] (fun s61 s62 s63 wx => ∃ o,s61 = .slice (some ⟨N,o,none⟩) ws.length ws.length /\ s62 = .int .i64 ws.length /\ s63 = .int .i64 0 /\ (0 < ws.length -> o = 1) /\ wx = w3)
        case first =>
         by_cases h0 : ws.length = 0
         . obtain rfl : ws = [] := List.eq_nil_of_length_eq_zero h0;simp only [List.length_nil];go_wp2_with fail;go_meet
           case rel => exact ⟨0,rfl,rfl,rfl,fun h => absurd h (by decide),rfl⟩
         . have h0' : ¬ 1 = ws.length + 1 := by omega
           go_wp2_with fail;go_meet
           case rel => exact ⟨1,rfl,rfl,rfl,fun _ => rfl,rfl⟩
        case rest =>
         obtain ⟨o,rfl,rfl,rfl,ho,rfl⟩ := hcut;generalize wc = wS at *;obtain ⟨W,hW⟩ : ∃ W,W = ws.map (·.data.toList) := ⟨_,rfl⟩
         have hWl : W.length = ws.length := by rw [hW,List.length_map]
         have HW := Lib.hid hW;have HWL := Lib.hid hWl;rw [<- hW] at HWS;clear hW hWl;generalize hC : wS.heap.size = C at *;have hNC : N < C := hN3;have HC := Lib.hid hC;clear hC hN3;have hS3' : LdS wS B C B (midR r (W.take 0)) := by rw [List.take_zero];exact hS3.up (by omega)
         go_wp2_with fail;go_loopg [9,63] (ws.length + 1) (fun kx s9 s63 w4 => ∃ (j : Nat) (n : List Int),s63 = .int .i64 j /\ j <= ws.length /\ ws.length - j <= kx /\ n.length = j /\ IR w4 C s9 n /\ LdS w4 B C B (midR r (W.take j)) /\ ExtM (fun k => k = B \/ C <= k) wS w4 /\ (zbz (W.take j) = some n \/ zbz (W.take j) = none))
         case atStart => exact ⟨0,[],rfl,by omega,by omega,rfl,⟨rfl,.inl ⟨rfl,rfl⟩⟩,hS3',ExtM.refl _,.inl rfl⟩
         case round =>
          clear hS3 hS3';obtain ⟨j,n,rfl,hj,hgk,hnj,hir,hS4,hX,hnum⟩ := hrel;have HNJ := Lib.hid hnj;clear hnj;have hCw : C <= wr.heap.size := by have := hX.size;have := HC.out;omega
          by_cases hjl : j < ws.length
          . skip;have hNl : N < wS.heap.size := by have := HC.out;omega
            have hyc := (hX.cell (p := ⟨N,1 + j,none⟩) hNl (show ¬ (N = B \/ C <= N) by omega)).trans (hws0 j hjl);have ho1 : o = 1 := ho (by omega);have hys := hwy _ (List.getElem_mem hjl)
            have HTK : Hid (W.take (j + 1) = W.take j ++ [ws[j].data.toList]) := Lib.hid (by
             have hjW : j < W.length := by rw [HWL.out];exact hjl
             rw [List.take_succ_eq_append_getElem hjW];congr 2
             have := HW.out;subst this;simp)
            have hEr : ErrP wr := hE3.keep hX (by omega) (by omega);generalize ws[j] = y at *;have hat := zjT y wr (by omega) hEr;have hNw : N < wr.heap.size := by omega
            subst ho1;go_wp2_with (go_at_call 39;refine hat.mono ?_;rintro e w5 ⟨k,ev,rfl,hx5,hA⟩;refine Hid.out ?_);refine Lib.hid ?_;clear hat hyc hEr;have hS5 := hS4.keep hx5 (fun _ _ h => h);have hir5 : IR w5 C u9 n := zag hir hx5 (fun _ _ h => h);obtain ⟨c1,cf⟩ := hS5.bad;have hlB5 := hS5.inn.2;have hsz5 := hx5.size;have hput := LdS.put (w := y.data.toList) hS5;rw [<- HTK.out] at hput;have hX5 : ExtM (fun k => k = B \/ C <= k) wS w5 := ExtM.trans _ _ _ hX (hx5.mono fun _ _ h => h.elim);generalize hbb : (midR r (W.take j)).isNone = bb at *;clear hbb;go_upto_region 14 with fail;go_cut [] (fun wx => LdS wx B C B (midR r (W.take (j + 1))) /\ ExtM (fun k => k = B) w5 wx)
            case first =>
             rcases hA with ⟨hk,rfl⟩ | ⟨hn,t,p,rfl⟩
             . have hpt := hput.1 k hk;cases bb
               all_goals
                go_wp2_with fail;go_meet
                case rel => exact ⟨hpt,ExtM.setCell (M := fun k => k = B) (p := ⟨B,1,none⟩) (ExtM.refl _) (.inr rfl) _⟩
             . have hpt := hput.2 hn;cases bb
               all_goals
                go_wp2_with fail;go_meet
                case rel => exact ⟨hpt,ExtM.setCell (M := fun k => k = B) (p := ⟨B,1,none⟩) (ExtM.refl _) (.inr rfl) _⟩
            case rest =>
             obtain ⟨hS6,hx6⟩ := hcut;have hir6 : IR wc C u9 n := zag hir5 hx6 (fun k hk e => by have h1 := (zaf hir5 k hk).1;have h2 : k = B := e;omega);have hX6 : ExtM (fun k => k = B \/ C <= k) wS wc := ExtM.trans _ _ _ hX5 (hx6.mono fun _ _ h => .inl h);have hCw6 : C <= wc.heap.size := by have := hx6.size;omega
             obtain ⟨v',w',happ,hir',hxr,hloc⟩ := zbe (wc.alloc (.cells #[.int .i64 k] 3)) C wc.heap.size 1 u9 n [k] 81 (zag hir6 ((ExtM.refl _).alloc _ : Ext wc _) (fun _ _ h => h))
              (fun q v hq => (World.cell?_alloc_at _ _ _ q rfl).trans (by simpa using hq)) (by have := HNJ.out;simp only [List.length_cons,List.length_nil];omega) (by rw [World.size_alloc];omega)
             have hxc : ExtM (fun k => C <= k) wc w' := (((ExtM.refl _).alloc _ : Ext wc _).mono (fun _ _ h => h.elim)).fresh' hxr (fun k hk e => (zaf hir6 k e).1);have hS' := hS6.keep hxc (fun k hk e => by omega);have hX' : ExtM (fun k => k = B \/ C <= k) wS w' := ExtM.trans _ _ _ hX6 (hxc.mono fun _ _ h => .inr h);obtain ⟨pv,cv,hpv,-⟩ := zaa hir6;have HALL := Lib.hid (⟨hir',hS',hX'⟩ : _ /\ _ /\ _);subst hpv;have hnn : zbz (W.take (j + 1)) = some (n ++ [k]) \/ zbz (W.take (j + 1)) = none := by
              rw [HTK.out,zd1];rcases hnum with h | h
              . rw [h];rcases hA with ⟨hk,-⟩ | ⟨hn,-⟩
                . rw [hk];exact .inl rfl
                . cases hh : Lib.atoiAll y.data.toList with
                  | ok q => exact absurd hh (hn q)
                  | _ => exact .inr rfl
              . rw [h];exact .inr rfl
             clear hir' hS' hX' hxr hloc hxc hS6 hir6 hX6 hput c1 cf hS5 hir5 hX5 hA hx5 hx6;go_wp2_with (at_builtin;refine wpList_append_run happ rfl rfl _ _ rfl rfl rfl ?_;clear happ);go_roundg (ws.length - (j + 1))
             case measure => omega
             case rel =>
              obtain ⟨q1,q2,q3⟩ := HALL.out;exact ⟨j + 1,n ++ [k],by go_num,by omega,Nat.le_refl _,by simp [HNJ.out],q1,q2,q3,hnn⟩
          . obtain rfl : j = ws.length := by omega
            have hz : decide (ws.length < ws.length) = false := by simp
            have hz2 : decide ((ws.length : Int) < ws.length) = false := by simp
            rw [List.take_of_length_le (by rw [HWL.out];exact Nat.le_refl _)] at hS4 hnum;obtain ⟨c1,cf⟩ := hS4.bad;have hlB4 := hS4.inn.2;have hFw : Plan.ExtF B w2 wr := ExtF.trans _ _ _ hF3 (hX.mono fun k _ e => by show B <= k;omega);rcases zjx (i := i) (x := x.data.toList) (r := r) HNM.out HWS.out with ⟨hmid,hstep⟩ | ⟨eo,n',hr,hmid,hn',hstep⟩
            . rw [hmid] at c1 hS4;rw [Option.isNone_none] at c1;have HE := Lib.hid (⟨hS4,hFw,hstep⟩ : _ /\ _ /\ _);clear hS4 hFw hX hir hnum;go_wp2_with fail;go_roundg (m - (i + 1))
              case measure => omega
              case rel =>
               obtain ⟨q1,q2,q3⟩ := HE.out;refine ⟨i + 1,none,by go_num,by omega,Nat.le_refl _,q1.up hCw,q2,?_,(fun e h => nomatch h),?_⟩
               . have := HR.out;rwa [q3] at this
               . have := @zet i x.data.toList r;rwa [q3] at this
            . rw [hmid] at c1 hS4;rw [Option.isNone_some] at c1;obtain rfl : n = n' := by
               rcases hnum with h | h
               . exact Option.some.inj (h.symm.trans hn')
               . rw [h] at hn';cases hn'
              obtain ⟨a,cap,rfl,hni⟩ := hir.nums (b := B) (by omega);have hga : ∀ g,a = some ⟨g,0,none⟩ -> C <= g := fun g hg => (zaf hir g (by rw [hg];rfl)).1;have hNl : N < wS.heap.size := by have := HC.out;omega
              have hnm1 := (hX.cell (p := ⟨N,0,none⟩) hNl (show ¬ (N = B \/ C <= N) by omega)).trans hnm0;have hLr : Laid wr := hL3.ofM hX (by omega);have hline : Calls Tryz.prog 40 #[.pointer (some ⟨B,0,none⟩),.int .i64 i,.string nm,.slice a n.length cap] wr fun q u' => q = .returned (.tuple #[]) /\ LdS u' B u'.heap.size B (zc5 i x.data.toList r) /\ Plan.ExtF B wr u' := by
               rw [hstep];cases hle : zb3 i nm.data.toList n eo with
               | some e' => exact zpl hS4 i (by omega) nm n a cap hni hga (fun z hz => (hok z (by rw [hr,hz])).2) (fun h => by have := hrn.1 h;rw [hr] at this;exact Option.some.inj this) hle
               | none =>
                 have hbad : zfM s.data.toList = none := by
                  have h1 := HR.out;rw [hstep,hle] at h1;have h2 : zg7 0 ((ls.map (·.data.toList)).take m) (some none) = none := h1.symm;rw [HQ.out,h2]
                 exact hB hbad wr B C B eo i nm n a cap hS4 (by omega) hni hga (fun z hz => hok z (by rw [hr,hz])) (zew _ hn') (fun h => by have := hrn.1 h;rw [hr] at this;exact Option.some.inj this) (fun h e => hrn.2 h (by rw [hr,e])) hle hLr
              have hNw : N < wr.heap.size := by omega
              clear hir hni hnum hX hn';go_wp2_with (go_at_call 40;refine hline.mono ?_;rintro q w9 ⟨rfl,hS9,hF9⟩;refine Hid.out ?_);refine Lib.hid ?_;have HE := Lib.hid (⟨hS9,ExtF.trans _ _ _ hFw hF9⟩ : _ /\ Plan.ExtF B w2 w9);clear hS9 hF9 hline hS4 hFw;go_wp2_with fail;go_roundg (m - (i + 1))
              case measure => omega
              case rel =>
               obtain ⟨q1,q2⟩ := HE.out;exact ⟨i + 1,_,by go_num,by omega,Nat.le_refl _,q1,q2,HR.out,zkr hok (by omega),zet⟩
      . obtain rfl : i = m := by omega
        have hz : decide (i < i) = false := by simp
        have hz2 : decide ((i : Int) < i) = false := by simp
        have hdr : ((ls.map (·.data.toList)).take i).drop i = [] := List.drop_eq_nil_of_le (by rw [List.length_take,List.length_map];omega);have hR0 : ∀ r,zg7 i [] r = r := fun r => by cases r <;> rfl
        rw [hdr,hR0] at hR;have hq := HQ.out;rw [<- hR] at hq;have h3m : 3 <= i := by have := HMM.out;omega
        have hXF : Plan.ExtF B u wr := ExtF.trans _ _ _ (ExtF.of_ext (ExtM.trans _ _ _ hx1 hxa)) hF;have htr : TabP wr := ht2.keep (hF.block _ (by have := hxa.size;have := hx1.size;omega) (by omega));have hBl := hS.inn;clear hdr hR0 hR hgo hF;cases r with
        | none =>
          obtain ⟨c1,cf⟩ := hS.bad;rw [Option.isNone_none] at c1;have hfin : LoadV u s.data.toList (.returned (.tuple #[.pointer none,errV 3])) wr := by unfold LoadV;rw [hq];exact ⟨hXF.ext (Nat.le_of_lt hBu),rfl⟩
          clear hq hS hXF;go_wp2_with fail;go_ret2;exact hfin
        | some eo =>
          cases eo with
          | none => exact absurd rfl (hrn.2 (by omega))
          | some e =>
            obtain ⟨E,Bs,hLd,hat,hnB,hBL,hBs⟩ := hS;obtain ⟨hsok,-⟩ := hok e rfl;have hsave := zk9 hat e rfl hsok htr;have c0 := hLd.c0;have c1 := hLd.c1;have lL := hLd.lt;have HAT := Lib.hid (⟨hLd,hat,hBs⟩ : _ /\ _ /\ _);clear hLd hat hnB hBs hok hrn;by_cases hbig : 60000 < (savedT e).length
            . rw [show zeX e = .returned (.tuple #[.string ByteArray.empty,errV 4]) from if_pos hbig] at hsave;have hne : savedT e ≠ s.data.toList := fun h => by rw [h,zbA] at hbig;omega
              simp only [if_neg hne] at hq;go_wp2_with (go_at_call 16;refine hsave.mono ?_;rintro e' w9 ⟨rfl,hx9⟩;refine Hid.out ?_);refine Lib.hid ?_;have hfin : LoadV u s.data.toList (.returned (.tuple #[.pointer none,errV 3])) w9 := by unfold LoadV;rw [hq];exact ⟨ExtM.trans _ _ _ (hXF.ext (Nat.le_of_lt hBu)) hx9,rfl⟩
              clear hq hXF hsave;have er4 : errV 4 = .iface 24 (.int .i64 4) := rfl;rw [er4];go_wp2_with fail;go_ret2;exact hfin
            . rw [show zeX e = .returned (.tuple #[.string ⟨(savedT e).toArray⟩,.nilIface]) from if_neg hbig] at hsave;have hT1 : (ByteArray.mk (savedT e).toArray).toList = savedT e := by rw [Lib.toList_data]
              have hT2 := Lib.toList_data s;by_cases hTs : savedT e = s.data.toList
              . have hbs : ByteArray.mk (savedT e).toArray = s := by
                 obtain ⟨⟨l⟩⟩ := s;simp only at hTs;rw [hTs]
                rw [hbs] at hsave;simp only [if_pos hTs] at hq;have hfin : ∀ w9,Ext wr w9 -> LoadV u s.data.toList (.returned (.tuple #[.pointer (some ⟨E,0,none⟩),.nilIface])) w9 := fun w9 hx9 => by
                 obtain ⟨-,hat,hBs⟩ := HAT.out;unfold LoadV;rw [hq];exact ⟨ExtM.trans _ _ _ (hXF.ext (Nat.le_of_lt hBu)) hx9,E,Bs,rfl,hat.ext hx9,fun k hk => Nat.le_trans (Nat.le_of_lt hBu) (hBs k hk).1⟩
                have HFN := Lib.hid hfin;clear hfin hq hXF hTs hbs hT1 hT2;go_wp2_with (go_at_call 16;refine hsave.mono ?_;rintro e' w9 ⟨rfl,hx9⟩;refine Hid.out ?_);refine Lib.hid ?_;have k0 := (hx9.cell (p := ⟨B,0,none⟩) lL id).trans c0;have lL9 := zac k0;have hfin := HFN.out w9 hx9;clear hsave c0 c1 lL hx9;go_wp2_with fail;go_ret2;exact hfin
              . have hne1 : (savedT e == s.toList) = false := by rw [hT2];exact beq_false_of_ne hTs
                simp only [if_neg hTs] at hq;have hfin : ∀ w9,Ext wr w9 -> LoadV u s.data.toList (.returned (.tuple #[.pointer none,errV 3])) w9 := fun w9 hx9 => by
                 unfold LoadV;rw [hq];exact ⟨ExtM.trans _ _ _ (hXF.ext (Nat.le_of_lt hBu)) hx9,rfl⟩
                clear hq hXF hTs hT1 hT2;generalize savedT e = T at *;go_wp2_with (go_at_call 16;refine hsave.mono ?_;rintro e' w9 ⟨rfl,hx9⟩;refine Hid.out ?_);refine Lib.hid ?_;replace hfin := hfin w9 hx9;clear hsave c0 c1 lL hx9;go_wp2_with fail;go_ret2;exact hfin
   . have h5 : ls[ls.length - 1].toList.isEmpty = false := by simpa using h4
     rw [if_pos (.inr (.inr (.inr (by simpa using h4))))] at hq;have hfin := hout hq;clear hout hq;go_wp2_with fail;go_ret2;exact hfin
 . rw [if_pos (.inr (.inr (.inl (by unfold wEnd;simpa using h3))))] at hq;have hfin := hout hq;clear hout hq;go_wp2_with fail;go_ret2;exact hfin
theorem zm8 {u : World} {E : Nat} {Bs : Nat -> Prop} {lo hi md : Int} {st : JSt} {V W : List Out} {f0 f1 : Int} (h : EAt u E Bs lo hi md st V W f0 f1) (hp : zay lo hi) (t : Int) (hl : st.b.length < 1000000) :
 Calls Tryz.prog 13 #[.pointer (some ⟨E,0,none⟩),.int .i64 0,.int .i64 t] u fun e u' => e = .returned (errV (moveI 0 t st.x st.y)) /\ EUp u u' E Bs lo hi md (if moveI 0 t st.x st.y = 0 then zbr lo hi 0 t st else st) V W f0 f1 := by
 obtain ⟨P,c3,hm⟩ := ziC h hp t hl;have lE := h.lt _ h.mine;have hm0 := hm u (ExtM.refl _);clear hm;generalize (if moveI 0 t st.x st.y = 0 then zbr lo hi 0 t st else st) = st' at *;go_enter Tryz.func13,Tryz.ntmps13;go_wp2_with (go_at_call 49;refine hm0.mono ?_;rintro e w1 ⟨rfl,-,hu⟩;refine Hid.out ?_);refine Lib.hid ?_;clear hm0;go_wp2_with fail;go_ret;exact ⟨rfl,hu⟩
theorem zlH {u : World} {E : Nat} {Bs : Nat -> Prop} {lo hi md : Int} {st : JSt} {V W : List Out} {f0 f1 : Int} (h : EAt u E Bs lo hi md st V W f0 f1) (hp : zay lo hi) (t : Int) (hl : st.a.length < 1000000) :
 Calls Tryz.prog 13 #[.pointer (some ⟨E,0,none⟩),.int .i64 1,.int .i64 t] u fun e u' => e = .returned (errV (moveI 1 t st.x st.y)) /\ EUp u u' E Bs lo hi md (if moveI 1 t st.x st.y = 0 then zbr lo hi 1 t st else st) V W f0 f1 := by
 obtain ⟨P,c3,hm⟩ := ziB h hp t hl;have lE := h.lt _ h.mine;have hm0 := hm u (ExtM.refl _);clear hm;generalize (if moveI 1 t st.x st.y = 0 then zbr lo hi 1 t st else st) = st' at *;go_enter Tryz.func13,Tryz.ntmps13;go_wp2_with (go_at_call 49;refine hm0.mono ?_;rintro e w1 ⟨rfl,-,hu⟩;refine Hid.out ?_);refine Lib.hid ?_;clear hm0;go_wp2_with fail;go_ret;exact ⟨rfl,hu⟩
section
variable {u u' : World} {T F E : Nat} {Bs : Nat -> Prop} {v0 v1 : Value} {lo hi md x0 x1 : Int} {s : TSt} {m : List (Out × Value)} {W : List Out}
end
theorem zjK {lo hi md : Int} {L R : List Row} (hL : ∀ r ∈ L,za0 r) (hR : ∀ r ∈ R,za0 r) : ∀ x ∈ zcb lo hi md 0 L R,zhl x := by
 intro x hx;unfold zcb pairsL lonesL at hx;simp only [List.mem_append,List.mem_flatMap,List.mem_map,List.mem_filter] at hx;rcases hx with ⟨l,hl,r,⟨hr,hm⟩,rfl⟩ | hx | hx
 . have hk : l.k = r.k := by
    unfold mtB mtL at hm;simp only [if_true,Bool.and_eq_true,decide_eq_true_eq] at hm
    first | exact hm.1.1 | exact hm.1
   exact .inr ⟨l,r,hL l hl,hR r hr,hk,rfl⟩
 . split at hx
   . obtain ⟨r,hr,rfl⟩ := List.mem_map.1 hx;exact .inl ⟨0,r,by decide,hL r (List.mem_filter.1 hr).1,rfl⟩
   . cases hx
 . split at hx
   . obtain ⟨r,hr,rfl⟩ := List.mem_map.1 hx;exact .inl ⟨1,r,by decide,hR r (List.mem_filter.1 hr).1,rfl⟩
   . cases hx
theorem EOk.sok {e : ESt} (h : EOk e) (hV : e.V.length <= 900000) : SOk e := by
 have hp : (-1048576 <= e.lo /\ e.lo <= 1048576) /\ (-1048576 <= e.hi /\ e.hi <= 1048576) /\ 0 <= e.md /\ e.md <= 3 := by
  have hp := h.plan;unfold checkI at hp;by_cases h1 : ¬ (-1048576 <= e.lo /\ e.lo <= 1048576) \/ ¬ (-1048576 <= e.hi /\ e.hi <= 1048576)
  . rw [if_pos h1] at hp;cases hp
  . rw [if_neg h1] at hp;by_cases h2 : e.hi < e.lo
    . rw [if_pos h2] at hp;cases hp
    . rw [if_neg h2] at hp;by_cases h3 : ¬ (0 <= e.md /\ e.md <= 3)
      . rw [if_pos h3] at hp;cases hp
      . omega
 have := h.f0;have := h.f1;have := h.late;have := h.i0;have := h.i1;have := h.il;have := h.mx;have := h.my
 refine ⟨fun k hk => ?_,h.ga,h.gb,h.la,h.lb,fun x hx => zir (h.v x hx),hV⟩;simp only [List.mem_cons,List.not_mem_nil,or_false] at hk;omega
structure Lib4 (w : World) : Prop where
 l : Laid w
 m : MaxP w
 e : ErrP w
 t : TabP w
theorem Lib4.ext {w w' : World} (h : Lib4 w) (hx : Ext w w') : Lib4 w' := ⟨h.l.of hx,h.m.ext hx,h.e.keep hx id id,h.t.keep (hx.block _ h.t.lt id)⟩
structure StE where
 what : Int
 side : Int
 n : Int
 key : Int
 time : Int
 value : Int
def StE.row (x : StE) : Row := znA x.key x.time x.value
def StE.sd (x : StE) : Nat := zmW x.side 2
def StE.feed (x : StE) : StE := { x with what := 0 }
theorem zh3 (lo hi : Int) (s : Nat) (r : Row) (st : JSt) (hs : s = 0 \/ s = 1) : (zam lo hi s r st).x = st.x /\ (zam lo hi s r st).y = st.y := by
 unfold zam;simp only;rcases hs with rfl | rfl
 . split
   . exact ⟨rfl,rfl⟩
   . split
     . split <;> exact ⟨rfl,rfl⟩
     . exact ⟨rfl,rfl⟩
 . split
   . exact ⟨rfl,rfl⟩
   . split
     . split <;> exact ⟨rfl,rfl⟩
     . exact ⟨rfl,rfl⟩
structure POk (lo hi md : Int) (st : JSt) (V : List Out) (f0 f1 : Int) (n : Nat) : Prop where
 inv : ∃ L R,EInv lo hi md st L R V /\ L.length <= n /\ R.length <= n /\ (∀ r ∈ L,za0 r) /\ ∀ r ∈ R,za0 r
 mx : -1099511627777 <= st.x /\ st.x <= 1099511627776
 my : -1099511627777 <= st.y /\ st.y <= 1099511627776
 f0 : 0 <= f0 /\ f0 <= n
 f1 : 0 <= f1 /\ f1 <= n
 late : 0 <= st.late /\ st.late <= n
theorem POk.new (lo hi md : Int) : POk lo hi md ⟨[],[],-1099511627777,-1099511627777,0⟩ [] 0 0 0 :=
 ⟨⟨[],[],EInv.new lo hi md _ _ _,Nat.le_refl _,Nat.le_refl _,(fun _ h => nomatch h),(fun _ h => nomatch h)⟩,by decide,by decide,by decide,by decide,by decide⟩
section
variable {lo hi md : Int} {st : JSt} {V : List Out} {f0 f1 : Int} {n : Nat}
theorem POk.more (h : POk lo hi md st V f0 f1 n) : POk lo hi md st V f0 f1 (n + 1) := by
 obtain ⟨L,R,h1,h2,h3,h4⟩ := h.inv
 have := h.f0;have := h.f1;have := h.late
 exact ⟨⟨L,R,h1,by omega,by omega,h4⟩,h.mx,h.my,by push_cast;omega,by push_cast;omega,by push_cast;omega⟩
theorem POk.perm (h : POk lo hi md st V f0 f1 n) {V' : List Out} (hp : V'.Perm V) : POk lo hi md st V' f0 f1 n := by
 obtain ⟨L,R,h1,h2⟩ := h.inv;exact ⟨⟨L,R,⟨h1.a,h1.b,hp.trans h1.v⟩,h2⟩,h.mx,h.my,h.f0,h.f1,h.late⟩
theorem POk.la (h : POk lo hi md st V f0 f1 n) : st.a.length <= n := by
 obtain ⟨L,R,h1,h2,h3,h4⟩ := h.inv;exact Nat.le_trans h1.a.len h2
theorem POk.lb (h : POk lo hi md st V f0 f1 n) : st.b.length <= n := by
 obtain ⟨L,R,h1,h2,h3,h4⟩ := h.inv;exact Nat.le_trans h1.b.len h3
theorem POk.lV (h : POk lo hi md st V f0 f1 n) : V.length <= n * n + 2 * n := by
 obtain ⟨L,R,h0,h4,h5,h6⟩ := h.inv;rw [h0.v.length_eq];unfold zcb;rw [List.length_append,List.length_append];have h1 := zgY lo hi 0 R L;have h2 := zha lo hi md 0 L R;have h3 := zha lo hi md (1 - 0) R L;have h6 : L.length * R.length <= n * n := Nat.mul_le_mul h4 h5;omega
theorem POk.lV9 (h : POk lo hi md st V f0 f1 n) (hn : n < 200) : V.length <= 900000 := by
 have h1 := h.lV;have : n * n <= 200 * 200 := Nat.mul_le_mul (by omega) (by omega);omega
theorem POk.outs (h : POk lo hi md st V f0 f1 n) : ∀ x ∈ V,zhl x := by
 obtain ⟨L,R,h0,-,-,h4,h5⟩ := h.inv;exact fun x hx => zjK h4 h5 x (h0.v.mem_iff.1 hx)
theorem zeh (lo hi : Int) (s : Nat) (r : Row) (x y : Int) (own : Nat) : feedE lo hi s r x y own = 0 \/ feedE lo hi s r x y own = 10 \/ feedE lo hi s r x y own = 1 \/ feedE lo hi s r x y own = 12 := by
 unfold feedE;generalize (if s = 0 then x else y) = p;generalize (if s = 0 then y else x) = q;by_cases h1 : za3 r.k r.t r.v = false
 . rw [if_pos h1];exact .inr (.inr (.inl rfl))
 rw [if_neg h1];by_cases h2 : r.t <= p
 . rw [if_pos h2];exact .inr (.inl rfl)
 rw [if_neg h2];by_cases h3 : tilI lo hi s r.t > q /\ 300 <= own
 . rw [if_pos h3];exact .inr (.inr (.inr rfl))
 . rw [if_neg h3];exact .inl rfl
theorem zeY {lo hi : Int} {s : Nat} {r : Row} {x y : Int} {own : Nat} (h : feedE lo hi s r x y own = 0) : za0 r := by
 unfold feedE at h;split at h
 . cases h
 . rename_i hg;unfold za0;simpa using hg
theorem zeu (lo hi : Int) (s : Nat) (hs : s < 2) (r : Row) (st : JSt) : (zam lo hi s r st).x = st.x /\ (zam lo hi s r st).y = st.y := zh3 lo hi s r st (by omega)
theorem POk.feed0 (h : POk lo hi md st V f0 f1 n) (hn : n < 1000000) (r : Row) : POk lo hi md (zam lo hi 0 r st) (zaH V (zaj lo hi md 0 r st)) (fedI (feedE lo hi 0 r st.x st.y (st.of 0).length) f0) f1 (n + 1) /\ zb1 V (zaj lo hi md 0 r st) := by
 obtain ⟨L,R,h1,h2,h3,h4,h5⟩ := h.inv;have q0 := h.f0;have q1 := h.f1;have q2 := h.late;obtain ⟨ex,ey⟩ := zeu lo hi 0 (by decide) r st;rcases zeh lo hi 0 r st.x st.y (st.of 0).length with hE | hE | hE | hE
 . obtain ⟨hv,hi'⟩ := h1.feed0 r hE (by omega);have hg := zeY hE;have ef : fedI 0 f0 = f0 + 1 := by unfold fedI wrap64;rw [if_pos (.inl rfl)];omega
   have el : (zam lo hi 0 r st).late = st.late := by
    unfold zam;simp only [hE];rw [if_neg (by decide),if_pos trivial];split <;> rfl
   refine ⟨⟨⟨r :: L,R,hi',by (try simp only [List.length_cons]) <;> omega,by (try simp only [List.length_cons]) <;> omega,(fun q hq => (List.mem_cons.1 hq).elim (fun e => e ▸ hg) (h4 q)),h5⟩,by rw [ex];exact h.mx,by rw [ey];exact h.my,?_,?_,by rw [el];push_cast;omega⟩,hv⟩
   . (try simp only [hE,ef]);push_cast;omega
   . (try simp only [hE,ef]);push_cast;omega
 . have eC : zaj lo hi md 0 r st = [] := by unfold zaj;rw [if_neg (by rw [hE];decide)]
   have w3 : wrap64 (st.late + 1) = st.late + 1 := by unfold wrap64;omega
   have eJ : zam lo hi 0 r st = { st with late := st.late + 1 } := by unfold zam;simp only [hE];rw [if_pos trivial,w3]
   have ef : fedI 10 f0 = f0 + 1 := by unfold fedI wrap64;rw [if_pos (.inr rfl)];omega
   rw [eC,eJ,hE,ef];exact ⟨⟨⟨L,R,h1.late _,by omega,by omega,h4,h5⟩,h.mx,h.my,by push_cast;omega,by push_cast;omega,by show 0 <= st.late + 1 /\ st.late + 1 <= _;push_cast;omega⟩,trivial⟩
 . have eC : zaj lo hi md 0 r st = [] := by unfold zaj;rw [if_neg (by rw [hE];decide)]
   have eJ : zam lo hi 0 r st = st := by unfold zam;simp only [hE];rw [if_neg (by decide),if_neg (by decide)]
   have ef : fedI 1 f0 = f0 := by unfold fedI;rw [if_neg (by decide)]
   rw [eC,eJ,hE,ef];exact ⟨h.more,trivial⟩
 . have eC : zaj lo hi md 0 r st = [] := by unfold zaj;rw [if_neg (by rw [hE];decide)]
   have eJ : zam lo hi 0 r st = st := by unfold zam;simp only [hE];rw [if_neg (by decide),if_neg (by decide)]
   have ef : fedI 12 f0 = f0 := by unfold fedI;rw [if_neg (by decide)]
   rw [eC,eJ,hE,ef];exact ⟨h.more,trivial⟩
theorem POk.feed1 (h : POk lo hi md st V f0 f1 n) (hn : n < 1000000) (r : Row) : POk lo hi md (zam lo hi 1 r st) (zaH V (zaj lo hi md 1 r st)) f0 (fedI (feedE lo hi 1 r st.x st.y (st.of 1).length) f1) (n + 1) /\ zb1 V (zaj lo hi md 1 r st) := by
 obtain ⟨L,R,h1,h2,h3,h4,h5⟩ := h.inv;have q0 := h.f0;have q1 := h.f1;have q2 := h.late;obtain ⟨ex,ey⟩ := zeu lo hi 1 (by decide) r st;rcases zeh lo hi 1 r st.x st.y (st.of 1).length with hE | hE | hE | hE
 . obtain ⟨hv,hi'⟩ := h1.feed1 r hE (by omega);have hg := zeY hE;have ef : fedI 0 f1 = f1 + 1 := by unfold fedI wrap64;rw [if_pos (.inl rfl)];omega
   have el : (zam lo hi 1 r st).late = st.late := by
    unfold zam;simp only [hE];rw [if_neg (by decide),if_pos trivial];split <;> rfl
   refine ⟨⟨⟨L,r :: R,hi',by (try simp only [List.length_cons]) <;> omega,by (try simp only [List.length_cons]) <;> omega,h4,fun q hq => (List.mem_cons.1 hq).elim (fun e => e ▸ hg) (h5 q)⟩,by rw [ex];exact h.mx,by rw [ey];exact h.my,?_,?_,by rw [el];push_cast;omega⟩,hv⟩
   . (try simp only [hE,ef]);push_cast;omega
   . (try simp only [hE,ef]);push_cast;omega
 . have eC : zaj lo hi md 1 r st = [] := by unfold zaj;rw [if_neg (by rw [hE];decide)]
   have w3 : wrap64 (st.late + 1) = st.late + 1 := by unfold wrap64;omega
   have eJ : zam lo hi 1 r st = { st with late := st.late + 1 } := by unfold zam;simp only [hE];rw [if_pos trivial,w3]
   have ef : fedI 10 f1 = f1 + 1 := by unfold fedI wrap64;rw [if_pos (.inr rfl)];omega
   rw [eC,eJ,hE,ef];exact ⟨⟨⟨L,R,h1.late _,by omega,by omega,h4,h5⟩,h.mx,h.my,by push_cast;omega,by push_cast;omega,by show 0 <= st.late + 1 /\ st.late + 1 <= _;push_cast;omega⟩,trivial⟩
 . have eC : zaj lo hi md 1 r st = [] := by unfold zaj;rw [if_neg (by rw [hE];decide)]
   have eJ : zam lo hi 1 r st = st := by unfold zam;simp only [hE];rw [if_neg (by decide),if_neg (by decide)]
   have ef : fedI 1 f1 = f1 := by unfold fedI;rw [if_neg (by decide)]
   rw [eC,eJ,hE,ef];exact ⟨h.more,trivial⟩
 . have eC : zaj lo hi md 1 r st = [] := by unfold zaj;rw [if_neg (by rw [hE];decide)]
   have eJ : zam lo hi 1 r st = st := by unfold zam;simp only [hE];rw [if_neg (by decide),if_neg (by decide)]
   have ef : fedI 12 f1 = f1 := by unfold fedI;rw [if_neg (by decide)]
   rw [eC,eJ,hE,ef];exact ⟨h.more,trivial⟩
theorem POk.move (h : POk lo hi md st V f0 f1 n) (s : Nat) (hs : s < 2) (t : Int) (hm : moveI s t st.x st.y = 0) : POk lo hi md (zbr lo hi s t st) V f0 f1 (n + 1) := by
 have hr := zcP hm;obtain ⟨L,R,h1,h2⟩ := h.more.inv;have ht : (if s = 0 then st.x else st.y) <= t := by
  have hn : ¬ t < ofI s st.x st.y := fun hh => by
   unfold moveI at hm;rw [if_neg (by omega),if_neg (by omega),if_pos hh] at hm;cases hm
  have hs' : s = 0 \/ s = 1 := by omega
  rcases hs' with rfl | rfl
  . have e : ofI ((0 : Nat) : Int) st.x st.y = st.x := rfl;rw [e] at hn;rw [if_pos rfl];omega
  . have e : ofI ((1 : Nat) : Int) st.x st.y = st.y := rfl;rw [e] at hn;rw [if_neg (by decide)];omega
 have hi' := h1.move s t ht;have hm1 := h.more;unfold zbr at hi' ⊢;split
 . rename_i h0;rw [if_pos h0] at hi';exact ⟨⟨L,R,hi',h2⟩,by show _ <= t /\ t <= _;omega,h.my,hm1.f0,hm1.f1,hm1.late⟩
 . rename_i h0;rw [if_neg h0] at hi';exact ⟨⟨L,R,hi',h2⟩,h.mx,by show _ <= t /\ t <= _;omega,hm1.f0,hm1.f1,hm1.late⟩
theorem POk.eok {u : World} {E : Nat} {Bs : Nat -> Prop} (ok : POk lo hi md st V f0 f1 n) (hn : n < 300) (hck : checkI lo hi md = 0) (h : EAt u E Bs lo hi md st V V f0 f1) : EOk ⟨lo,hi,md,st,V,f0,f1⟩ := by
 obtain ⟨P,M,v0,v1,D,DG,ents,hI,-⟩ := h;obtain ⟨L,R,h1,h2,h3,h4,h5⟩ := ok.inv;have q0 := ok.f0;have q1 := ok.f1;have q2 := ok.late;have hla := ok.la;have hlb := ok.lb;refine ⟨hck,q0.1,q1.1,q2.1,by show f0 <= _;omega,by show f1 <= _;omega,by show st.late <= _;omega,ok.mx,ok.my,?_,?_,hI.join.s0.srt,hI.join.s1.srt,by show st.a.length <= _;omega,by show st.b.length <= _;omega,ok.outs⟩
 . intro g hg;have hg : g ∈ st.a := hg;obtain ⟨D,hp,-⟩ := h1.a.all;have hm := h1.a.met g hg;have hc : R.countP (mtB lo hi 0 g.r) <= R.length := List.countP_le_length;exact ⟨h4 _ (hp.mem_iff.2 (List.mem_append_left _ (List.mem_map.2 ⟨g,hg,rfl⟩))),by omega,by omega⟩
 . intro g hg;have hg : g ∈ st.b := hg;obtain ⟨D,hp,-⟩ := h1.b.all;have hm := h1.b.met g hg;have hc : L.countP (mtB lo hi 1 g.r) <= L.length := List.countP_le_length;exact ⟨h5 _ (hp.mem_iff.2 (List.mem_append_left _ (List.mem_map.2 ⟨g,hg,rfl⟩))),by omega,by omega⟩
end
section
variable {u : World} {E : Nat} {Bs : Nat -> Prop} {lo hi md : Int} {st : JSt} {V W : List Out} {f0 f1 : Int}
theorem EAt.jn (h : EAt u E Bs lo hi md st V W f0 f1) : ∃ P M v0 v1,u.cell? ⟨E,3,none⟩ = some (.pointer (some ⟨P,0,none⟩)) /\ E < u.heap.size /\ JIs u P M v0 v1 lo hi md st := by
 obtain ⟨P,M,v0,v1,D,DG,ents,hI,-⟩ := h;exact ⟨P,M,v0,v1,hI.c3,hI.lt,hI.join⟩
theorem zow (h : EAt u E Bs lo hi md st V W f0 f1) : Calls Tryz.prog 23 #[.pointer (some ⟨E,0,none⟩)] u fun e u' => e = .returned (.int .i64 st.late) /\ Ext u u' := by
 obtain ⟨P,M,v0,v1,c3,lE,hj⟩ := h.jn;have hl := zkI hj;clear hj;go_enter Tryz.func23,Tryz.ntmps23;go_wp2_with (go_at_call 58;refine hl.mono ?_;rintro e w1 ⟨rfl,rfl⟩);go_ret;exact ⟨rfl,ExtM.refl _⟩
theorem znt (s : Int) (h : EAt u E Bs lo hi md st V W f0 f1) (x : Int) (hx : ofI s st.x st.y = x) : Calls Tryz.prog 18 #[.pointer (some ⟨E,0,none⟩),.int .i64 s] u fun e u' => e = .returned (.int .i64 x) /\ Ext u u' := by
 obtain ⟨P,M,v0,v1,c3,lE,hj⟩ := h.jn;have hl := zhI s hj;rw [hx] at hl;clear hj hx;go_enter Tryz.func18,Tryz.ntmps18;go_wp2_with (go_at_call 59;refine hl.mono ?_;rintro e w1 ⟨rfl,rfl⟩);go_ret;exact ⟨rfl,ExtM.refl _⟩
theorem zni (s : Nat) (hs : s < 2) (h : EAt u E Bs lo hi md st V W f0 f1) (q : Nat) (hq : (st.of s).length = q) : Calls Tryz.prog 17 #[.pointer (some ⟨E,0,none⟩),.int .i64 (s : Nat)] u fun e u' => e = .returned (.int .i64 (q : Nat)) /\ Ext u u' := by
 obtain ⟨P,M,v0,v1,c3,lE,hj⟩ := h.jn;have hl := zoa s hs hj;rw [hq] at hl;clear hj hq;go_enter Tryz.func17,Tryz.ntmps17;go_wp2_with (go_at_call 65;refine hl.mono ?_;rintro e w1 ⟨rfl,rfl⟩);go_ret;exact ⟨rfl,ExtM.refl _⟩
theorem znv (s : Nat) (hs : s < 2) (h : EAt u E Bs lo hi md st V W f0 f1) (hl : (st.of s).length < 1000000) : Calls Tryz.prog 21 #[.pointer (some ⟨E,0,none⟩),.int .i64 (s : Nat)] u fun e u' => ∃ vo,e = .returned vo /\ MRow u' u.heap.size vo (st.of s) /\ Ext u u' := by
 obtain ⟨P,M,v0,v1,c3,lE,hj⟩ := h.jn;have hl := zl7 s hs hj hl;clear hj;generalize st.of s = q at *;go_enter Tryz.func21,Tryz.ntmps21;go_wp2_with (go_at_call 60;refine hl.mono ?_;rintro e w1 ⟨vo,rfl,hm,hx⟩);go_ret;exact ⟨vo,rfl,hm,hx⟩
theorem zif (h : EAt u E Bs lo hi md st V W f0 f1) (hl : W.length < 1000000) : ∃ ents,za7 ents W /\ (ents.map (·.key)).Nodup /\ Calls Tryz.prog 28 #[.pointer (some ⟨E,0,none⟩)] u (zgd u (allG ents)) := by
 obtain ⟨P,M,v0,v1,D,DG,ents,h,-⟩ := h;refine ⟨ents,h.rep,h.grp.nodup,?_⟩;have c0 := h.lt;have hv := znC E 6 DG ents W u h.grp h.rep hl;go_enter Tryz.func28,Tryz.ntmps28;go_wp2_with (go_at_call 70;refine hv.mono ?_;rintro e w1 ⟨p,cap,rfl,hx,ho⟩);go_ret;exact ⟨p,cap,rfl,hx,ho⟩
theorem zoZ (h : EAt u E Bs lo hi md st V W f0 f1) : Calls Tryz.prog 19 #[.pointer (some ⟨E,0,none⟩),.int .i64 0] u fun e u' => e = .returned (.int .i64 f0) /\ Ext u u' := by
 have c7 := h.c70;go_enter Tryz.func19,Tryz.ntmps19;go_wp2_with fail;go_ret;exact ⟨rfl,ExtM.refl _⟩
theorem zoy (h : EAt u E Bs lo hi md st V W f0 f1) : Calls Tryz.prog 19 #[.pointer (some ⟨E,0,none⟩),.int .i64 1] u fun e u' => e = .returned (.int .i64 f1) /\ Ext u u' := by
 have c7 := h.c71;go_enter Tryz.func19,Tryz.ntmps19;go_wp2_with fail;go_ret;exact ⟨rfl,ExtM.refl _⟩
end
theorem zoL (E : Nat) (u : World) : Calls Tryz.prog 19 #[.pointer (some ⟨E,0,none⟩),.int .i64 5] u fun e u' => e = .returned (.int .i64 0) /\ Ext u u' := by
 go_enter Tryz.func19,Tryz.ntmps19;go_wp2_with fail;go_ret;exact ⟨rfl,ExtM.refl _⟩
theorem zm1 (P : Nat) (u : World) :
 Calls Tryz.prog 65 #[.pointer (some ⟨P,0,none⟩),.int .i64 (-1)] u fun e u' => e = .returned (.int .i64 0) /\ u = u' := by
 go_enter Tryz.func65,Tryz.ntmps65;go_wp2_with fail;go_ret;exact ⟨rfl,rfl⟩
section
variable {u : World} {E : Nat} {Bs : Nat -> Prop} {lo hi md : Int} {st : JSt} {V W : List Out} {f0 f1 : Int}
theorem zou (h : EAt u E Bs lo hi md st V W f0 f1) : Calls Tryz.prog 17 #[.pointer (some ⟨E,0,none⟩),.int .i64 (-1)] u fun e u' => e = .returned (.int .i64 0) /\ Ext u u' := by
 obtain ⟨P,M,v0,v1,c3,lE,-⟩ := h.jn;go_enter Tryz.func17,Tryz.ntmps17;go_wp2_with (go_at_call 65;refine (zm1 P _).mono ?_;rintro e w1 ⟨rfl,rfl⟩);go_ret;exact ⟨rfl,ExtM.refl _⟩
theorem zhk {P M : Nat} {v0 v1 : Value} (h : JIs u P M v0 v1 lo hi md st) (s t c : Int) (hc : moveI s t st.x st.y = c) (h0 : c ≠ 0) :
 Calls Tryz.prog 49 #[.pointer (some ⟨P,0,none⟩),.int .i64 s,.int .i64 t] u fun e u' => e = .returned (.iface 24 (.int .i64 c)) /\ u = u' := by
 have c5 := h.c5;go_enter Tryz.func49,Tryz.ntmps49;go_wp2_with (go_at_call 100;refine (zg0 M s t st.x st.y c _ h.mks hc h0).mono ?_;rintro e w1 ⟨rfl,rfl⟩);go_ret;exact ⟨rfl,rfl⟩
theorem zn4 (h : EAt u E Bs lo hi md st V W f0 f1) (s t : Int) (hs : s ≠ 0 /\ s ≠ 1) : Calls Tryz.prog 13 #[.pointer (some ⟨E,0,none⟩),.int .i64 s,.int .i64 t] u fun e u' => e = .returned (errV 1) /\ Ext u u' := by
 have hm : moveI s t st.x st.y = 1 := by unfold moveI;rw [if_pos hs]
 obtain ⟨P,M,v0,v1,c3,lE,hj⟩ := h.jn;have hl := zhk hj s t 1 hm (by decide);clear hj hm;go_enter Tryz.func13,Tryz.ntmps13;go_wp2_with (go_at_call 49;refine hl.mono ?_;rintro e w1 ⟨rfl,rfl⟩);go_ret;exact ⟨rfl,ExtM.refl _⟩
theorem znx (h : EAt u E Bs lo hi md st V W f0 f1) (hL : Laid u) (s k t v : Int) (hs : s ≠ 0 /\ s ≠ 1) : Calls Tryz.prog 9 #[.pointer (some ⟨E,0,none⟩),.int .i64 s,.agg #[.int .i64 k,.int .i64 t,.int .i64 v]] u fun e u' => e = .returned (.tuple #[.slice none 0 0,errV 1]) /\ Ext u u' := by
 obtain ⟨P,M,v0,v1,c3',lE',-⟩ := h.jn;clear h;have hxb : Ext u (u.alloc (.cells #[.int .i64 k,.int .i64 t,.int .i64 v] 37)) := (ExtM.refl u).alloc _;have hL2 := hL.of hxb;have hf := fun w => ziS P s k t v w hs;rw [show errV 1 = .iface 24 (.int .i64 1) from rfl] at hf ⊢;have c3 := (hxb.cell (p := ⟨E,3,none⟩) lE' id).trans c3';have b0 : (u.alloc (.cells #[.int .i64 k,.int .i64 t,.int .i64 v] 37)).cell? ⟨u.heap.size,0,none⟩ = some (.int .i64 k) := by go_simp
 have b1 : (u.alloc (.cells #[.int .i64 k,.int .i64 t,.int .i64 v] 37)).cell? ⟨u.heap.size,1,none⟩ = some (.int .i64 t) := by go_simp
 have b2 : (u.alloc (.cells #[.int .i64 k,.int .i64 t,.int .i64 v] 37)).cell? ⟨u.heap.size,2,none⟩ = some (.int .i64 v) := by go_simp
 clear c3' lE' hL;go_enter Tryz.func9,Tryz.ntmps9;go_upto_region 1 with fail;generalize u.alloc (.cells #[.int .i64 k,.int .i64 t,.int .i64 v] 37) = w1 at *;generalize hn : u.heap.size = n at *;have HN := Lib.hid hn;clear hn;have hEl := zaG c3;have hnl := zaG b0;refine Plan.b0 Plan.Ext 12 ?_;refine Plan.qs 6 [0,1,2,3,4,5] ?_;iterate 6 go_big_quiet_step (fail)
 refine Plan.o1 6 fun K hK => ?_;go_wp2_with (fail);refine (hf _).mono ?_;rintro e w2 ⟨rfl,h2⟩;have H2 := ExtM.trans _ _ _ (ExtM.refl _).drew h2;obtain ⟨hc2,hf2,-⟩ := Ext.rules H2;have hs2_0 : E < w2.heap.size := by have := H2.size;(try simp at this);omega
 have hs2_1 : n < w2.heap.size := by have := H2.size;(try simp at this);omega
 go_wp2_with (fail);refine hK _ _ h2 ?_;clear hK K;refine Plan.qs 5 [7,8,9,10,11] ?_;iterate 5 go_big_quiet_step (fail)
 refine Plan.dn ?_;have hL3 := hL2.of H2;have HX := Lib.hid (ExtM.trans _ _ _ hxb H2);clear hf hxb hc2 hf2 h2 H2 b0 b1 b2 c3 hL2;go_wp2_with (go_at_call 44;first | (refine (zcz 1 _ hL3).mono ?_;rintro e w3 ⟨rfl,hx3⟩) | (refine (zcz 1 _ (hL3.of hx3)).mono ?_;rintro e w4 ⟨rfl,hx4⟩));go_ret2;exact ⟨rfl,ExtM.trans _ _ _ HX.out (ExtM.trans _ _ _ hx3 hx4)⟩
end
theorem zmT (lo hi md : Int) (w : World) (hc : checkI lo hi md ≠ 0) :
 Calls Tryz.prog 11 #[.agg #[.int .i64 lo,.int .i64 hi,.int .i64 md]] w fun e w' => e = .returned (.tuple #[.pointer none,errV (checkI lo hi md)]) /\ Ext w w' := by
 have hk := fun u => zlg lo hi md u hc;have he : errV (checkI lo hi md) = .iface 24 (.int .i64 (checkI lo hi md)) := by unfold errV;rw [if_neg hc]
 rw [he] at hk ⊢;generalize checkI lo hi md = c at *;clear hc he;go_enter Tryz.func11,Tryz.ntmps11;go_wp2_with (go_at_call 46;refine (hk _).mono ?_;rintro e w1 ⟨rfl,hx1⟩);go_ret2;exact ⟨rfl,ExtM.trans _ _ _ ((ExtM.refl w).alloc _) hx1⟩
theorem zjC (lo hi md : Int) (w : World) (hc : checkI lo hi md ≠ 0) :
 Calls Tryz.prog 12 #[.agg #[.int .i64 lo,.int .i64 hi,.int .i64 md]] w fun e w' => e = .returned (.tuple #[.pointer none,.int .i64 (checkI lo hi md)]) /\ Ext w w' := by
 have hk := fun u => ziG lo hi md u;have d0 : (checkI lo hi md != 0) = true := by simp [hc]
 generalize checkI lo hi md = c at *;clear hc;go_enter Tryz.func12,Tryz.ntmps12;go_wp2_with (go_at_call 47;refine (hk _).mono ?_;rintro e w1 ⟨rfl,hx1⟩);go_ret2;exact ⟨rfl,ExtM.trans _ _ _ ((ExtM.refl w).alloc _) hx1⟩
end Go.Proofs.YtmcgnnmffeojpabGreatDoor
