import Derived.Sort.LotA
set_option maxRecDepth 100000
set_option maxHeartbeats 8000000
namespace Go.Proofs.YtmcgnnmffeojpabGreatDoor
open Go.Sort
variable {α:Type} [Inhabited α]
theorem zig (d:Array α) {i j:Nat} (hi:i < d.size) (hj:j < d.size) (k:Nat):(swp d i j)[k]! = if k = j then d[i]! else if k = i then d[j]! else d[k]!:=by
 by_cases h1:k = j
 . subst h1;rw [if_pos rfl,swp_right d i k hj]
 . rw [if_neg h1];by_cases h2:k = i
   . subst h2;rw [if_pos rfl,swp_left d k j hi h1]
   . rw [if_neg h2,swp_other d i j k h2 h1]
def swF {β:Type} (f:Nat -> β) (a b len:Nat) (k:Nat):β:=if a <= k /\ k < a + len then f (k + (b - a)) else if b <= k /\ k < b + len then f (k - (b - a)) else f k
def rotF {β:Type} (f:Nat -> β) (a m b:Nat) (k:Nat):β:=if a <= k /\ k < a + (b - m) then f (k + (m - a)) else if a + (b - m) <= k /\ k < b then f (k - (b - m)) else f k
theorem zlK {β:Type} (f:Nat -> β) (a b k:Nat):swF f a b 0 k = f k:=by
 unfold swF;rw [if_neg (by omega),if_neg (by omega)]
theorem zlO {d dk:Array α} {a b i:Nat} (hab:a + i < b) (hb:b + i < dk.size) (h:∀ k,dk[k]! = swF (fun x=>d[x]!) a b i k) :
 ∀ k,(swp dk (a + i) (b + i))[k]! = swF (fun x=>d[x]!) a b (i + 1) k:=by
 intro k;rw [zig dk (by omega) hb,h,h,h];unfold swF;by_cases h1:k = b + i
 . subst h1;rw [if_pos rfl,if_neg (by omega),if_neg (by omega),if_neg (by omega),if_pos (by omega)];congr 1;omega
 . rw [if_neg h1];by_cases h2:k = a + i
   . subst h2;rw [if_pos rfl,if_neg (by omega),if_neg (by omega),if_pos (by omega)];congr 1;omega
   . rw [if_neg h2];by_cases c1:a <= k /\ k < a + i
     . rw [if_pos c1,if_pos (by omega)]
     . rw [if_neg c1];by_cases c2:b <= k /\ k < b + i
       . rw [if_pos c2,if_neg (by omega),if_pos (by omega)]
       . rw [if_neg c2,if_neg (by omega),if_neg (by omega)]
theorem zmH {β:Type} {f g:Nat -> β} {m i j:Nat} (hi:i <= m) (hij:j < i) (hg:∀ k,g k = swF f (m - i) m j k) (k:Nat):rotF g (m - (i - j)) m (m + j) k = rotF f (m - i) m (m + j) k:=by
 unfold rotF;by_cases c1:m - (i - j) <= k /\ k < m - (i - j) + (m + j - m)
 . rw [if_pos c1,hg];unfold swF;rw [if_neg (by omega),if_pos (by omega),if_neg (by omega),if_pos (by omega)];congr 1;omega
 . rw [if_neg c1];by_cases c3:m - (i - j) + (m + j - m) <= k /\ k < m + j
   . rw [if_pos c3,if_neg (by omega),if_pos (by omega),hg];unfold swF;rw [if_neg (by omega),if_neg (by omega)]
   . rw [if_neg c3];by_cases c4:m - i <= k /\ k < m - i + (m + j - m)
     . rw [if_pos c4,hg];unfold swF;rw [if_pos (by omega)]
     . rw [if_neg c4,if_neg (by omega),hg];unfold swF;rw [if_neg (by omega),if_neg (by omega)]
theorem zjA {β:Type} {f g:Nat -> β} {m i j:Nat} (hi:i <= m) (hij:i < j) (hg:∀ k,g k = swF f (m - i) (m + j - i) i k) (k:Nat):rotF g (m - i) m (m + (j - i)) k = rotF f (m - i) m (m + j) k:=by
 unfold rotF;by_cases c1:m - i <= k /\ k < m - i + (m + (j - i) - m)
 . rw [if_pos c1,if_pos (by omega),hg];unfold swF;by_cases c2:m - i <= k + (m - (m - i)) /\ k + (m - (m - i)) < m - i + i
   . omega
   . rw [if_neg c2];by_cases c3:m + j - i <= k + (m - (m - i)) /\ k + (m - (m - i)) < m + j - i + i
     . omega
     . rw [if_neg c3]
 . rw [if_neg c1];by_cases c2:m - i + (m + (j - i) - m) <= k /\ k < m + (j - i)
   . rw [if_pos c2,hg];unfold swF;rw [if_pos (by omega)];by_cases c3:m - i <= k /\ k < m - i + (m + j - m)
     . rw [if_pos c3];congr 1;omega
     . omega
   . rw [if_neg c2,hg];unfold swF;rw [if_neg (by omega)];by_cases c3:m + j - i <= k /\ k < m + j - i + i
     . rw [if_pos c3,if_neg (by omega),if_pos (by omega)];congr 1;omega
     . rw [if_neg c3,if_neg (by omega),if_neg (by omega)]
theorem zlU {β:Type} {f g:Nat -> β} {m i:Nat} (hi:i <= m) (hg:∀ k,g k = swF f (m - i) m i k) (k:Nat):g k = rotF f (m - i) m (m + i) k:=by
 rw [hg];unfold rotF swF;by_cases c1:m - i <= k /\ k < m - i + i
 . rw [if_pos c1,if_pos (by omega)]
 . by_cases c2:m <= k /\ k < m + i
   . rw [if_neg c1,if_pos c2,if_neg (by omega),if_pos (by omega)];congr 1;omega
   . rw [if_neg c1,if_neg c2,if_neg (by omega),if_neg (by omega)]
theorem zfK {β:Type} {f:Nat -> β} {a m b:Nat} (h:a = m \/ m = b) (hab:a <= m /\ m <= b) (k:Nat):rotF f a m b k = f k:=by
 unfold rotF;rcases h with rfl | rfl
 . by_cases c1:a <= k /\ k < a + (b - a)
   . rw [if_pos c1];congr 1;omega
   . rw [if_neg c1,if_neg (by omega)]
 . rw [if_neg (by omega)];by_cases c2:a + (m - m) <= k /\ k < m
   . rw [if_pos c2];congr 1;omega
   . rw [if_neg c2]
theorem zgy {β:Type} {lt:β -> β -> Bool} (hO:SWO lt) {x y z:β} (h1:lt y x = false) (h2:lt y z = true):lt x z = true:=by
 cases h:lt x z with
 | true=>rfl
 | false=>rw [hO.ntrans _ _ _ h1 h] at h2;cases h2
theorem zgj {β:Type} {lt:β -> β -> Bool} (hO:SWO lt) {x y z:β} (h1:lt x y = true) (h2:lt z y = false):lt x z = true:=by
 cases h:lt x z with
 | true=>rfl
 | false=>rw [hO.ntrans _ _ _ h h2] at h1;cases h1
theorem zf7 {β:Type} {lt:β -> β -> Bool} (hO:SWO lt) {x y:β} (h:lt x y = true):lt y x = false:=by
 cases h2:lt y x with
 | false=>rfl
 | true=>have:=hO.trans _ _ _ h h2;rw [hO.irrefl] at this;cases this
section
variable {lt:α -> α -> Bool} (hO:SWO lt)
include hO
theorem zb2 {d:Array α} {a b:Nat} (h:SortedIn lt a b d) {i j:Nat} (h1:a <= i) (h2:i <= j) (h3:j < b):lt d[j]! d[i]! = false:=by
 rcases Nat.lt_or_ge i j with h' | h'
 . exact h i j h1 h' h3
 . obtain rfl:i = j:=by omega
   exact hO.irrefl _
theorem zhg {d d':Array α} {a i b:Nat} (hs:SortedIn lt (a + 1) b d) (hi:a + 1 <= i /\ i <= b) (h1:∀ h,a + 1 <= h -> h < i -> lt d[h]! d[a]! = true) (h2:∀ h,i <= h -> h < b -> lt d[h]! d[a]! = false)
 (hd:∀ k,d'[k]! = rotF (fun x=>d[x]!) a (a + 1) i k):SortedIn lt a b d':=by
 intro k l hk hkl hl;rw [hd,hd];unfold rotF;by_cases c1:k < i - 1
 . rw [if_pos (show a <= k /\ k < a + (i - (a + 1)) by omega)];by_cases c2:l < i - 1
   . rw [if_pos (show a <= l /\ l < a + (i - (a + 1)) by omega)];exact hs _ _ (by omega) (by omega) (by omega)
   . rw [if_neg (show ¬ (a <= l /\ l < a + (i - (a + 1))) by omega)];by_cases c3:l < i
     . rw [if_pos (show a + (i - (a + 1)) <= l /\ l < i by omega),show l - (i - (a + 1)) = a by omega];exact zf7 hO (h1 _ (by omega) (by omega))
     . rw [if_neg (by omega)];exact hs _ _ (by omega) (by omega) (by omega)
 . rw [if_neg (show ¬ (a <= k /\ k < a + (i - (a + 1))) by omega),if_neg (show ¬ (a <= l /\ l < a + (i - (a + 1))) by omega),if_neg (show ¬ (a + (i - (a + 1)) <= l /\ l < i) by omega)];by_cases c3:k < i
   . rw [if_pos (show a + (i - (a + 1)) <= k /\ k < i by omega),show k - (i - (a + 1)) = a by omega];exact h2 _ (by omega) hl
   . rw [if_neg (by omega)];exact hs _ _ (by omega) hkl hl
theorem zgP {d d':Array α} {a i m:Nat} (hs:SortedIn lt a m d) (hi:a <= i /\ i <= m) (h1:∀ h,a <= h -> h < i -> lt d[m]! d[h]! = false) (h2:∀ h,i <= h -> h < m -> lt d[m]! d[h]! = true)
 (hd:∀ k,d'[k]! = rotF (fun x=>d[x]!) i m (m + 1) k):SortedIn lt a (m + 1) d':=by
 intro k l hk hkl hl;rw [hd,hd];unfold rotF;by_cases c1:k < i
 . rw [if_neg (show ¬ (i <= k /\ k < i + (m + 1 - m)) by omega),if_neg (show ¬ (i + (m + 1 - m) <= k /\ k < m + 1) by omega)];by_cases c2:l < i
   . rw [if_neg (by omega),if_neg (by omega)];exact hs _ _ hk hkl (by omega)
   . by_cases c3:l = i
     . rw [if_pos (by omega),show l + (m - i) = m by omega];exact h1 _ hk c1
     . rw [if_neg (by omega),if_pos (by omega)];exact hs _ _ hk (by omega) (by omega)
 . by_cases c2:k = i
   . rw [if_pos (show i <= k /\ k < i + (m + 1 - m) by omega),show k + (m - i) = m by omega,if_neg (by omega),if_pos (by omega)];exact zf7 hO (h2 _ (by omega) (by omega))
   . rw [if_neg (show ¬ (i <= k /\ k < i + (m + 1 - m)) by omega),if_pos (show i + (m + 1 - m) <= k /\ k < m + 1 by omega),if_neg (by omega),if_pos (by omega)];exact hs _ _ (by omega) (by omega) (by omega)
structure zo1 (lt:α -> α -> Bool) (a start mid ende b:Nat) (d:Array α):Prop where
 s1:SortedIn lt a start d
 s2:SortedIn lt start mid d
 s3:SortedIn lt mid ende d
 s4:SortedIn lt ende b d
 cross:∀ u v,a <= u -> u < mid -> mid <= v -> v < b -> lt d[v]! d[u]! = false
theorem zoT {d d':Array α} {a m b start mid s0 r0:Nat} (hl:SortedIn lt a m d) (hr:SortedIn lt m b d) (hab:a <= start /\ start <= m /\ m <= mid + m - start /\ mid + m - start <= b) (hstart:start <= mid /\ 1 <= mid + m)
 (h0:start = s0 \/ (s0 < start /\ lt d[mid + m - 1 - (start - 1)]! d[start - 1]! = false)) (hs0:s0 = a \/ mid + m - s0 = b)
 (h1:start = r0 \/ (start < r0 /\ lt d[mid + m - 1 - start]! d[start]! = true)) (hr0:r0 = mid \/ r0 = m)
 (hd:∀ k,d'[k]! = rotF (fun x=>d[x]!) start m (mid + m - start) k):zo1 lt a start mid (mid + m - start) b d':=by
 obtain ⟨e,he⟩:∃ e,e = mid + m - start:=⟨_,rfl⟩
 rw [<- he] at hd hab ⊢;have low:∀ u v,a <= u -> u < start -> e <= v -> v < b -> lt d[v]! d[u]! = false:=by
  intro u v hu hus hv hvb;rcases h0 with rfl | ⟨h0,h0'⟩
  . rcases hs0 with rfl | hs0
    . omega
    . omega
  . rw [show mid + m - 1 - (start - 1) = e by omega] at h0';have x1:=zb2 hO hr (i:=e) (j:=v) (by omega) hv hvb;have x2:=zb2 hO hl (i:=u) (j:=start - 1) hu (by omega) (by omega);exact hO.ntrans _ _ _ (hO.ntrans _ _ _ x1 h0') x2
 have high:∀ u v,m <= u -> u < e -> start <= v -> v < m -> lt d[v]! d[u]! = false:=by
  intro u v hu hue hv hvm;rcases h1 with rfl | ⟨h1,h1'⟩
  . rcases hr0 with rfl | rfl
    . omega
    . omega
  . rw [show mid + m - 1 - start = e - 1 by omega] at h1';have x1:=zb2 hO hr (i:=u) (j:=e - 1) hu (by omega) (by omega);have x2:=zb2 hO hl (i:=start) (j:=v) (by omega) hv hvm;exact zf7 hO (zgj hO (zgy hO x1 h1') x2)
 have d1:∀ k,k < start -> d'[k]! = d[k]!:=fun k hk=>by rw [hd];unfold rotF;rw [if_neg (by omega),if_neg (by omega)]
 have d2:∀ k,start <= k -> k < mid -> d'[k]! = d[k + (m - start)]!:=fun k hk hk2=>by rw [hd];unfold rotF;rw [if_pos (by omega)]
 have d3:∀ k,mid <= k -> k < e -> d'[k]! = d[k - (e - m)]!:=fun k hk hk2=>by rw [hd];unfold rotF;rw [if_neg (by omega),if_pos (by omega)]
 have d4:∀ k,e <= k -> d'[k]! = d[k]!:=fun k hk=>by rw [hd];unfold rotF;rw [if_neg (by omega),if_neg (by omega)]
 refine ⟨fun i j h1 h2 h3=>?_,fun i j h1 h2 h3=>?_,fun i j h1 h2 h3=>?_,fun i j h1 h2 h3=>?_,fun u v hu hum hv hvb=>?_⟩
 . rw [d1 _ h3,d1 _ (by omega)];exact hl _ _ h1 h2 (by omega)
 . rw [d2 _ (by omega) h3,d2 _ h1 (by omega)];exact hr _ _ (by omega) (by omega) (by omega)
 . rw [d3 _ (by omega) h3,d3 _ h1 (by omega)];exact hl _ _ (by omega) (by omega) (by omega)
 . rw [d4 _ (by omega),d4 _ h1];exact hr _ _ (by omega) (by omega) (by omega)
 . by_cases c1:u < start
   . rw [d1 _ c1];by_cases c2:v < e
     . rw [d3 _ hv c2];exact hl _ _ hu (by omega) (by omega)
     . rw [d4 _ (by omega)];exact low _ _ hu c1 (by omega) hvb
   . rw [d2 _ (by omega) hum];by_cases c2:v < e
     . rw [d3 _ hv c2];exact high _ _ (by omega) (by omega) (by omega) (by omega)
     . rw [d4 _ (by omega)];exact hr _ _ (by omega) (by omega) hvb
end
theorem zcl {lt:α -> α -> Bool} {d1 d2 d3:Array α} {a mid b:Nat} (ham:a <= mid) (hmb:mid <= b) (hb:b <= d1.size) (p1:PermIn a mid d1 d2) (s1:SortedIn lt a mid d2) (p2:PermIn mid b d2 d3) (s2:SortedIn lt mid b d3)
 (hc:∀ u v,a <= u -> u < mid -> mid <= v -> v < b -> lt d1[v]! d1[u]! = false):PermIn a b d1 d3 /\ SortedIn lt a b d3:=by
 have q1:=p1.1;have q2:=p2.1;refine ⟨permIn_trans _ _ _ _ _ (permIn_mono _ _ _ _ _ _ (Nat.le_refl _) hmb hb p1) (permIn_mono _ _ _ _ _ _ ham (Nat.le_refl _) (by omega) p2),fun i j h1 h2 h3=>?_⟩;by_cases c1:j < mid
 . rw [p2.2.1 _ (.inl c1),p2.2.1 _ (.inl (by omega))];exact s1 _ _ h1 h2 c1
 . by_cases c2:mid <= i
   . exact s2 _ _ c2 h2 h3
   . rw [p2.2.1 i (.inl (by omega))];refine permIn_all d2 d3 mid b (fun y=>lt y d2[i]! = false) (by omega) p2 (fun v hv hvb=>?_) j (by omega) h3;rw [p1.2.1 v (.inr hv)];exact permIn_all d1 d2 a mid (fun x=>lt d1[v]! x = false) (by omega) p1 (fun u hu hum=>hc u v hu hum hv hvb) i h1 (by omega)
def Blk (lt:α -> α -> Bool) (n bs lo hi:Nat) (d:Array α):Prop:=∀ q,lo <= q * bs -> q * bs < hi -> SortedIn lt (q * bs) (min (q * bs + bs) n) d
theorem zaS {lt:α -> α -> Bool} {d d':Array α} {a b x y:Nat} (h:SortedIn lt x y d) (hp:PermIn a b d d') (ho:y <= a \/ b <= x):SortedIn lt x y d':=fun i j h1 h2 h3=>by
 rw [hp.2.1 _ (by omega),hp.2.1 _ (by omega)];exact h _ _ h1 h2 h3
end Go.Proofs.YtmcgnnmffeojpabGreatDoor
