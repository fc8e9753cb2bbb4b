/-
  Plain: what was there stays, whatever of an append survives. No program in sight.
-/
import Derived.Test.YtdpffgcekjdneaaAreaDoes
import Derived.Test.YtdpffgcekjdneaaSurvP
set_option linter.all false
namespace Go.Proofs.Ytdpffgcekjdneaa

/-- A list of parts, one behind the other. -/
def catB (B : Nat → List UInt8) : Nat → List UInt8
  | 0 => []
  | k + 1 => catB B k ++ B k
theorem catB_length {B : Nat → List UInt8} : ∀ K, (∀ k, k < K → (B k).length = 128) → (catB B K).length = 128 * K
  | 0, _ => rfl
  | K + 1, h => by
    show (catB B K ++ B K).length = _
    rw [List.length_append, catB_length K (fun k hk => h k (by omega)), h K (by omega)]
    omega
theorem catB_get {B : Nat → List UInt8} : ∀ K j, (∀ k, k < K → (B k).length = 128) → j < 128 * K → (catB B K)[j]? = (B (j / 128))[j % 128]?
  | 0, j, _, h => by omega
  | K + 1, j, hB, h => by
    have hL := catB_length K (fun k hk => hB k (by omega))
    show (catB B K ++ B K)[j]? = _
    by_cases hj : j < 128 * K
    · rw [List.getElem?_append_left (by omega)]
      exact catB_get K j (fun k hk => hB k (by omega)) hj
    · rw [List.getElem?_append_right (by omega), hL, show j / 128 = K from by omega, show j % 128 = j - 128 * K from by omega]
theorem rdCat_catB (d : Dk) (f : Int) : ∀ k, rdCat d f k = catB (fun k => (d.read (f + k)).1.data.toList) k
  | 0 => rfl
  | k + 1 => by
    show rdCat d f k ++ _ = catB _ k ++ _
    rw [rdCat_catB d f k]

/-- The bytes of a sector of which nothing waits. -/
def secB (d : Dk) (f : Int) (k : Nat) : List UInt8 := (fullS (d.th (f + k))).data.toList

/-- Nothing waits; an area's first bytes. -/
structure Stay (d : Dk) (a : Int) (hv : ByteArray) : Prop where
  down : d.down = false
  n : d.n = 20
  wait : d.wait = []
  size : hv.size ≤ 1152
  bytes : ∀ j, j < hv.size → (secB d (2 + 9 * a) (j / 128))[j % 128]? = hv.data.toList[j]?

theorem head_of {d : Dk} {N : Nat} {a : Int} {L : Nat} {l : List UInt8} (hok : d.okn N) (ha : a = 0 ∨ a = 1) (hd : d.down = false) (hn : d.n = 20) (hw : d.wait = []) (hL : L ≤ 1152) (hl : l.length = L)
    (h : ∀ j, j < L → (secB d (2 + 9 * a) (j / 128))[j % 128]? = l[j]?) : d.head (2 + 9 * a) L = ⟨l.toArray⟩ := by
  unfold Dk.head
  have hr : ∀ k : Nat, k < sN L → (d.read (2 + 9 * a + k)).1.data.toList = secB d (2 + 9 * a) k := fun k hk => by
    have hk9 : k < 9 := by unfold sN at hk; omega
    rw [read_ok hd (by rcases ha with rfl | rfl <;> omega) (by rw [hn]; rcases ha with rfl | rfl <;> omega), hw]
    rfl
  have hs : ∀ k : Nat, (secB d (2 + 9 * a) k).length = 128 := fun k => fullS_size _ (hok.2.2.2.2.1 _)
  congr 1
  congr 1
  rw [rdCat_catB]
  have hB : ∀ k, k < sN L → ((d.read (2 + 9 * a + k)).1.data.toList).length = 128 := fun k hk => by rw [hr k hk]; exact hs k
  have hlen := catB_length (B := fun k => (d.read (2 + 9 * a + k)).1.data.toList) (sN L) hB
  have hge := sN_ge L
  apply List.ext_getElem?
  intro j
  by_cases hj : j < L
  · rw [List.getElem?_take_of_lt hj, catB_get (sN L) j hB (by omega), hr _ (by unfold sN; omega)]
    exact h j hj
  · rw [List.getElem?_eq_none (by rw [List.length_take]; omega), List.getElem?_eq_none (by omega)]

/-- Where the last write to a sector is. -/
theorem lastW_mem (s : Int) : ∀ (l : List (Int × ByteArray)) (x : ByteArray), (lastW s l x = x ∧ ∀ p ∈ l, p.1 ≠ s) ∨ ∃ p ∈ l, p.1 = s ∧ lastW s l x = p.2
  | [], x => .inl ⟨rfl, fun p hp => by simp at hp⟩
  | q :: l, x => by
    have hl : lastW s (q :: l) x = lastW s l (if q.1 = s then q.2 else x) := rfl
    rw [hl]
    rcases lastW_mem s l (if q.1 = s then q.2 else x) with ⟨h1, h2⟩ | ⟨p, hp, h1, h2⟩
    · by_cases hq : q.1 = s
      · rw [if_pos hq] at h1 ⊢
        exact .inr ⟨q, List.mem_cons_self .., hq, h1⟩
      · rw [if_neg hq] at h1 ⊢
        refine .inl ⟨h1, fun p hp => ?_⟩
        rcases List.mem_cons.1 hp with rfl | hp
        · exact hq
        · exact h2 p hp
    · exact .inr ⟨p, List.mem_cons_of_mem _ hp, h1, h2⟩

/-- Writes as they wait. -/
def fulls (l : List (Int × ByteArray)) : List (Int × ByteArray) := l.map fun p => (p.1, fullS p.2)

theorem write_go {d : Dk} (hd : d.down = false) (hf : d.full) {s : Int} {x : ByteArray} (h0 : 0 ≤ s) (h1 : s < d.n) (hx : x.size ≤ 128) :
    (d.write s x).2.n = d.n ∧ (d.write s x).2.full ∧ (((d.write s x).1 = 0 ∧ (d.write s x).2.down = false ∧ (d.write s x).2.th = d.th ∧ (d.write s x).2.wait = d.wait ++ [(s, fullS x)]) ∨
      ((d.write s x).1 = 12 ∧ (d.write s x).2.wait = [] ∧ ∀ k, fullS ((d.write s x).2.th k) = fullS (d.th k) ∨ ∃ p ∈ d.wait ++ [(s, fullS x)], p.1 = k ∧ fullS ((d.write s x).2.th k) = p.2)) := by
  refine ⟨write_n d s x, hf.write s x, ?_⟩
  have hf' : ({ d with wait := d.wait ++ [(s, fullS x)] } : Dk).full := fun p hp => by
    rcases List.mem_append.1 hp with hp | hp
    · exact hf p hp
    · simp at hp
      subst hp
      exact ⟨fullS_size x hx, s.toNat, by show s = _; omega, by show s.toNat < d.n; omega⟩
  have e : d.write s x = ((if ({ d with wait := d.wait ++ [(s, fullS x)] } : Dk).crash.1 then 12 else 0), ({ d with wait := d.wait ++ [(s, fullS x)] } : Dk).crash.2) := by
    unfold Dk.write
    rw [hd, if_neg (by decide), if_neg (by omega), if_neg (by omega)]
  rw [e]
  cases hc : ({ d with wait := d.wait ++ [(s, fullS x)] } : Dk).crash.1 with
  | false =>
    left
    rw [crash_w _ hc]
    exact ⟨rfl, hd, rfl, rfl⟩
  | true =>
    right
    refine ⟨rfl, ?_⟩
    unfold Dk.crash at hc ⊢
    split at hc
    · cases hc
    · rename_i c _
      refine ⟨rfl, fun k => ?_⟩
      show fullS (standL (mbit c.2) 0 (d.wait ++ [(s, fullS x)]) d.th k) = _ ∨ ∃ p ∈ d.wait ++ [(s, fullS x)], p.1 = k ∧ fullS (standL (mbit c.2) 0 (d.wait ++ [(s, fullS x)]) d.th k) = p.2
      rcases standL_mem (mbit c.2) k (d.wait ++ [(s, fullS x)]) 0 d.th with e | ⟨p, hp, h1, h2⟩
      · exact .inl (by rw [e])
      · exact .inr ⟨p, hp, h1, by rw [h2, fullS_full _ (hf' p hp).1]⟩

theorem writes_go : ∀ (l : List (Int × ByteArray)) {d : Dk}, d.down = false → d.full → (∀ p ∈ l, 0 ≤ p.1 ∧ p.1 < d.n ∧ p.2.size ≤ 128) →
    (d.writes l).2.n = d.n ∧ (d.writes l).2.full ∧ (((d.writes l).1 = 0 ∧ (d.writes l).2.down = false ∧ (d.writes l).2.th = d.th ∧ (d.writes l).2.wait = d.wait ++ fulls l) ∨
      ((d.writes l).1 = 12 ∧ (d.writes l).2.wait = [] ∧ ∀ k, fullS ((d.writes l).2.th k) = fullS (d.th k) ∨ ∃ p ∈ d.wait ++ fulls l, p.1 = k ∧ fullS ((d.writes l).2.th k) = p.2))
  | [], d, hd, hf, _ => ⟨rfl, hf, .inl ⟨rfl, hd, rfl, by simp [fulls, Dk.writes]⟩⟩
  | q :: l, d, hd, hf, hl => by
    obtain ⟨q0, q1, q2⟩ := hl q (List.mem_cons_self ..)
    obtain ⟨hn, hff, hw⟩ := write_go hd hf q0 q1 q2
    unfold Dk.writes
    rcases hw with ⟨w0, w1, w2, w3⟩ | ⟨w0, w1, w2⟩
    · rw [if_pos w0]
      obtain ⟨rn, rf, rw_⟩ := writes_go l w1 hff (fun p hp => by rw [hn]; exact hl p (List.mem_cons_of_mem _ hp))
      refine ⟨rn.trans hn, rf, ?_⟩
      have ef : d.wait ++ [(q.1, fullS q.2)] ++ fulls l = d.wait ++ fulls (q :: l) := by simp [fulls]
      rw [w3, w2, ef] at rw_
      exact rw_
    · rw [if_neg (by rw [w0]; decide)]
      refine ⟨hn, hff, .inr ⟨w0, w1, fun k => ?_⟩⟩
      rcases w2 k with h | ⟨p, hp, h1, h2⟩
      · exact .inl h
      · refine .inr ⟨p, ?_, h1, h2⟩
        simp [fulls] at hp ⊢
        rcases hp with hp | hp
        · exact .inl hp
        · exact .inr (.inl hp)

theorem flush_go {d : Dk} (hd : d.down = false) (hf : d.full) :
    d.flush.2.n = d.n ∧ d.flush.2.wait = [] ∧ ((d.flush.1 = 0 ∧ ∀ k, fullS (d.flush.2.th k) = lastW k d.wait (fullS (d.th k))) ∨
      (d.flush.1 = 12 ∧ ∀ k, fullS (d.flush.2.th k) = fullS (d.th k) ∨ ∃ p ∈ d.wait, p.1 = k ∧ fullS (d.flush.2.th k) = p.2)) := by
  refine ⟨flush_n d, ?_⟩
  have e : d.flush = if d.crash.1 = true then (12, d.crash.2) else (0, { d.crash.2 with th := standL (fun _ => true) 0 d.crash.2.wait d.crash.2.th, wait := [] }) := by
    unfold Dk.flush
    rw [hd, if_neg (by decide)]
  rw [e]
  cases hc : d.crash.1 with
  | false =>
    rw [if_neg (by decide), crash_w _ hc]
    exact ⟨rfl, .inl ⟨rfl, fun k => standL_last k d.wait 0 d.th (fun p hp => (hf p hp).1)⟩⟩
  | true =>
    rw [if_pos rfl]
    unfold Dk.crash at hc ⊢
    split at hc
    · cases hc
    · rename_i c _
      refine ⟨rfl, .inr ⟨rfl, fun k => ?_⟩⟩
      show fullS (standL (mbit c.2) 0 d.wait d.th k) = _ ∨ ∃ p ∈ d.wait, p.1 = k ∧ fullS (standL (mbit c.2) 0 d.wait d.th k) = p.2
      rcases standL_mem (mbit c.2) k d.wait 0 d.th with e | ⟨p, hp, h1, h2⟩
      · exact .inl (by rw [e])
      · exact .inr ⟨p, hp, h1, by rw [h2, fullS_full _ (hf p hp).1]⟩

theorem partS_size (all : ByteArray) (k : Nat) : (partS all k).size ≤ 128 := by
  unfold partS
  simp
  omega
theorem partS_get (all : ByteArray) (k t : Nat) (h : 128 * k + t < all.size) (ht : t < 128) : (fullS (partS all k)).data.toList[t]? = all.data.toList[128 * k + t]? := by
  have hs : all.data.toList.length = all.size := rfl
  have e : (fullS (partS all k)).data.toList = (partS all k).data.toList ++ (zeroS (128 - (partS all k).size)).data.toList := by
    unfold fullS
    simp [ByteArray.data_append]
  have e2 : (partS all k).data.toList = all.data.toList.extract (k * 128) (min ((k + 1) * 128) all.size) := by
    unfold partS
    simp
  rw [e, e2, List.getElem?_append_left (by simp; omega)]
  simp only [List.extract_eq_take_drop]
  rw [List.getElem?_take_of_lt (by omega), List.getElem?_drop, Nat.mul_comm k 128]

/-- One append, one flush, a crash anywhere: what is there behind. -/
theorem stay_append {d : Dk} {N : Nat} {a : Int} {hv s : ByteArray} (ha : a = 0 ∨ a = 1) (hok : d.okn N) (h : Stay d a hv) :
    d.chk a hv.size = 0 ∧ d.first a = 2 + 9 * a ∧ d.full ∧ ((1152 < hv.size + s.size ∧ d.append a hv.size s = (13, d)) ∨
      (hv.size + s.size ≤ 1152 ∧ (((d.append a hv.size s).1 = 12 ∧ Stay { (d.append a hv.size s).2 with down := false } a hv) ∨
        ((d.append a hv.size s).1 = 0 ∧ (((d.append a hv.size s).2.flush.1 = 12 ∧ Stay { (d.append a hv.size s).2.flush.2 with down := false } a hv) ∨
          ((d.append a hv.size s).2.flush.1 = 0 ∧ Stay { (d.append a hv.size s).2.flush.2 with down := false } a hv ∧ Stay { (d.append a hv.size s).2.flush.2 with down := false } a (hv ++ s))))))) := by
  have hcnt : d.cnt = 9 := by unfold Dk.cnt; rw [h.n]
  have hfirst : d.first a = 2 + 9 * a := by
    unfold Dk.first
    rw [hcnt, if_neg (by omega)]
    omega
  have hfull : d.full := fun p hp => by rw [h.wait] at hp; simp at hp
  have hchk : d.chk a hv.size = 0 := by
    unfold Dk.chk
    have := h.size
    rw [h.down, if_neg (by decide), hfirst, hcnt, if_neg (by rcases ha with rfl | rfl <;> omega)]
  refine ⟨hchk, hfirst, hfull, ?_⟩
  have happ : d.append a hv.size s = if ((128 * d.cnt : Nat) : Int) - hv.size < s.size then (13, d) else d.writes (parts (d.first a) (((hv.size : Nat) : Int).toNat / 128) (d.head (d.first a) ((hv.size : Nat) : Int).toNat ++ s) (secs hv.size s.size).toNat) := by
    unfold Dk.append
    rw [if_pos hchk]
  have hhead : d.head (2 + 9 * a) hv.size = hv := by
    rw [head_of hok ha h.down h.n h.wait h.size (l := hv.data.toList) rfl h.bytes]
  rw [hcnt, hfirst, show (((hv.size : Nat) : Int)).toNat = hv.size from by omega, hhead] at happ
  by_cases hbig : 1152 < hv.size + s.size
  · left
    rw [happ, if_pos (by omega)]
    exact ⟨hbig, rfl⟩
  · right
    refine ⟨by omega, ?_⟩
    rw [if_neg (by omega)] at happ
    obtain ⟨m, hm, hm0, hm1⟩ := secs_cast hv.size s.size
    rw [hm, show ((m : Nat) : Int).toNat = m from by omega] at happ
    rw [happ]
    obtain ⟨L, hL⟩ : ∃ L, hv.size = L := ⟨_, rfl⟩
    have hsz := h.size
    have hbytes := h.bytes
    rw [hL] at hbig hm1 hsz hbytes ⊢
    obtain ⟨all, hall⟩ : ∃ all, hv ++ s = all := ⟨_, rfl⟩
    have hals : all.size = L + s.size := by rw [← hall, ByteArray.size_append, hL]
    have hallg : ∀ j, j < L → all.data.toList[j]? = hv.data.toList[j]? := fun j hj => by
      rw [← hall]
      simp only [ByteArray.data_append, Array.toList_append]
      rw [List.getElem?_append_left (by show j < hv.size; omega)]
    rw [hall]
    obtain ⟨q, hq⟩ : ∃ q, L / 128 = q := ⟨_, rfl⟩
    rw [hq] at hm1 ⊢
    have hqm : 0 < m → q + m ≤ 9 ∧ 128 * (q + m - 1) < all.size ∧ all.size ≤ 128 * (q + m) := fun h0 => by
      have hs0 : 0 < s.size := by
        rcases Nat.eq_zero_or_pos s.size with h | h
        · have := hm0 h; omega
        · exact h
      have := hm1 hs0
      omega
    have hpin : ∀ p ∈ parts (2 + 9 * a) q all m, 0 ≤ p.1 ∧ p.1 < d.n ∧ p.2.size ≤ 128 := fun p hp => by
      simp only [parts, List.mem_map, List.mem_range] at hp
      obtain ⟨i, hi, rfl⟩ := hp
      have := hqm (by omega)
      rw [h.n]
      exact ⟨by rcases ha with rfl | rfl <;> simp <;> omega, by rcases ha with rfl | rfl <;> simp <;> omega, partS_size _ _⟩
    have hfp : ∀ p ∈ fulls (parts (2 + 9 * a) q all m), ∃ i, i < m ∧ p = ((2 + 9 * a : Int) + q + (i : Nat), fullS (partS all (q + i))) := fun p hp => by
      simp only [fulls, parts, List.map_map, List.mem_map, List.mem_range] at hp
      obtain ⟨i, hi, rfl⟩ := hp
      exact ⟨i, hi, rfl⟩
    -- what stays, of any disk whose sectors are old ones or the parts
    have key : ∀ d' : Dk, d'.n = 20 → d'.wait = [] → (∀ k, fullS (d'.th k) = fullS (d.th k) ∨ ∃ p ∈ fulls (parts (2 + 9 * a) q all m), p.1 = k ∧ fullS (d'.th k) = p.2) → Stay { d' with down := false } a hv := fun d' hn hw hs => by
      refine ⟨rfl, hn, hw, by rw [hL]; exact hsz, fun j hj => ?_⟩
      rw [hL] at hj
      show (fullS (d'.th (2 + 9 * a + (j / 128 : Nat)))).data.toList[j % 128]? = _
      rcases hs (2 + 9 * a + (j / 128 : Nat)) with e | ⟨p, hp, h1, h2⟩
      · rw [e]
        exact hbytes j hj
      · obtain ⟨i, hi, rfl⟩ := hfp p hp
        have hk : q + i = j / 128 := by simp at h1; omega
        rw [h2]
        show (fullS (partS all (q + i))).data.toList[j % 128]? = _
        rw [hk, partS_get all (j / 128) (j % 128) (by omega) (by omega), show 128 * (j / 128) + j % 128 = j from by omega]
        exact hallg j hj
    obtain ⟨hn1, hf1, hw1⟩ := writes_go (parts (2 + 9 * a) q all m) h.down hfull hpin
    rw [h.wait, List.nil_append] at hw1
    rcases hw1 with ⟨w0, w1, w2, w3⟩ | ⟨w0, w1, w2⟩
    · right
      refine ⟨w0, ?_⟩
      obtain ⟨fn, fw, ff⟩ := flush_go w1 hf1
      rw [w3, w2] at ff
      rcases ff with ⟨f0, f1⟩ | ⟨f0, f1⟩
      · right
        refine ⟨f0, key _ (by rw [fn, hn1, h.n]) fw (fun k => ?_), rfl, by rw [fn, hn1, h.n], fw, by omega, fun j hj => ?_⟩
        · rw [f1 k]
          rcases lastW_mem k (fulls (parts (2 + 9 * a) q all m)) (fullS (d.th k)) with ⟨h1, _⟩ | ⟨p, hp, h1, h2⟩
          · exact .inl h1
          · exact .inr ⟨p, hp, h1, h2⟩
        · show (fullS ((d.writes (parts (2 + 9 * a) q all m)).2.flush.2.th (2 + 9 * a + (j / 128 : Nat)))).data.toList[j % 128]? = _
          rw [f1]
          rcases lastW_mem (2 + 9 * a + (j / 128 : Nat)) (fulls (parts (2 + 9 * a) q all m)) (fullS (d.th (2 + 9 * a + (j / 128 : Nat)))) with ⟨h1, h2⟩ | ⟨p, hp, h1, h2⟩
          · rw [h1]
            have hjL : j < L := by
              rcases Nat.lt_or_ge j L with hh | hh
              · exact hh
              · exfalso
                have hs0 : 0 < s.size := by omega
                have hmm := hm1 hs0
                have hi : j / 128 - q < m := by omega
                refine h2 ((2 + 9 * a : Int) + q + ((j / 128 - q : Nat) : Int), fullS (partS all (q + (j / 128 - q)))) ?_ ?_
                · simp only [fulls, parts, List.map_map, List.mem_map, List.mem_range]
                  exact ⟨j / 128 - q, hi, rfl⟩
                · simp; omega
            rw [hallg j hjL]
            exact hbytes j hjL
          · obtain ⟨i, hi, rfl⟩ := hfp p hp
            have hk : q + i = j / 128 := by simp at h1; omega
            rw [h2]
            show (fullS (partS all (q + i))).data.toList[j % 128]? = _
            rw [hk, partS_get all (j / 128) (j % 128) (by omega) (by omega), show 128 * (j / 128) + j % 128 = j from by omega]
      · left
        exact ⟨f0, key _ (by rw [fn, hn1, h.n]) fw f1⟩
    · left
      exact ⟨w0, key _ (by rw [hn1, h.n]) w1 w2⟩
end Go.Proofs.Ytdpffgcekjdneaa
