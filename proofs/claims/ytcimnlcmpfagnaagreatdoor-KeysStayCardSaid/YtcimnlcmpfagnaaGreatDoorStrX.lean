/- The stream told exactly: Next, Flip, Range, Pick and Some answer as functions of the list and of how many numbers were handed out. Condition: at most 10^12 numbers were. -/
import Derived.Test.YtcimnlcmpfagnaaGreatDoorStream
import Derived.Test.YtcimnlcmpfagnaaGreatDoorStreamStr
namespace Go.Proofs.YtcimnlcmpfagnaaGreatDoor
set_option linter.unusedVariables false
open Go.RowKit

/-- The stream at block b over the numbers L, of which k were handed out; L lies below base. -/
def SX (base : Nat) (w : World) (b : Nat) (L : List Int) (k : Nat) : Prop :=
  ∃ (A : Option Addr) (c : Nat), Blk w b 25 #[.slice A L.length c, .int .i64 (k : Int)] ∧ base ≤ b ∧ L.length ≤ 9223372036854775807 ∧
    (0 < L.length → ∃ ad, A = some ad ∧ ad.block < base ∧ ∀ j, j < L.length → w.cell? (ad.add j) = some (.int .i64 (L.getD j 0)))
theorem SX.lt {base : Nat} {w : World} {b k : Nat} {L : List Int} (h : SX base w b L k) : b < w.heap.size := by
  obtain ⟨A, c, h1, h2, h3, h4⟩ := h
  exact h1.lt
theorem SX.base {base : Nat} {w : World} {b k : Nat} {L : List Int} (h : SX base w b L k) : base ≤ b := by
  obtain ⟨A, c, h1, h2, h3, h4⟩ := h
  exact h2
theorem SX.grown {base : Nat} {w w' : World} {b k : Nat} {L : List Int} (h : SX base w b L k) {row : Option Nat} (hg : w.grownBy w' row) (hr : ∀ g, row = some g → g ≠ b ∧ base ≤ g) : SX base w' b L k := by
  obtain ⟨A, c, h1, h2, h3, h4⟩ := h
  have hlt := h1.lt
  refine ⟨A, c, h1.grown hg (fun e => (hr b e.symm).1 rfl), h2, h3, fun hn => ?_⟩
  obtain ⟨ad, e, hb, hc⟩ := h4 hn
  exact ⟨ad, e, hb, fun j hj => (World.cell?_of_block (hg.block _ (by rw [add_block]; omega) (fun e' => by have := (hr _ e'.symm).2; rw [add_block] at this; omega))).trans (hc j hj)⟩
theorem SX.alloc {base : Nat} {w : World} {b k : Nat} {L : List Int} (h : SX base w b L k) (o : Obj) : SX base (w.alloc o) b L k := h.grown (World.grownBy_alloc w o none) (by simp)
theorem SX.drew {base : Nat} {w : World} {b k : Nat} {L : List Int} (h : SX base w b L k) : SX base w.drew b L k := h
theorem SX.drewN {base : Nat} {w : World} {b k : Nat} {L : List Int} (h : SX base w b L k) (n : Nat) : SX base (w.drewN n) b L k := h
theorem SX.str {base : Nat} {w : World} {b k : Nat} {L : List Int} (h : SX base w b L k) : Str w b k := by
  obtain ⟨A, c, h1, h2, h3, h4⟩ := h
  refine ⟨A, _, c, _, h1, by omega, by omega, h3, fun hn => ?_⟩
  obtain ⟨ad, e, hb, hc⟩ := h4 hn
  exact ⟨ad, e, by omega, fun j hj => ⟨_, hc j hj⟩⟩

/-- What is reduced by 'Next'. -/
def mixV (L : List Int) (k : Nat) : Int :=
  if L.length = 0 then ((k : Int) + 1) * 7919
  else wrap64 (L.getD (k % L.length) 0 % 1073741824 + wrap64 (((k / L.length : Nat) : Int) * wrap64 (7919 + ((k % L.length : Nat) : Int))))
def nextV (L : List Int) (k : Nat) (n : Int) : Int := mixV L k % n
theorem nextV_bd (L : List Int) (k : Nat) {n : Int} (h : 1 ≤ n) : 0 ≤ nextV L k n ∧ nextV L k n < n := ⟨Int.emod_nonneg _ (by omega), Int.emod_lt_of_pos _ (by omega)⟩

theorem tmodX_neg {x n : Int} (h : 1 ≤ n) (hx : x.tmod n < 0) : x.tmod n + n = x % n := by
  have h2 : x.tmod n = x - n * x.tdiv n := by have := Int.mul_tdiv_add_tmod x n; omega
  have h3 := tmod_lo x n h
  have h4 : (x.tmod n + n) % n = x % n := by
    rw [Int.add_emod_right, h2, Int.sub_mul_emod_self_left]
  rw [← h4]
  exact (Int.emod_eq_of_lt (by omega) (by omega)).symm
theorem tmodX_pos {x n : Int} (h : 1 ≤ n) (hx : ¬ x.tmod n < 0) : x.tmod n = x % n := by
  have h2 : x.tmod n = x - n * x.tdiv n := by have := Int.mul_tdiv_add_tmod x n; omega
  have h3 := tmod_lo x n h
  have h4 : (x.tmod n) % n = x % n := by
    rw [h2, Int.sub_mul_emod_self_left]
  rw [← h4]
  exact (Int.emod_eq_of_lt (by omega) (by omega)).symm

set_option maxHeartbeats 400000 in
/-- Below, exactly. -/
theorem below_x (x n : Int) (w : World) (h1 : 1 ≤ n) (h2 : n ≤ 4611686018427387904) :
    Calls Tryz.prog 131 #[.int .i64 x, .int .i64 n] w fun e w' => e = .returned (.int .i64 (x % n)) ∧ w = w' := by
  have ht := tmod_lo x n h1
  obtain ⟨t1, t2⟩ := ht
  have HN := Lib.hid (fun h => tmodX_neg (x := x) h1 h)
  have HP := Lib.hid (fun h => tmodX_pos (x := x) h1 h)
  by_cases hx : x.tmod n < 0
  · go_enter Tryz.func131, Tryz.ntmps131
    go_wp2
    go_ret
    exact ⟨ret_of (HN.out hx), rfl⟩
  · go_enter Tryz.func131, Tryz.ntmps131
    go_wp2
    go_ret
    exact ⟨ret_of (HP.out hx), rfl⟩

def NextXPost (base b : Nat) (L : List Int) (k : Nat) (n : Int) (w : World) (e : Ending) (w' : World) : Prop :=
  e = .returned (.int .i64 (nextV L k n)) ∧ SX base w' b L (k + 1) ∧ w.grownBy w' (some b)

set_option maxHeartbeats 1000000 in
theorem next_x (base b : Nat) (L : List Int) (k : Nat) (n : Int) (w : World) (hs : SX base w b L k) (hk : k ≤ 1000000000000) (h1 : 1 ≤ n) (h2 : n ≤ 4611686018427387904) :
    Calls Tryz.prog 66 #[.pointer (some ⟨b, 0, none⟩), .int .i64 n] w (NextXPost base b L k n w) := by
  obtain ⟨A, c, hb, hbs, hn, hcell⟩ := hs
  have c0 := hb.cell 0
  have c1 := hb.cell 1
  have f1 := hb.free 1
  simp only [List.getElem?_toArray, List.getElem?_cons_zero, List.getElem?_cons_succ] at c0 c1
  obtain ⟨len, hlen⟩ : ∃ len, L.length = len := ⟨_, rfl⟩
  rw [hlen] at hn hcell c0 hb
  rcases Nat.eq_zero_or_pos len with h0 | h0
  · subst h0
    have HV : Hid (nextV L k n = (((k : Int) + 1) * 7919) % n) := by show _ = _; unfold nextV mixV; rw [if_pos hlen]
    have H5 := Lib.hid hcell
    clear hcell
    have HLN := Lib.hid hlen
    clear hlen
    go_enter Tryz.func66, Tryz.ntmps66
    go_wp2_with fail
    refine (below_x _ _ _ h1 h2).mono ?_
    rintro e w' ⟨rfl, rfl⟩
    go_wp2_with fail
    go_ret
    have hb' := hb.put 1 (.int .i64 (k + 1))
    exact ⟨ret_of HV.out.symm, ⟨A, c, by rw [HLN.out]; exact hb', hbs, by rw [HLN.out]; exact hn, fun h => absurd h (by rw [HLN.out]; omega)⟩, gr_put (gr_refl _ _) (.inl rfl) _⟩
  · obtain ⟨ad, rfl, hab, hx⟩ := hcell h0
    have H5 := Lib.hid hcell
    clear hcell
    obtain ⟨i, hi⟩ : ∃ i, k % len = i := ⟨_, rfl⟩
    obtain ⟨r, hr⟩ : ∃ r, k / len = r := ⟨_, rfl⟩
    have hil : i < len := by rw [← hi]; exact Nat.mod_lt _ h0
    have hrk : r ≤ k := by rw [← hr]; exact Nat.div_le_self _ _
    have m1 : (k : Int) % (len : Int) = (i : Int) := by rw [← hi]; exact (Int.natCast_emod _ _).symm
    have m2 : (k : Int) / (len : Int) = (r : Int) := by rw [← hr]; exact (Int.natCast_ediv _ _).symm
    have q0 : 0 ≤ (k : Int) % (len : Int) := by omega
    have q1 : (k : Int) % (len : Int) < (len : Int) := by omega
    have q2 : 0 ≤ (k : Int) / (len : Int) := by omega
    have q3 : (k : Int) / (len : Int) ≤ (k : Int) := by omega
    have hlenb : ((len : Int) == 0) = false := by rw [beq_eq_false_iff_ne]; omega
    have hz := hx i hil
    obtain ⟨z, hzz⟩ : ∃ z, L.getD i 0 = z := ⟨_, rfl⟩
    rw [hzz] at hz
    have hz' : (w.setCell ⟨b, 1, none⟩ (.int .i64 (k + 1))).cell? (ad.add i) = some (.int .i64 z) :=
      (World.cell?_setCell_other w _ _ _ (fun e => by have := add_block ad i; rw [← e] at this; simp at this; omega)).trans hz
    have HV : Hid (nextV L k n = wrap64 (z % 1073741824 + wrap64 ((r : Int) * wrap64 (7919 + (i : Int)))) % n) := by
      show _ = _
      unfold nextV mixV
      rw [if_neg (by omega), hlen, hi, hr, hzz]
    have HX := Lib.hid hx
    have HI := Lib.hid hi
    have HR := Lib.hid hr
    have HLN := Lib.hid hlen
    have HZZ := Lib.hid hzz
    have M1 := Lib.hid m1
    have M2 := Lib.hid m2
    clear hx hz hi hr hlen hzz
    go_enter Tryz.func66, Tryz.ntmps66
    go_wp2_with fail
    go_quiet (fail)
    go_wp2_with fail
    go_quiet (fail)
    go_wp2_with fail
    refine (below_x _ _ _ (by omega) (by omega)).mono ?_
    rintro e w' ⟨rfl, rfl⟩
    go_wp2_with fail
    refine (below_x _ _ _ h1 h2).mono ?_
    rintro e w' ⟨rfl, rfl⟩
    go_wp2_with fail
    go_ret
    have hb' := hb.put 1 (.int .i64 (k + 1))
    exact ⟨ret_of HV.out.symm, ⟨some ad, c, by rw [HLN.out]; exact hb', hbs, by rw [HLN.out]; exact hn, fun _ => ⟨ad, rfl, hab, fun j hj => by
      rw [HLN.out] at hj
      exact (World.cell?_setCell_other w _ _ _ (fun e => by have := add_block ad j; rw [← e] at this; simp at this; omega)).trans (HX.out j hj)⟩⟩,
      by repeat (first | exact gr_put (gr_refl _ _) (.inl rfl) _ | refine gr_drewN ?_ _ | refine gr_drew ?_)⟩

def FlipXPost (base b : Nat) (L : List Int) (k : Nat) (n : Int) (w : World) (e : Ending) (w' : World) : Prop :=
  e = .returned (.bool (decide (nextV L k n = 0))) ∧ SX base w' b L (k + 1) ∧ w.grownBy w' (some b)

set_option maxHeartbeats 400000 in
theorem flip_x (base b : Nat) (L : List Int) (k : Nat) (n : Int) (w : World) (hs : SX base w b L k) (hk : k ≤ 1000000000000) (h1 : 1 ≤ n) (h2 : n ≤ 4611686018427387904) :
    Calls Tryz.prog 55 #[.pointer (some ⟨b, 0, none⟩), .int .i64 n] w (FlipXPost base b L k n w) := by
  have HN := Lib.hid (fun W (h : SX base W b L k) => next_x base b L k n W h hk h1 h2)
  obtain ⟨v, hv⟩ : ∃ v, nextV L k n = v := ⟨_, rfl⟩
  have HV := Lib.hid hv
  by_cases h0 : v = 0
  · have HD : Hid (decide (nextV L k n = 0) = true) := by show _ = _; rw [HV.out]; simpa using h0
    subst h0
    clear hv
    go_enter Tryz.func55, Tryz.ntmps55
    go_wp2_with fail
    refine (HN.out _ hs).mono ?_
    rintro e w1 ⟨rfl, hs1, hg1⟩
    rw [HV.out]
    go_wp2_with fail
    go_ret
    exact ⟨ret_b HD.out.symm, hs1, hg1⟩
  · have HD : Hid (decide (nextV L k n = 0) = false) := by show _ = _; rw [HV.out]; simpa using h0
    have h0b : (v == 0) = false := by simpa using h0
    clear hv
    go_enter Tryz.func55, Tryz.ntmps55
    go_wp2_with fail
    refine (HN.out _ hs).mono ?_
    rintro e w1 ⟨rfl, hs1, hg1⟩
    rw [HV.out]
    go_wp2_with fail
    go_ret
    exact ⟨ret_b HD.out.symm, hs1, hg1⟩

/-- A number from low to high. -/
def rangeV (L : List Int) (k : Nat) (low high : Int) : Int := low + nextV L k (high - low + 1)
theorem rangeV_bd (L : List Int) (k : Nat) {low high : Int} (h : low ≤ high) : low ≤ rangeV L k low high ∧ rangeV L k low high ≤ high := by
  have := nextV_bd L k (n := high - low + 1) (by omega)
  unfold rangeV
  omega
def RangeXPost (base b : Nat) (L : List Int) (k : Nat) (low high : Int) (w : World) (e : Ending) (w' : World) : Prop :=
  e = .returned (.int .i64 (rangeV L k low high)) ∧ SX base w' b L (k + 1) ∧ w.grownBy w' (some b)

set_option maxHeartbeats 400000 in
theorem range_x (base b : Nat) (L : List Int) (k : Nat) (low high : Int) (w : World) (hs : SX base w b L k) (hk : k ≤ 1000000000000) (h1 : -1152921504606846976 ≤ low) (h2 : low ≤ high) (h3 : high ≤ 1152921504606846976) :
    Calls Tryz.prog 42 #[.pointer (some ⟨b, 0, none⟩), .int .i64 low, .int .i64 high] w (RangeXPost base b L k low high w) := by
  have HN := Lib.hid (fun W (h : SX base W b L k) => next_x base b L k (high - low + 1) W h hk (by omega) (by omega))
  have hbd := nextV_bd L k (n := high - low + 1) (by omega)
  obtain ⟨v, hv⟩ : ∃ v, nextV L k (high - low + 1) = v := ⟨_, rfl⟩
  have HV := Lib.hid hv
  have HR : Hid (rangeV L k low high = low + v) := by show _ = _; unfold rangeV; rw [hv]
  rw [hv] at hbd
  clear hv
  go_enter Tryz.func42, Tryz.ntmps42
  go_wp2_with fail
  refine (HN.out _ hs).mono ?_
  rintro e w1 ⟨rfl, hs1, hg1⟩
  rw [HV.out]
  go_wp2_with fail
  go_ret
  exact ⟨ret_of HR.out.symm, hs1, hg1⟩

/-- One of the numbers. -/
def pickV (L : List Int) (k : Nat) (xs : List Int) : Int := xs.getD (nextV L k (xs.length : Int)).toNat 0
theorem pickV_mem (L : List Int) (k : Nat) {xs : List Int} (h : 0 < xs.length) : pickV L k xs ∈ xs := by
  have := nextV_bd L k (n := (xs.length : Int)) (by omega)
  unfold pickV
  rw [List.getD_eq_getElem?_getD, List.getElem?_eq_getElem (by omega)]
  exact List.getElem_mem _
def PickXPost (base b : Nat) (L : List Int) (k : Nat) (xs : List Int) (w : World) (e : Ending) (w' : World) : Prop :=
  e = .returned (.int .i64 (pickV L k xs)) ∧ SX base w' b L (k + 1) ∧ w.grownBy w' (some b)

set_option maxHeartbeats 400000 in
theorem pick_x (base b : Nat) (L : List Int) (k g m c : Nat) (xs : List Int) (w : World) (hs : SX base w b L k) (hk : k ≤ 1000000000000) (hg : Blk w g 3 (xs.map (Value.int .i64)).toArray) (hne : g ≠ b) (hm : m = xs.length) (h1 : 1 ≤ m) (h2 : m ≤ 1000) :
    Calls Tryz.prog 12 #[.pointer (some ⟨b, 0, none⟩), .slice (some ⟨g, 0, none⟩) m c] w (PickXPost base b L k xs w) := by
  subst hm
  have HN := Lib.hid (fun W (h : SX base W b L k) => next_x base b L k (xs.length : Int) W h hk (by omega) (by omega))
  have hbd := nextV_bd L k (n := (xs.length : Int)) (by omega)
  obtain ⟨v, hv⟩ : ∃ v, nextV L k (xs.length : Int) = v := ⟨_, rfl⟩
  rw [hv] at hbd
  obtain ⟨hv0, hv1⟩ := hbd
  obtain ⟨i, rfl⟩ := Int.eq_ofNat_of_zero_le hv0
  have HV := Lib.hid hv
  have hi : i < xs.length := by omega
  obtain ⟨z, hz⟩ : ∃ z, xs[i] = z := ⟨_, rfl⟩
  have HR : Hid (pickV L k xs = z) := by
    show _ = _
    unfold pickV
    rw [hv, List.getD_eq_getElem?_getD, Int.toNat_natCast, List.getElem?_eq_getElem hi]
    exact hz
  have HC : Hid (∀ W : World, w.grownBy W (some b) → W.cell? ⟨g, i, none⟩ = some (.int .i64 z)) := fun W hW => by
    rw [(hg.grown hW (by simpa using hne)).cell i, getD_of hi, hz]
  clear hv hz
  generalize hM : xs.length = M at *
  have HMM := Lib.hid hM
  clear hM
  go_enter Tryz.func12, Tryz.ntmps12
  go_wp2_with fail
  refine (HN.out _ hs).mono ?_
  rintro e w1 ⟨rfl, hs1, hg1⟩
  have hc := HC.out _ hg1
  rw [HV.out]
  go_wp2_with fail
  go_ret
  exact ⟨ret_of HR.out.symm, hs1, hg1⟩
theorem pick_xat (base b : Nat) (L : List Int) (k g m c : Nat) (xs : List Int) (w : World) (hs : SX base w b L k) (hg : g = w.heap.size) (hk : k ≤ 1000000000000) (hm : m = xs.length) (h1 : 1 ≤ m) (h2 : m ≤ 1000) :
    Calls Tryz.prog 12 #[.pointer (some ⟨b, 0, none⟩), .slice (some ⟨g, 0, none⟩) m c] (w.alloc (.cells (xs.map (Value.int .i64)).toArray 3)) (PickXPost base b L k xs w) := by
  subst hg
  exact (pick_x base b L k _ m c xs _ (hs.alloc _) hk (Blk.new _ _ _) (by have := hs.lt; omega) hm h1 h2).mono fun e w' ⟨he, hs', hg⟩ =>
    ⟨he, hs', gr_trans (World.grownBy_alloc w _ _) hg⟩

/-- One of the strings. -/
def someV (L : List Int) (k : Nat) (xs : List ByteArray) : ByteArray := xs.getD (nextV L k (xs.length : Int)).toNat default
theorem someV_mem (L : List Int) (k : Nat) {xs : List ByteArray} (h : 0 < xs.length) : someV L k xs ∈ xs := by
  have := nextV_bd L k (n := (xs.length : Int)) (by omega)
  unfold someV
  rw [List.getD_eq_getElem?_getD, List.getElem?_eq_getElem (by omega)]
  exact List.getElem_mem _
def SomeXPost (base b : Nat) (L : List Int) (k : Nat) (xs : List ByteArray) (w : World) (e : Ending) (w' : World) : Prop :=
  e = .returned (.string (someV L k xs)) ∧ SX base w' b L (k + 1) ∧ w.grownBy w' (some b)
set_option maxHeartbeats 400000 in
theorem some_x (base b : Nat) (L : List Int) (k g m c : Nat) (xs : List ByteArray) (w : World) (hs : SX base w b L k) (hk : k ≤ 1000000000000) (hg : Blk w g 9 (xs.map Value.string).toArray) (hne : g ≠ b) (hm : m = xs.length) (h1 : 1 ≤ m) (h2 : m ≤ 1000) :
    Calls Tryz.prog 49 #[.pointer (some ⟨b, 0, none⟩), .slice (some ⟨g, 0, none⟩) m c] w (SomeXPost base b L k xs w) := by
  subst hm
  have HN := Lib.hid (fun W (h : SX base W b L k) => next_x base b L k (xs.length : Int) W h hk (by omega) (by omega))
  have hbd := nextV_bd L k (n := (xs.length : Int)) (by omega)
  obtain ⟨v, hv⟩ : ∃ v, nextV L k (xs.length : Int) = v := ⟨_, rfl⟩
  rw [hv] at hbd
  obtain ⟨hv0, hv1⟩ := hbd
  obtain ⟨i, rfl⟩ := Int.eq_ofNat_of_zero_le hv0
  have HV := Lib.hid hv
  have hi : i < xs.length := by omega
  obtain ⟨z, hz⟩ : ∃ z, xs[i] = z := ⟨_, rfl⟩
  have HR : Hid (someV L k xs = z) := by
    show _ = _
    unfold someV
    rw [hv, List.getD_eq_getElem?_getD, Int.toNat_natCast, List.getElem?_eq_getElem hi]
    exact hz
  have HC : Hid (∀ W : World, w.grownBy W (some b) → W.cell? ⟨g, i, none⟩ = some (.string z)) := fun W hW => by
    rw [(hg.grown hW (by simpa using hne)).cell i, getS_of hi, hz]
  clear hv hz
  generalize hM : xs.length = M at *
  have HMM := Lib.hid hM
  clear hM
  go_enter Tryz.func49, Tryz.ntmps49
  go_wp2_with fail
  refine (HN.out _ hs).mono ?_
  rintro e w1 ⟨rfl, hs1, hg1⟩
  have hc := HC.out _ hg1
  rw [HV.out]
  go_wp2_with fail
  go_ret
  exact ⟨by rw [HR.out]; rfl, hs1, hg1⟩
theorem some_xat (base b : Nat) (L : List Int) (k g m c : Nat) (xs : List ByteArray) (w : World) (hs : SX base w b L k) (hg : g = w.heap.size) (hk : k ≤ 1000000000000) (hm : m = xs.length) (h1 : 1 ≤ m) (h2 : m ≤ 1000) :
    Calls Tryz.prog 49 #[.pointer (some ⟨b, 0, none⟩), .slice (some ⟨g, 0, none⟩) m c] (w.alloc (.cells (xs.map Value.string).toArray 9)) (SomeXPost base b L k xs w) := by
  subst hg
  exact (some_x base b L k _ m c xs _ (hs.alloc _) hk (Blk.new _ _ _) (by have := hs.lt; omega) hm h1 h2).mono fun e w' ⟨he, hs', hg⟩ =>
    ⟨he, hs', gr_trans (World.grownBy_alloc w _ _) hg⟩

/-! ### The same with the value under a name, the equation hidden. -/
def NextEPost (base b : Nat) (L : List Int) (k : Nat) (n : Int) (w : World) (e : Ending) (w' : World) : Prop :=
  ∃ v : Int, 0 ≤ v ∧ v < n ∧ Hid (nextV L k n = v) ∧ e = .returned (.int .i64 v) ∧ SX base w' b L (k + 1) ∧ w.grownBy w' (some b)
theorem next_e (base b : Nat) (L : List Int) (k : Nat) (n : Int) (w : World) (hs : SX base w b L k) (hk : k ≤ 1000000000000) (h1 : 1 ≤ n) (h2 : n ≤ 4611686018427387904) :
    Calls Tryz.prog 66 #[.pointer (some ⟨b, 0, none⟩), .int .i64 n] w (NextEPost base b L k n w) :=
  (next_x base b L k n w hs hk h1 h2).mono fun e w' ⟨he, hs', hg⟩ => ⟨_, (nextV_bd L k h1).1, (nextV_bd L k h1).2, (rfl : _ = _), he, hs', hg⟩
def FlipEPost (base b : Nat) (L : List Int) (k : Nat) (n : Int) (w : World) (e : Ending) (w' : World) : Prop :=
  ∃ v : Bool, Hid (decide (nextV L k n = 0) = v) ∧ e = .returned (.bool v) ∧ SX base w' b L (k + 1) ∧ w.grownBy w' (some b)
theorem flip_e (base b : Nat) (L : List Int) (k : Nat) (n : Int) (w : World) (hs : SX base w b L k) (hk : k ≤ 1000000000000) (h1 : 1 ≤ n) (h2 : n ≤ 4611686018427387904) :
    Calls Tryz.prog 55 #[.pointer (some ⟨b, 0, none⟩), .int .i64 n] w (FlipEPost base b L k n w) :=
  (flip_x base b L k n w hs hk h1 h2).mono fun e w' ⟨he, hs', hg⟩ => ⟨_, (rfl : _ = _), he, hs', hg⟩
def RangeEPost (base b : Nat) (L : List Int) (k : Nat) (low high : Int) (w : World) (e : Ending) (w' : World) : Prop :=
  ∃ v : Int, low ≤ v ∧ v ≤ high ∧ Hid (rangeV L k low high = v) ∧ e = .returned (.int .i64 v) ∧ SX base w' b L (k + 1) ∧ w.grownBy w' (some b)
theorem range_e (base b : Nat) (L : List Int) (k : Nat) (low high : Int) (w : World) (hs : SX base w b L k) (hk : k ≤ 1000000000000) (h1 : -1152921504606846976 ≤ low) (h2 : low ≤ high) (h3 : high ≤ 1152921504606846976) :
    Calls Tryz.prog 42 #[.pointer (some ⟨b, 0, none⟩), .int .i64 low, .int .i64 high] w (RangeEPost base b L k low high w) :=
  (range_x base b L k low high w hs hk h1 h2 h3).mono fun e w' ⟨he, hs', hg⟩ => ⟨_, (rangeV_bd L k h2).1, (rangeV_bd L k h2).2, (rfl : _ = _), he, hs', hg⟩
def PickEPost (base b : Nat) (L : List Int) (k : Nat) (xs : List Int) (w : World) (e : Ending) (w' : World) : Prop :=
  ∃ v : Int, v ∈ xs ∧ Hid (pickV L k xs = v) ∧ e = .returned (.int .i64 v) ∧ SX base w' b L (k + 1) ∧ w.grownBy w' (some b)
theorem pick_e (base b : Nat) (L : List Int) (k g m c : Nat) (xs : List Int) (w : World) (hs : SX base w b L k) (hk : k ≤ 1000000000000) (hg : Blk w g 3 (xs.map (Value.int .i64)).toArray) (hne : g ≠ b) (hm : m = xs.length) (h1 : 1 ≤ m) (h2 : m ≤ 1000) :
    Calls Tryz.prog 12 #[.pointer (some ⟨b, 0, none⟩), .slice (some ⟨g, 0, none⟩) m c] w (PickEPost base b L k xs w) :=
  (pick_x base b L k g m c xs w hs hk hg hne hm h1 h2).mono fun e w' ⟨he, hs', hg⟩ => ⟨_, pickV_mem L k (by omega), (rfl : _ = _), he, hs', hg⟩
theorem pick_eat (base b : Nat) (L : List Int) (k g m c : Nat) (xs : List Int) (w : World) (hs : SX base w b L k) (hg : g = w.heap.size) (hk : k ≤ 1000000000000) (hm : m = xs.length) (h1 : 1 ≤ m) (h2 : m ≤ 1000) :
    Calls Tryz.prog 12 #[.pointer (some ⟨b, 0, none⟩), .slice (some ⟨g, 0, none⟩) m c] (w.alloc (.cells (xs.map (Value.int .i64)).toArray 3)) (PickEPost base b L k xs w) :=
  (pick_xat base b L k g m c xs w hs hg hk hm h1 h2).mono fun e w' ⟨he, hs', hg⟩ => ⟨_, pickV_mem L k (by omega), (rfl : _ = _), he, hs', hg⟩
def SomeEPost (base b : Nat) (L : List Int) (k : Nat) (xs : List ByteArray) (w : World) (e : Ending) (w' : World) : Prop :=
  ∃ v : ByteArray, v ∈ xs ∧ Hid (someV L k xs = v) ∧ e = .returned (.string v) ∧ SX base w' b L (k + 1) ∧ w.grownBy w' (some b)
theorem some_e (base b : Nat) (L : List Int) (k g m c : Nat) (xs : List ByteArray) (w : World) (hs : SX base w b L k) (hk : k ≤ 1000000000000) (hg : Blk w g 9 (xs.map Value.string).toArray) (hne : g ≠ b) (hm : m = xs.length) (h1 : 1 ≤ m) (h2 : m ≤ 1000) :
    Calls Tryz.prog 49 #[.pointer (some ⟨b, 0, none⟩), .slice (some ⟨g, 0, none⟩) m c] w (SomeEPost base b L k xs w) :=
  (some_x base b L k g m c xs w hs hk hg hne hm h1 h2).mono fun e w' ⟨he, hs', hg⟩ => ⟨_, someV_mem L k (by omega), (rfl : _ = _), he, hs', hg⟩
theorem some_eat (base b : Nat) (L : List Int) (k g m c : Nat) (xs : List ByteArray) (w : World) (hs : SX base w b L k) (hg : g = w.heap.size) (hk : k ≤ 1000000000000) (hm : m = xs.length) (h1 : 1 ≤ m) (h2 : m ≤ 1000) :
    Calls Tryz.prog 49 #[.pointer (some ⟨b, 0, none⟩), .slice (some ⟨g, 0, none⟩) m c] (w.alloc (.cells (xs.map Value.string).toArray 9)) (SomeEPost base b L k xs w) :=
  (some_xat base b L k g m c xs w hs hg hk hm h1 h2).mono fun e w' ⟨he, hs', hg⟩ => ⟨_, someV_mem L k (by omega), (rfl : _ = _), he, hs', hg⟩

/-- The numbers that came in, told exactly. -/
def InX (w : World) (A : Option Addr) (n : Nat) : Prop :=
  n ≤ 9223372036854775807 ∧ ∃ L : List Int, L.length = n ∧ (0 < n → ∃ ad, A = some ad ∧ ad.block < w.heap.size ∧ ∀ j, j < n → w.cell? (ad.add j) = some (.int .i64 (L.getD j 0)))
theorem SX.start {w w' : World} {A : Option Addr} {n c b : Nat} {L : List Int} (hn : n ≤ 9223372036854775807) (hL : L.length = n) (h : 0 < n → ∃ ad, A = some ad ∧ ad.block < w.heap.size ∧ ∀ j, j < n → w.cell? (ad.add j) = some (.int .i64 (L.getD j 0)))
    (hg : w.grownBy w' none) (hb : Blk w' b 25 #[.slice A n c, .int .i64 0]) (hbs : w.heap.size ≤ b) : SX w.heap.size w' b L 0 := by
  subst hL
  refine ⟨A, c, hb, hbs, hn, fun h0 => ?_⟩
  obtain ⟨ad, e, hlt, hc⟩ := h h0
  exact ⟨ad, e, hlt, fun j hj => (World.cell?_of_block (hg.block _ (by rw [add_block]; exact hlt) (by simp))).trans (hc j hj)⟩
end Go.Proofs.YtcimnlcmpfagnaaGreatDoor
