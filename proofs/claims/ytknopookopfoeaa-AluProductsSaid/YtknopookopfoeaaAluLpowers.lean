/- The walk of AluPowers. -/
import Derived.Test.YtknopookopfoeaaAluLa
import Derived.Test.YtknopookopfoeaaAluI
namespace Go.Proofs.Ytknopookopfoeaa.AluL
open Go.RowKit Go.Proofs.Ytknopookopfoeaa.AluMath Go.Proofs.Ytknopookopfoeaa.Alu

theorem hi_word (x y X Y : Int) (hx0 : -9223372036854775808 ≤ x) (hx1 : x < 9223372036854775808) (hy0 : -9223372036854775808 ≤ y) (hy1 : y < 9223372036854775808) (hX : X = x % 18446744073709551616) (hY : Y = y % 18446744073709551616) :
    (if decide (y < 0) = true then IntKind.u64.wrap ((if decide (x < 0) = true then IntKind.u64.wrap (X * Y / 18446744073709551616 - Y) else X * Y / 18446744073709551616) - X)
      else (if decide (x < 0) = true then IntKind.u64.wrap (X * Y / 18446744073709551616 - Y) else X * Y / 18446744073709551616)) = (x * y / 18446744073709551616) % 18446744073709551616 := by
  simp only [decide_eq_true_eq, IntKind.wrap_u64]
  by_cases h1 : x < 0 <;> by_cases h2 : y < 0
  · have eX : X = x + 18446744073709551616 := by omega
    have eY : Y = y + 18446744073709551616 := by omega
    have e : X * Y = x * y + 18446744073709551616 * (x + y + 18446744073709551616) := by rw [eX, eY]; grind
    rw [if_pos h2, if_pos h1, e, Int.add_mul_ediv_left _ _ (by decide)]
    generalize x * y / 18446744073709551616 = q
    omega
  · have eX : X = x + 18446744073709551616 := by omega
    have eY : Y = y := by omega
    have e : X * Y = x * y + 18446744073709551616 * y := by rw [eX, eY]; grind
    rw [if_neg h2, if_pos h1, e, Int.add_mul_ediv_left _ _ (by decide)]
    generalize x * y / 18446744073709551616 = q
    omega
  · have eX : X = x := by omega
    have eY : Y = y + 18446744073709551616 := by omega
    have e : X * Y = x * y + 18446744073709551616 * x := by rw [eX, eY]; grind
    rw [if_pos h2, if_neg h1, e, Int.add_mul_ediv_left _ _ (by decide)]
    generalize x * y / 18446744073709551616 = q
    omega
  · have eX : X = x := by omega
    have eY : Y = y := by omega
    rw [if_neg h2, if_neg h1, eX, eY]
    have h3 : 0 ≤ x * y := Int.mul_nonneg (by omega) (by omega)
    have h4 : x * y ≤ 9223372036854775807 * 9223372036854775807 := Int.mul_le_mul (by omega) (by omega) (by omega) (by decide)
    omega

theorem wrap_back (X : Nat) (hX : X < M64) : (X : Int) = wrap64 (X : Int) % 18446744073709551616 := by
  unfold wrap64
  unfold M64 at hX
  omega
theorem sign_word (x : Nat) (hx : x < M64) : ((if x < 9223372036854775808 then 0 else 18446744073709551615 : Int)) = IntKind.u64.wrap (wrap64 (x : Int) / 9223372036854775808) := by
  rw [IntKind.wrap_u64]
  unfold wrap64
  unfold M64 at hx
  split <;> omega

set_option maxHeartbeats 1000000 in
theorem mul_ok (size : Int) (n : Nat) (hS : SZ size n) (a b : Nat) (ha : a < M64) (hb : b < M64) (w : World) :
    Calls Try.prog 32 #[.int .u64 (a : Int), .int .u64 (b : Int), .int .i64 size] w fun e w' =>
      e = .returned (.tuple #[.int .u64 (mulR n (a % 2 ^ n) (b % 2 ^ n) : Nat), flagsV n (mulR n (a % 2 ^ n) (b % 2 ^ n)) (mulO n (a % 2 ^ n) (b % 2 ^ n)) (mulO n (a % 2 ^ n) (b % 2 ^ n)), .int .i64 0]) ∧ Below w.heap.size w w' := by
  have hn := hS.cases
  have hn64 : n ≤ 64 := by omega
  have hA : a % 2 ^ n < 2 ^ n := Nat.mod_lt _ (Nat.two_pow_pos n)
  have hB : b % 2 ^ n < 2 ^ n := Nat.mod_lt _ (Nat.two_pow_pos n)
  have hma := mask_eq n a _ rfl hn64 ha
  have hmb := mask_eq n b _ rfl hn64 hb
  generalize a % 2 ^ n = A at *
  generalize b % 2 ^ n = B at *
  have sA := sI_eq n A hn hA
  have sB := sI_eq n B hn hB
  have hX := sext_lt n A hn hA
  have hY := sext_lt n B hn hB
  have bA := sI_bounds n A hn hA
  have bB := sI_bounds n B hn hB
  have hp63 : (2 ^ (n - 1) : Nat) ≤ 9223372036854775808 := Nat.pow_le_pow_right (n := 2) (by decide) (show n - 1 ≤ 63 by omega)
  have hlo : mulLo n A B < M64 := by unfold mulLo M64; omega
  have eX : (sext n A : Int) = sI n A % 18446744073709551616 := by rw [← sA]; exact wrap_back _ hX
  have eY : (sext n B : Int) = sI n B % 18446744073709551616 := by rw [← sB]; exact wrap_back _ hY
  have elo : ((sext n A * sext n B % M64 : Nat) : Int) = (mulLo n A B : Int) := by
    unfold mulLo
    rw [Int.natCast_emod, Int.natCast_mul, eX, eY]
    have : ((M64 : Nat) : Int) = 18446744073709551616 := rfl
    rw [this, ← Int.mul_emod]
    omega
  have elo' : sext n A * sext n B % M64 = mulLo n A B := Int.natCast_inj.mp elo
  have hM := fun w => mul64_calls (sext n A) (sext n B) _ _ hX hY rfl rfl w
  rw [elo'] at hM
  refine mul_core size n hS a b w hn A B (sext n A) (sext n B) _ (mulHi n A B) (mulLo n A B) (mulR n A B) _ _ _ _ hma hmb (fun w => signed_calls n hn A hA w) (fun w => signed_calls n hn B hB w) hM rfl rfl ?_
    (mask_eq n _ _ rfl hn64 hlo) (Nat.mod_lt _ (Nat.two_pow_pos n)) hlo (hid rfl) rfl ?_
  · rw [sA, sB]
    have h := hi_word (sI n A) (sI n B) (sext n A) (sext n B) (by omega) (by omega) (by omega) (by omega) eX eY
    have e0 : ((sext n A * sext n B / M64 : Nat) : Int) = (sext n A : Int) * (sext n B : Int) / 18446744073709551616 := by rw [Int.natCast_ediv, Int.natCast_mul]; rfl
    rw [e0, h]
    unfold mulHi
    omega
  · rw [← sign_word _ hlo]

theorem cnt_of (x m : Int) (h0 : 1 ≤ m) (h1 : m ≤ 63) : ∃ k : Nat, (wrap64 (wrap64 (x.tmod m + (m + 1)) - 1)).tmod m = (k : Int) ∧ (k : Int) < m := by
  have b1 : x.tmod m < m := Int.tmod_lt_of_pos x (by omega)
  have b2 : -m < x.tmod m := by
    have := Int.tmod_lt_of_pos (-x) (show 0 < m by omega)
    rw [Int.neg_tmod] at this
    omega
  generalize x.tmod m = q at *
  have e : wrap64 (wrap64 (q + (m + 1)) - 1) = q + m := by unfold wrap64; omega
  rw [e, Int.tmod_eq_emod_of_nonneg (by omega)]
  have b3 := Int.emod_nonneg (q + m) (show m ≠ 0 by omega)
  have b4 := Int.emod_lt_of_pos (q + m) (show 0 < m by omega)
  exact ⟨((q + m) % m).toNat, by omega, by omega⟩

theorem powers_mul (n t k : Nat) (hn : n = 8 ∨ n = 32 ∨ n = 64) (ht : t < 2 ^ n) (hk : k < n - 1) : mulR n t (2 ^ k % 2 ^ n) = t * 2 ^ k % 2 ^ n := by
  have h2 : 2 ^ k < 2 ^ (n - 1) := Nat.pow_lt_pow_right (by decide) hk
  have h3 : 2 ^ n = 2 ^ (n - 1) * 2 := by rw [← Nat.pow_succ]; congr 1; omega
  rw [Nat.mod_eq_of_lt (show 2 ^ k < 2 ^ n by omega)]
  have hs : sI n (2 ^ k) = ((2 ^ k : Nat) : Int) := by
    unfold sI topB
    rw [Nat.div_eq_of_lt h2]
    simp
  have hn64 : n ≤ 64 := by omega
  unfold mulR mulLo
  rw [hs]
  have hd : ((2 ^ n : Nat) : Int) ∣ 18446744073709551616 := by
    have := pow_dvd_M64 hn64
    exact Int.natCast_dvd_natCast.2 this
  have ht2 : sI n t % ((2 ^ n : Nat) : Int) = (t : Int) := by
    unfold sI
    have e : ((2 : Int) ^ n) = ((2 ^ n : Nat) : Int) := by simp
    split
    · rw [e, Int.sub_emod, Int.emod_self, Int.sub_zero, Int.emod_emod_of_dvd _ (Int.dvd_refl _), Int.emod_eq_of_lt (by omega) (by omega)]
    · exact Int.emod_eq_of_lt (by omega) (by omega)
  have key : (((sI n t * ((2 ^ k : Nat) : Int)) % 18446744073709551616).toNat % 2 ^ n : Nat) = t * 2 ^ k % 2 ^ n := by
    apply Int.natCast_inj.mp
    rw [Int.natCast_emod, Int.natCast_emod, Int.natCast_mul, Int.toNat_of_nonneg (Int.emod_nonneg _ (by decide)), Int.emod_emod_of_dvd _ hd, Int.mul_emod, ht2, Int.mul_emod (t : Int), Int.emod_emod_of_dvd _ (Int.dvd_refl _)]
    have e6 : (t : Int) % ((2 ^ n : Nat) : Int) = (t : Int) := Int.emod_eq_of_lt (by omega) (by omega)
    rw [e6]
    rw [Int.mul_emod, Int.emod_emod_of_dvd _ (Int.dvd_refl _), ← Int.mul_emod]
  exact key

theorem powers_sar (n t k : Nat) (hn : n = 8 ∨ n = 32 ∨ n = 64) (ht : t < 2 ^ n) : ∃ z : Nat, z < M64 ∧ IntKind.u64.wrap (wrap64 (sext n t : Int) / 2 ^ k) = (z : Int) ∧ z % 2 ^ n = sarR n t k := by
  rw [sI_eq n t hn ht, IntKind.wrap_u64]
  refine ⟨((sI n t / 2 ^ k) % 18446744073709551616).toNat, by unfold M64; omega, by omega, ?_⟩
  unfold sarR
  generalize sI n t / 2 ^ k = s
  rcases hn with rfl | rfl | rfl <;> simp <;> omega

set_option maxHeartbeats 4000000 in
set_option maxRecDepth 100000 in
theorem powers_core1 (a t xv uv vv z p k : Nat) (s : Nat) (x : Int) (g0 g1 g2 g3 g4 d0 d1 d2 d3 d4 e0 e1 e2 e3 e4 f0 f1 f2 f3 f4 : Bool) (w : World)
    (hk : (wrap64 (wrap64 (x.tmod 7 + 8) - 1)).tmod 7 = (k : Int)) (_hk0 : (0 : Int) ≤ k) (hk6 : (k : Int) ≤ 6)
    (c1 : ∀ w : World, Calls Try.prog 25 #[.int .u64 (a : Int), .int .i64 1] w fun e w' => e = .returned (.tuple #[.int .u64 (t : Int), .int .i64 0]) ∧ Below w.heap.size w w')
    (c2 : ∀ w : World, Calls Try.prog 30 #[.int .i64 17, .int .u64 (a : Int), .int .i64 (k : Int), fl false false false false false, .int .i64 1] w fun e w' => e = .returned (.tuple #[.int .u64 (xv : Int), fl g0 g1 g2 g3 g4, .int .i64 0]) ∧ Below w.heap.size w w')
    (hw : IntKind.u64.wrap ((2 : Int) ^ k) = (p : Int))
    (cm : ∀ w : World, Calls Try.prog 32 #[.int .u64 (a : Int), .int .u64 (p : Int), .int .i64 1] w fun e w' => e = .returned (.tuple #[.int .u64 (xv : Int), fl d0 d1 d2 d3 d4, .int .i64 0]) ∧ Below w.heap.size w w')
    (c3 : ∀ w : World, Calls Try.prog 30 #[.int .i64 18, .int .u64 (a : Int), .int .i64 (k : Int), fl false false false false false, .int .i64 1] w fun e w' => e = .returned (.tuple #[.int .u64 (uv : Int), fl e0 e1 e2 e3 e4, .int .i64 0]) ∧ Below w.heap.size w w')
    (c4 : ∀ w : World, Calls Try.prog 30 #[.int .i64 19, .int .u64 (a : Int), .int .i64 (k : Int), fl false false false false false, .int .i64 1] w fun e w' => e = .returned (.tuple #[.int .u64 (vv : Int), fl f0 f1 f2 f3 f4, .int .i64 0]) ∧ Below w.heap.size w w')
    (c5 : ∀ w : World, Calls Try.prog 27 #[.int .u64 (a : Int), .int .i64 1] w fun e w' => e = .returned (.tuple #[.int .u64 (s : Int), .int .i64 0]) ∧ Below w.heap.size w w')
    (hz : IntKind.u64.wrap (wrap64 (s : Int) / 2 ^ k) = (z : Int)) (hu : (t : Int) / 2 ^ k = (uv : Int))
    (c6 : ∀ w : World, Calls Try.prog 25 #[.int .u64 (z : Int), .int .i64 1] w fun e w' => e = .returned (.tuple #[.int .u64 (vv : Int), .int .i64 0]) ∧ Below w.heap.size w w') :
    Calls Try.prog 11 #[.int .u64 (a : Int), .int .i64 x, .int .i64 1] w fun e w' => e = .returned (.bool true) ∧ Below w.heap.size w w' := by
  go_enter Try.func11, Try.ntmps11
  go_wp2_with fail
  (with_reducible refine (c1 _).mono ?_)
  rintro e w1 ⟨rfl, hb1⟩
  obtain ⟨hc1, hf1, hz1⟩ := bcell hb1
  try simp at hz1
  try have hl0_1 : w.heap.size < w1.heap.size := by omega
  try have hn0_1 : ¬ w.heap.size = w1.heap.size := by omega
  try have ho0_1 : ¬ w1.heap.size = w.heap.size := by omega
  try have hm0_1 : w.heap.size + 1 < w1.heap.size := by omega
  have hB1 := Below.trans (B := w.heap.size) (a := w) (by (repeat' (first | (with_reducible exact Below.refl _ _) | (with_reducible assumption) | (with_reducible refine Below.alloc ?_ ?_ _) | (with_reducible refine Below.drew ?_) | (with_reducible refine below_drewN ?_ _) | (with_reducible refine Below.setCell ?_ ?_ _) | (first | (with_reducible exact Nat.le_refl _) | (with_reducible assumption) | omega | (simp; omega) | (simp; done))))) (hb1.mono (by (first | (with_reducible exact Nat.le_refl _) | (with_reducible assumption) | omega | (simp; omega) | (simp; done))))
  clear hb1
  go_wp2_with ((go_at_call 14; (with_reducible refine (num_calls _ _).mono ?_); rintro e w' ⟨rfl, rfl⟩))
  go_wp2_with fail
  (with_reducible refine (c2 _).mono ?_)
  rintro e w2 ⟨rfl, hb2⟩
  obtain ⟨hc2, hf2, hz2⟩ := bcell hb2
  try simp at hz2
  try have hl0_2 : w.heap.size < w2.heap.size := by omega
  try have hn0_2 : ¬ w.heap.size = w2.heap.size := by omega
  try have ho0_2 : ¬ w2.heap.size = w.heap.size := by omega
  try have hm0_2 : w.heap.size + 1 < w2.heap.size := by omega
  try have hl1_2 : w1.heap.size < w2.heap.size := by omega
  try have hn1_2 : ¬ w1.heap.size = w2.heap.size := by omega
  try have ho1_2 : ¬ w2.heap.size = w1.heap.size := by omega
  have hB2 := Below.trans (B := w.heap.size) (a := w) (by (repeat' (first | (with_reducible exact Below.refl _ _) | (with_reducible assumption) | (with_reducible refine Below.alloc ?_ ?_ _) | (with_reducible refine Below.drew ?_) | (with_reducible refine below_drewN ?_ _) | (with_reducible refine Below.setCell ?_ ?_ _) | (first | (with_reducible exact Nat.le_refl _) | (with_reducible assumption) | omega | (simp; omega) | (simp; done))))) (hb2.mono (by (first | (with_reducible exact Nat.le_refl _) | (with_reducible assumption) | omega | (simp; omega) | (simp; done))))
  clear hb2
  go_wp2_with fail
  (with_reducible refine (cm _).mono ?_)
  rintro e w3 ⟨rfl, hb3⟩
  obtain ⟨hc3, hf3, hz3⟩ := bcell hb3
  try simp at hz3
  try have hl0_3 : w.heap.size < w3.heap.size := by omega
  try have hn0_3 : ¬ w.heap.size = w3.heap.size := by omega
  try have ho0_3 : ¬ w3.heap.size = w.heap.size := by omega
  try have hm0_3 : w.heap.size + 1 < w3.heap.size := by omega
  try have hl1_3 : w1.heap.size < w3.heap.size := by omega
  try have hn1_3 : ¬ w1.heap.size = w3.heap.size := by omega
  try have ho1_3 : ¬ w3.heap.size = w1.heap.size := by omega
  try have hl2_3 : w2.heap.size < w3.heap.size := by omega
  try have hn2_3 : ¬ w2.heap.size = w3.heap.size := by omega
  try have ho2_3 : ¬ w3.heap.size = w2.heap.size := by omega
  have hB3 := Below.trans (B := w.heap.size) (a := w) (by (repeat' (first | (with_reducible exact Below.refl _ _) | (with_reducible assumption) | (with_reducible refine Below.alloc ?_ ?_ _) | (with_reducible refine Below.drew ?_) | (with_reducible refine below_drewN ?_ _) | (with_reducible refine Below.setCell ?_ ?_ _) | (first | (with_reducible exact Nat.le_refl _) | (with_reducible assumption) | omega | (simp; omega) | (simp; done))))) (hb3.mono (by (first | (with_reducible exact Nat.le_refl _) | (with_reducible assumption) | omega | (simp; omega) | (simp; done))))
  clear hb3
  go_wp2_with fail
  (with_reducible refine (c3 _).mono ?_)
  rintro e w4 ⟨rfl, hb4⟩
  obtain ⟨hc4, hf4, hz4⟩ := bcell hb4
  try simp at hz4
  try have hl0_4 : w.heap.size < w4.heap.size := by omega
  try have hn0_4 : ¬ w.heap.size = w4.heap.size := by omega
  try have ho0_4 : ¬ w4.heap.size = w.heap.size := by omega
  try have hm0_4 : w.heap.size + 1 < w4.heap.size := by omega
  try have hl1_4 : w1.heap.size < w4.heap.size := by omega
  try have hn1_4 : ¬ w1.heap.size = w4.heap.size := by omega
  try have ho1_4 : ¬ w4.heap.size = w1.heap.size := by omega
  try have hl2_4 : w2.heap.size < w4.heap.size := by omega
  try have hn2_4 : ¬ w2.heap.size = w4.heap.size := by omega
  try have ho2_4 : ¬ w4.heap.size = w2.heap.size := by omega
  try have hl3_4 : w3.heap.size < w4.heap.size := by omega
  try have hn3_4 : ¬ w3.heap.size = w4.heap.size := by omega
  try have ho3_4 : ¬ w4.heap.size = w3.heap.size := by omega
  have hB4 := Below.trans (B := w.heap.size) (a := w) (by (repeat' (first | (with_reducible exact Below.refl _ _) | (with_reducible assumption) | (with_reducible refine Below.alloc ?_ ?_ _) | (with_reducible refine Below.drew ?_) | (with_reducible refine below_drewN ?_ _) | (with_reducible refine Below.setCell ?_ ?_ _) | (first | (with_reducible exact Nat.le_refl _) | (with_reducible assumption) | omega | (simp; omega) | (simp; done))))) (hb4.mono (by (first | (with_reducible exact Nat.le_refl _) | (with_reducible assumption) | omega | (simp; omega) | (simp; done))))
  clear hb4
  go_wp2_with fail
  (with_reducible refine (c4 _).mono ?_)
  rintro e w5 ⟨rfl, hb5⟩
  obtain ⟨hc5, hf5, hz5⟩ := bcell hb5
  try simp at hz5
  try have hl0_5 : w.heap.size < w5.heap.size := by omega
  try have hn0_5 : ¬ w.heap.size = w5.heap.size := by omega
  try have ho0_5 : ¬ w5.heap.size = w.heap.size := by omega
  try have hm0_5 : w.heap.size + 1 < w5.heap.size := by omega
  try have hl1_5 : w1.heap.size < w5.heap.size := by omega
  try have hn1_5 : ¬ w1.heap.size = w5.heap.size := by omega
  try have ho1_5 : ¬ w5.heap.size = w1.heap.size := by omega
  try have hl2_5 : w2.heap.size < w5.heap.size := by omega
  try have hn2_5 : ¬ w2.heap.size = w5.heap.size := by omega
  try have ho2_5 : ¬ w5.heap.size = w2.heap.size := by omega
  try have hl3_5 : w3.heap.size < w5.heap.size := by omega
  try have hn3_5 : ¬ w3.heap.size = w5.heap.size := by omega
  try have ho3_5 : ¬ w5.heap.size = w3.heap.size := by omega
  try have hl4_5 : w4.heap.size < w5.heap.size := by omega
  try have hn4_5 : ¬ w4.heap.size = w5.heap.size := by omega
  try have ho4_5 : ¬ w5.heap.size = w4.heap.size := by omega
  have hB5 := Below.trans (B := w.heap.size) (a := w) (by (repeat' (first | (with_reducible exact Below.refl _ _) | (with_reducible assumption) | (with_reducible refine Below.alloc ?_ ?_ _) | (with_reducible refine Below.drew ?_) | (with_reducible refine below_drewN ?_ _) | (with_reducible refine Below.setCell ?_ ?_ _) | (first | (with_reducible exact Nat.le_refl _) | (with_reducible assumption) | omega | (simp; omega) | (simp; done))))) (hb5.mono (by (first | (with_reducible exact Nat.le_refl _) | (with_reducible assumption) | omega | (simp; omega) | (simp; done))))
  clear hb5
  go_wp2_with fail
  (with_reducible refine (c5 _).mono ?_)
  rintro e w6 ⟨rfl, hb6⟩
  obtain ⟨hc6, hf6, hz6⟩ := bcell hb6
  try simp at hz6
  try have hl0_6 : w.heap.size < w6.heap.size := by omega
  try have hn0_6 : ¬ w.heap.size = w6.heap.size := by omega
  try have ho0_6 : ¬ w6.heap.size = w.heap.size := by omega
  try have hm0_6 : w.heap.size + 1 < w6.heap.size := by omega
  try have hl1_6 : w1.heap.size < w6.heap.size := by omega
  try have hn1_6 : ¬ w1.heap.size = w6.heap.size := by omega
  try have ho1_6 : ¬ w6.heap.size = w1.heap.size := by omega
  try have hl2_6 : w2.heap.size < w6.heap.size := by omega
  try have hn2_6 : ¬ w2.heap.size = w6.heap.size := by omega
  try have ho2_6 : ¬ w6.heap.size = w2.heap.size := by omega
  try have hl3_6 : w3.heap.size < w6.heap.size := by omega
  try have hn3_6 : ¬ w3.heap.size = w6.heap.size := by omega
  try have ho3_6 : ¬ w6.heap.size = w3.heap.size := by omega
  try have hl4_6 : w4.heap.size < w6.heap.size := by omega
  try have hn4_6 : ¬ w4.heap.size = w6.heap.size := by omega
  try have ho4_6 : ¬ w6.heap.size = w4.heap.size := by omega
  try have hl5_6 : w5.heap.size < w6.heap.size := by omega
  try have hn5_6 : ¬ w5.heap.size = w6.heap.size := by omega
  try have ho5_6 : ¬ w6.heap.size = w5.heap.size := by omega
  have hB6 := Below.trans (B := w.heap.size) (a := w) (by (repeat' (first | (with_reducible exact Below.refl _ _) | (with_reducible assumption) | (with_reducible refine Below.alloc ?_ ?_ _) | (with_reducible refine Below.drew ?_) | (with_reducible refine below_drewN ?_ _) | (with_reducible refine Below.setCell ?_ ?_ _) | (first | (with_reducible exact Nat.le_refl _) | (with_reducible assumption) | omega | (simp; omega) | (simp; done))))) (hb6.mono (by (first | (with_reducible exact Nat.le_refl _) | (with_reducible assumption) | omega | (simp; omega) | (simp; done))))
  clear hb6
  go_wp2_with fail
  (with_reducible refine (c6 _).mono ?_)
  rintro e w7 ⟨rfl, hb7⟩
  obtain ⟨hc7, hf7, hz7⟩ := bcell hb7
  try simp at hz7
  try have hl0_7 : w.heap.size < w7.heap.size := by omega
  try have hn0_7 : ¬ w.heap.size = w7.heap.size := by omega
  try have ho0_7 : ¬ w7.heap.size = w.heap.size := by omega
  try have hm0_7 : w.heap.size + 1 < w7.heap.size := by omega
  try have hl1_7 : w1.heap.size < w7.heap.size := by omega
  try have hn1_7 : ¬ w1.heap.size = w7.heap.size := by omega
  try have ho1_7 : ¬ w7.heap.size = w1.heap.size := by omega
  try have hl2_7 : w2.heap.size < w7.heap.size := by omega
  try have hn2_7 : ¬ w2.heap.size = w7.heap.size := by omega
  try have ho2_7 : ¬ w7.heap.size = w2.heap.size := by omega
  try have hl3_7 : w3.heap.size < w7.heap.size := by omega
  try have hn3_7 : ¬ w3.heap.size = w7.heap.size := by omega
  try have ho3_7 : ¬ w7.heap.size = w3.heap.size := by omega
  try have hl4_7 : w4.heap.size < w7.heap.size := by omega
  try have hn4_7 : ¬ w4.heap.size = w7.heap.size := by omega
  try have ho4_7 : ¬ w7.heap.size = w4.heap.size := by omega
  try have hl5_7 : w5.heap.size < w7.heap.size := by omega
  try have hn5_7 : ¬ w5.heap.size = w7.heap.size := by omega
  try have ho5_7 : ¬ w7.heap.size = w5.heap.size := by omega
  try have hl6_7 : w6.heap.size < w7.heap.size := by omega
  try have hn6_7 : ¬ w6.heap.size = w7.heap.size := by omega
  try have ho6_7 : ¬ w7.heap.size = w6.heap.size := by omega
  have hB7 := Below.trans (B := w.heap.size) (a := w) (by (repeat' (first | (with_reducible exact Below.refl _ _) | (with_reducible assumption) | (with_reducible refine Below.alloc ?_ ?_ _) | (with_reducible refine Below.drew ?_) | (with_reducible refine below_drewN ?_ _) | (with_reducible refine Below.setCell ?_ ?_ _) | (first | (with_reducible exact Nat.le_refl _) | (with_reducible assumption) | omega | (simp; omega) | (simp; done))))) (hb7.mono (by (first | (with_reducible exact Nat.le_refl _) | (with_reducible assumption) | omega | (simp; omega) | (simp; done))))
  clear hb7
  go_wp2_with (first | (go_at_call 14; (with_reducible refine (num_calls _ _).mono ?_); rintro e w' ⟨rfl, rfl⟩) | (go_at_call 16; (with_reducible refine (live_calls _).mono ?_); rintro e w' ⟨rfl, hb⟩; obtain ⟨hc, hf, hz⟩ := bcell hb; (try simp at hz); (try have hzz : w.heap.size < w'.heap.size := by omega); (try have hzz1 : w.heap.size + 1 < w'.heap.size := by omega); (try have hzz2 : w.heap.size + 2 < w'.heap.size := by omega); have hB := Below.trans (B := w.heap.size) (a := w) (by (repeat' (first | (with_reducible exact Below.refl _ _) | (with_reducible assumption) | (with_reducible refine Below.alloc ?_ ?_ _) | (with_reducible refine Below.drew ?_) | (with_reducible refine below_drewN ?_ _) | (with_reducible refine Below.setCell ?_ ?_ _) | (first | (with_reducible exact Nat.le_refl _) | (with_reducible assumption) | omega | (simp; omega) | (simp; done))))) (hb.mono (by (first | (with_reducible exact Nat.le_refl _) | (with_reducible assumption) | omega | (simp; omega) | (simp; done))))))
  (first | (refine bodyPost_ret (results_tmp rfl _ _ _) rfl ?_) | (refine bodyPost_ret (results_none rfl _ _ _) rfl ?_) | (refine bodyPost_end (results_none rfl _ _ _) rfl ?_) | go_ret2 | go_ret3)
  exact ⟨rfl, by (repeat' (first | (with_reducible exact Below.refl _ _) | (with_reducible assumption) | (with_reducible refine Below.alloc ?_ ?_ _) | (with_reducible refine Below.drew ?_) | (with_reducible refine below_drewN ?_ _) | (with_reducible refine Below.setCell ?_ ?_ _) | (first | (with_reducible exact Nat.le_refl _) | (with_reducible assumption) | omega | (simp; omega) | (simp; done))))⟩

set_option maxHeartbeats 1000000 in
theorem powers_1 (a : Nat) (ha : a < M64) (x : Int) (w : World) :
    Calls Try.prog 11 #[.int .u64 (a : Int), .int .i64 x, .int .i64 1] w fun e w' => e = .returned (.bool true) ∧ Below w.heap.size w w' := by
  have hS : SZ 1 8 := by unfold SZ; omega
  have hA : a % 2 ^ 8 < 2 ^ 8 := Nat.mod_lt _ (by decide)
  obtain ⟨k, hk, hkm⟩ := cnt_of x 7 (by decide) (by decide)
  have hsh : shK 8 k = k := by unfold shK; simp; omega
  have hpk : 2 ^ k < M64 := Nat.pow_lt_pow_right (n := 64) (by decide) (by omega)
  have hw : IntKind.u64.wrap ((2 : Int) ^ k) = ((2 ^ k : Nat) : Int) := by
    rw [IntKind.wrap_u64, show ((2 : Int) ^ k) = ((2 ^ k : Nat) : Int) by simp]
    exact Int.emod_eq_of_lt (Int.natCast_nonneg _) (Int.ofNat_lt.2 hpk)
  have cm := mul_ok 1 8 hS a (2 ^ k) ha hpk
  rw [powers_mul 8 (a % 2 ^ 8) k (by omega) hA (by omega)] at cm
  obtain ⟨z, hz, hz1, hz2⟩ := powers_sar 8 (a % 2 ^ 8) k (by omega) hA
  have c6 := trim_ok 1 8 hS z hz
  rw [hz2] at c6
  rcases Nat.eq_zero_or_pos k with h0 | hp
  · have e1 : a % 2 ^ 8 * 2 ^ k % 2 ^ 8 = a % 2 ^ 8 := by rw [h0, Nat.pow_zero, Nat.mul_one, Nat.mod_mod]
    have e2 : sarR 8 (a % 2 ^ 8) k = a % 2 ^ 8 := by
      rw [h0]; unfold sarR sI
      split <;> simp <;> omega
    rw [e1] at cm
    rw [e2] at c6
    exact powers_core1 a (a % 2 ^ 8) _ _ _ z (2 ^ k) k _ x _ _ _ _ _ _ _ _ _ _ _ _ _ _ _ _ _ _ _ _ w hk (by omega) (by omega) (trim_ok 1 8 hS a ha) (sh0_ok 17 (by omega) 1 8 hS a ha k (by omega) (hsh.trans h0) false false false false false) hw cm
      (sh0_ok 18 (by omega) 1 8 hS a ha k (by omega) (hsh.trans h0) false false false false false) (sh0_ok 19 (by omega) 1 8 hS a ha k (by omega) (hsh.trans h0) false false false false false) (extend_ok 1 8 hS a ha) hz1 (by rw [h0]; simp) c6
  · have c2 := shl_ok 1 8 hS a ha k (by omega) (by omega) false false false false false
    have c3 := shr_ok 1 8 hS a ha k (by omega) (by omega) false false false false false
    have c4 := sar_ok 1 8 hS a ha k (by omega) (by omega) false false false false false
    rw [hsh] at c2 c3 c4
    exact powers_core1 a (a % 2 ^ 8) _ _ _ z (2 ^ k) k _ x _ _ _ _ _ _ _ _ _ _ _ _ _ _ _ _ _ _ _ _ w hk (by omega) (by omega) (trim_ok 1 8 hS a ha) c2 hw cm c3 c4 (extend_ok 1 8 hS a ha) hz1 (by unfold shrR; simp) c6

set_option maxHeartbeats 4000000 in
set_option maxRecDepth 100000 in
theorem powers_core4 (a t xv uv vv z p k : Nat) (s : Nat) (x : Int) (g0 g1 g2 g3 g4 d0 d1 d2 d3 d4 e0 e1 e2 e3 e4 f0 f1 f2 f3 f4 : Bool) (w : World)
    (hk : (wrap64 (wrap64 (x.tmod 31 + 32) - 1)).tmod 31 = (k : Int)) (_hk0 : (0 : Int) ≤ k) (hk6 : (k : Int) ≤ 30)
    (c1 : ∀ w : World, Calls Try.prog 25 #[.int .u64 (a : Int), .int .i64 4] w fun e w' => e = .returned (.tuple #[.int .u64 (t : Int), .int .i64 0]) ∧ Below w.heap.size w w')
    (c2 : ∀ w : World, Calls Try.prog 30 #[.int .i64 17, .int .u64 (a : Int), .int .i64 (k : Int), fl false false false false false, .int .i64 4] w fun e w' => e = .returned (.tuple #[.int .u64 (xv : Int), fl g0 g1 g2 g3 g4, .int .i64 0]) ∧ Below w.heap.size w w')
    (hw : IntKind.u64.wrap ((2 : Int) ^ k) = (p : Int))
    (cm : ∀ w : World, Calls Try.prog 32 #[.int .u64 (a : Int), .int .u64 (p : Int), .int .i64 4] w fun e w' => e = .returned (.tuple #[.int .u64 (xv : Int), fl d0 d1 d2 d3 d4, .int .i64 0]) ∧ Below w.heap.size w w')
    (c3 : ∀ w : World, Calls Try.prog 30 #[.int .i64 18, .int .u64 (a : Int), .int .i64 (k : Int), fl false false false false false, .int .i64 4] w fun e w' => e = .returned (.tuple #[.int .u64 (uv : Int), fl e0 e1 e2 e3 e4, .int .i64 0]) ∧ Below w.heap.size w w')
    (c4 : ∀ w : World, Calls Try.prog 30 #[.int .i64 19, .int .u64 (a : Int), .int .i64 (k : Int), fl false false false false false, .int .i64 4] w fun e w' => e = .returned (.tuple #[.int .u64 (vv : Int), fl f0 f1 f2 f3 f4, .int .i64 0]) ∧ Below w.heap.size w w')
    (c5 : ∀ w : World, Calls Try.prog 27 #[.int .u64 (a : Int), .int .i64 4] w fun e w' => e = .returned (.tuple #[.int .u64 (s : Int), .int .i64 0]) ∧ Below w.heap.size w w')
    (hz : IntKind.u64.wrap (wrap64 (s : Int) / 2 ^ k) = (z : Int)) (hu : (t : Int) / 2 ^ k = (uv : Int))
    (c6 : ∀ w : World, Calls Try.prog 25 #[.int .u64 (z : Int), .int .i64 4] w fun e w' => e = .returned (.tuple #[.int .u64 (vv : Int), .int .i64 0]) ∧ Below w.heap.size w w') :
    Calls Try.prog 11 #[.int .u64 (a : Int), .int .i64 x, .int .i64 4] w fun e w' => e = .returned (.bool true) ∧ Below w.heap.size w w' := by
  go_enter Try.func11, Try.ntmps11
  go_wp2_with fail
  (with_reducible refine (c1 _).mono ?_)
  rintro e w1 ⟨rfl, hb1⟩
  obtain ⟨hc1, hf1, hz1⟩ := bcell hb1
  try simp at hz1
  try have hl0_1 : w.heap.size < w1.heap.size := by omega
  try have hn0_1 : ¬ w.heap.size = w1.heap.size := by omega
  try have ho0_1 : ¬ w1.heap.size = w.heap.size := by omega
  try have hm0_1 : w.heap.size + 1 < w1.heap.size := by omega
  have hB1 := Below.trans (B := w.heap.size) (a := w) (by (repeat' (first | (with_reducible exact Below.refl _ _) | (with_reducible assumption) | (with_reducible refine Below.alloc ?_ ?_ _) | (with_reducible refine Below.drew ?_) | (with_reducible refine below_drewN ?_ _) | (with_reducible refine Below.setCell ?_ ?_ _) | (first | (with_reducible exact Nat.le_refl _) | (with_reducible assumption) | omega | (simp; omega) | (simp; done))))) (hb1.mono (by (first | (with_reducible exact Nat.le_refl _) | (with_reducible assumption) | omega | (simp; omega) | (simp; done))))
  clear hb1
  go_wp2_with ((go_at_call 14; (with_reducible refine (num_calls _ _).mono ?_); rintro e w' ⟨rfl, rfl⟩))
  go_wp2_with fail
  (with_reducible refine (c2 _).mono ?_)
  rintro e w2 ⟨rfl, hb2⟩
  obtain ⟨hc2, hf2, hz2⟩ := bcell hb2
  try simp at hz2
  try have hl0_2 : w.heap.size < w2.heap.size := by omega
  try have hn0_2 : ¬ w.heap.size = w2.heap.size := by omega
  try have ho0_2 : ¬ w2.heap.size = w.heap.size := by omega
  try have hm0_2 : w.heap.size + 1 < w2.heap.size := by omega
  try have hl1_2 : w1.heap.size < w2.heap.size := by omega
  try have hn1_2 : ¬ w1.heap.size = w2.heap.size := by omega
  try have ho1_2 : ¬ w2.heap.size = w1.heap.size := by omega
  have hB2 := Below.trans (B := w.heap.size) (a := w) (by (repeat' (first | (with_reducible exact Below.refl _ _) | (with_reducible assumption) | (with_reducible refine Below.alloc ?_ ?_ _) | (with_reducible refine Below.drew ?_) | (with_reducible refine below_drewN ?_ _) | (with_reducible refine Below.setCell ?_ ?_ _) | (first | (with_reducible exact Nat.le_refl _) | (with_reducible assumption) | omega | (simp; omega) | (simp; done))))) (hb2.mono (by (first | (with_reducible exact Nat.le_refl _) | (with_reducible assumption) | omega | (simp; omega) | (simp; done))))
  clear hb2
  go_wp2_with fail
  (with_reducible refine (cm _).mono ?_)
  rintro e w3 ⟨rfl, hb3⟩
  obtain ⟨hc3, hf3, hz3⟩ := bcell hb3
  try simp at hz3
  try have hl0_3 : w.heap.size < w3.heap.size := by omega
  try have hn0_3 : ¬ w.heap.size = w3.heap.size := by omega
  try have ho0_3 : ¬ w3.heap.size = w.heap.size := by omega
  try have hm0_3 : w.heap.size + 1 < w3.heap.size := by omega
  try have hl1_3 : w1.heap.size < w3.heap.size := by omega
  try have hn1_3 : ¬ w1.heap.size = w3.heap.size := by omega
  try have ho1_3 : ¬ w3.heap.size = w1.heap.size := by omega
  try have hl2_3 : w2.heap.size < w3.heap.size := by omega
  try have hn2_3 : ¬ w2.heap.size = w3.heap.size := by omega
  try have ho2_3 : ¬ w3.heap.size = w2.heap.size := by omega
  have hB3 := Below.trans (B := w.heap.size) (a := w) (by (repeat' (first | (with_reducible exact Below.refl _ _) | (with_reducible assumption) | (with_reducible refine Below.alloc ?_ ?_ _) | (with_reducible refine Below.drew ?_) | (with_reducible refine below_drewN ?_ _) | (with_reducible refine Below.setCell ?_ ?_ _) | (first | (with_reducible exact Nat.le_refl _) | (with_reducible assumption) | omega | (simp; omega) | (simp; done))))) (hb3.mono (by (first | (with_reducible exact Nat.le_refl _) | (with_reducible assumption) | omega | (simp; omega) | (simp; done))))
  clear hb3
  go_wp2_with fail
  (with_reducible refine (c3 _).mono ?_)
  rintro e w4 ⟨rfl, hb4⟩
  obtain ⟨hc4, hf4, hz4⟩ := bcell hb4
  try simp at hz4
  try have hl0_4 : w.heap.size < w4.heap.size := by omega
  try have hn0_4 : ¬ w.heap.size = w4.heap.size := by omega
  try have ho0_4 : ¬ w4.heap.size = w.heap.size := by omega
  try have hm0_4 : w.heap.size + 1 < w4.heap.size := by omega
  try have hl1_4 : w1.heap.size < w4.heap.size := by omega
  try have hn1_4 : ¬ w1.heap.size = w4.heap.size := by omega
  try have ho1_4 : ¬ w4.heap.size = w1.heap.size := by omega
  try have hl2_4 : w2.heap.size < w4.heap.size := by omega
  try have hn2_4 : ¬ w2.heap.size = w4.heap.size := by omega
  try have ho2_4 : ¬ w4.heap.size = w2.heap.size := by omega
  try have hl3_4 : w3.heap.size < w4.heap.size := by omega
  try have hn3_4 : ¬ w3.heap.size = w4.heap.size := by omega
  try have ho3_4 : ¬ w4.heap.size = w3.heap.size := by omega
  have hB4 := Below.trans (B := w.heap.size) (a := w) (by (repeat' (first | (with_reducible exact Below.refl _ _) | (with_reducible assumption) | (with_reducible refine Below.alloc ?_ ?_ _) | (with_reducible refine Below.drew ?_) | (with_reducible refine below_drewN ?_ _) | (with_reducible refine Below.setCell ?_ ?_ _) | (first | (with_reducible exact Nat.le_refl _) | (with_reducible assumption) | omega | (simp; omega) | (simp; done))))) (hb4.mono (by (first | (with_reducible exact Nat.le_refl _) | (with_reducible assumption) | omega | (simp; omega) | (simp; done))))
  clear hb4
  go_wp2_with fail
  (with_reducible refine (c4 _).mono ?_)
  rintro e w5 ⟨rfl, hb5⟩
  obtain ⟨hc5, hf5, hz5⟩ := bcell hb5
  try simp at hz5
  try have hl0_5 : w.heap.size < w5.heap.size := by omega
  try have hn0_5 : ¬ w.heap.size = w5.heap.size := by omega
  try have ho0_5 : ¬ w5.heap.size = w.heap.size := by omega
  try have hm0_5 : w.heap.size + 1 < w5.heap.size := by omega
  try have hl1_5 : w1.heap.size < w5.heap.size := by omega
  try have hn1_5 : ¬ w1.heap.size = w5.heap.size := by omega
  try have ho1_5 : ¬ w5.heap.size = w1.heap.size := by omega
  try have hl2_5 : w2.heap.size < w5.heap.size := by omega
  try have hn2_5 : ¬ w2.heap.size = w5.heap.size := by omega
  try have ho2_5 : ¬ w5.heap.size = w2.heap.size := by omega
  try have hl3_5 : w3.heap.size < w5.heap.size := by omega
  try have hn3_5 : ¬ w3.heap.size = w5.heap.size := by omega
  try have ho3_5 : ¬ w5.heap.size = w3.heap.size := by omega
  try have hl4_5 : w4.heap.size < w5.heap.size := by omega
  try have hn4_5 : ¬ w4.heap.size = w5.heap.size := by omega
  try have ho4_5 : ¬ w5.heap.size = w4.heap.size := by omega
  have hB5 := Below.trans (B := w.heap.size) (a := w) (by (repeat' (first | (with_reducible exact Below.refl _ _) | (with_reducible assumption) | (with_reducible refine Below.alloc ?_ ?_ _) | (with_reducible refine Below.drew ?_) | (with_reducible refine below_drewN ?_ _) | (with_reducible refine Below.setCell ?_ ?_ _) | (first | (with_reducible exact Nat.le_refl _) | (with_reducible assumption) | omega | (simp; omega) | (simp; done))))) (hb5.mono (by (first | (with_reducible exact Nat.le_refl _) | (with_reducible assumption) | omega | (simp; omega) | (simp; done))))
  clear hb5
  go_wp2_with fail
  (with_reducible refine (c5 _).mono ?_)
  rintro e w6 ⟨rfl, hb6⟩
  obtain ⟨hc6, hf6, hz6⟩ := bcell hb6
  try simp at hz6
  try have hl0_6 : w.heap.size < w6.heap.size := by omega
  try have hn0_6 : ¬ w.heap.size = w6.heap.size := by omega
  try have ho0_6 : ¬ w6.heap.size = w.heap.size := by omega
  try have hm0_6 : w.heap.size + 1 < w6.heap.size := by omega
  try have hl1_6 : w1.heap.size < w6.heap.size := by omega
  try have hn1_6 : ¬ w1.heap.size = w6.heap.size := by omega
  try have ho1_6 : ¬ w6.heap.size = w1.heap.size := by omega
  try have hl2_6 : w2.heap.size < w6.heap.size := by omega
  try have hn2_6 : ¬ w2.heap.size = w6.heap.size := by omega
  try have ho2_6 : ¬ w6.heap.size = w2.heap.size := by omega
  try have hl3_6 : w3.heap.size < w6.heap.size := by omega
  try have hn3_6 : ¬ w3.heap.size = w6.heap.size := by omega
  try have ho3_6 : ¬ w6.heap.size = w3.heap.size := by omega
  try have hl4_6 : w4.heap.size < w6.heap.size := by omega
  try have hn4_6 : ¬ w4.heap.size = w6.heap.size := by omega
  try have ho4_6 : ¬ w6.heap.size = w4.heap.size := by omega
  try have hl5_6 : w5.heap.size < w6.heap.size := by omega
  try have hn5_6 : ¬ w5.heap.size = w6.heap.size := by omega
  try have ho5_6 : ¬ w6.heap.size = w5.heap.size := by omega
  have hB6 := Below.trans (B := w.heap.size) (a := w) (by (repeat' (first | (with_reducible exact Below.refl _ _) | (with_reducible assumption) | (with_reducible refine Below.alloc ?_ ?_ _) | (with_reducible refine Below.drew ?_) | (with_reducible refine below_drewN ?_ _) | (with_reducible refine Below.setCell ?_ ?_ _) | (first | (with_reducible exact Nat.le_refl _) | (with_reducible assumption) | omega | (simp; omega) | (simp; done))))) (hb6.mono (by (first | (with_reducible exact Nat.le_refl _) | (with_reducible assumption) | omega | (simp; omega) | (simp; done))))
  clear hb6
  go_wp2_with fail
  (with_reducible refine (c6 _).mono ?_)
  rintro e w7 ⟨rfl, hb7⟩
  obtain ⟨hc7, hf7, hz7⟩ := bcell hb7
  try simp at hz7
  try have hl0_7 : w.heap.size < w7.heap.size := by omega
  try have hn0_7 : ¬ w.heap.size = w7.heap.size := by omega
  try have ho0_7 : ¬ w7.heap.size = w.heap.size := by omega
  try have hm0_7 : w.heap.size + 1 < w7.heap.size := by omega
  try have hl1_7 : w1.heap.size < w7.heap.size := by omega
  try have hn1_7 : ¬ w1.heap.size = w7.heap.size := by omega
  try have ho1_7 : ¬ w7.heap.size = w1.heap.size := by omega
  try have hl2_7 : w2.heap.size < w7.heap.size := by omega
  try have hn2_7 : ¬ w2.heap.size = w7.heap.size := by omega
  try have ho2_7 : ¬ w7.heap.size = w2.heap.size := by omega
  try have hl3_7 : w3.heap.size < w7.heap.size := by omega
  try have hn3_7 : ¬ w3.heap.size = w7.heap.size := by omega
  try have ho3_7 : ¬ w7.heap.size = w3.heap.size := by omega
  try have hl4_7 : w4.heap.size < w7.heap.size := by omega
  try have hn4_7 : ¬ w4.heap.size = w7.heap.size := by omega
  try have ho4_7 : ¬ w7.heap.size = w4.heap.size := by omega
  try have hl5_7 : w5.heap.size < w7.heap.size := by omega
  try have hn5_7 : ¬ w5.heap.size = w7.heap.size := by omega
  try have ho5_7 : ¬ w7.heap.size = w5.heap.size := by omega
  try have hl6_7 : w6.heap.size < w7.heap.size := by omega
  try have hn6_7 : ¬ w6.heap.size = w7.heap.size := by omega
  try have ho6_7 : ¬ w7.heap.size = w6.heap.size := by omega
  have hB7 := Below.trans (B := w.heap.size) (a := w) (by (repeat' (first | (with_reducible exact Below.refl _ _) | (with_reducible assumption) | (with_reducible refine Below.alloc ?_ ?_ _) | (with_reducible refine Below.drew ?_) | (with_reducible refine below_drewN ?_ _) | (with_reducible refine Below.setCell ?_ ?_ _) | (first | (with_reducible exact Nat.le_refl _) | (with_reducible assumption) | omega | (simp; omega) | (simp; done))))) (hb7.mono (by (first | (with_reducible exact Nat.le_refl _) | (with_reducible assumption) | omega | (simp; omega) | (simp; done))))
  clear hb7
  go_wp2_with (first | (go_at_call 14; (with_reducible refine (num_calls _ _).mono ?_); rintro e w' ⟨rfl, rfl⟩) | (go_at_call 16; (with_reducible refine (live_calls _).mono ?_); rintro e w' ⟨rfl, hb⟩; obtain ⟨hc, hf, hz⟩ := bcell hb; (try simp at hz); (try have hzz : w.heap.size < w'.heap.size := by omega); (try have hzz1 : w.heap.size + 1 < w'.heap.size := by omega); (try have hzz2 : w.heap.size + 2 < w'.heap.size := by omega); have hB := Below.trans (B := w.heap.size) (a := w) (by (repeat' (first | (with_reducible exact Below.refl _ _) | (with_reducible assumption) | (with_reducible refine Below.alloc ?_ ?_ _) | (with_reducible refine Below.drew ?_) | (with_reducible refine below_drewN ?_ _) | (with_reducible refine Below.setCell ?_ ?_ _) | (first | (with_reducible exact Nat.le_refl _) | (with_reducible assumption) | omega | (simp; omega) | (simp; done))))) (hb.mono (by (first | (with_reducible exact Nat.le_refl _) | (with_reducible assumption) | omega | (simp; omega) | (simp; done))))))
  (first | (refine bodyPost_ret (results_tmp rfl _ _ _) rfl ?_) | (refine bodyPost_ret (results_none rfl _ _ _) rfl ?_) | (refine bodyPost_end (results_none rfl _ _ _) rfl ?_) | go_ret2 | go_ret3)
  exact ⟨rfl, by (repeat' (first | (with_reducible exact Below.refl _ _) | (with_reducible assumption) | (with_reducible refine Below.alloc ?_ ?_ _) | (with_reducible refine Below.drew ?_) | (with_reducible refine below_drewN ?_ _) | (with_reducible refine Below.setCell ?_ ?_ _) | (first | (with_reducible exact Nat.le_refl _) | (with_reducible assumption) | omega | (simp; omega) | (simp; done))))⟩

set_option maxHeartbeats 1000000 in
theorem powers_4 (a : Nat) (ha : a < M64) (x : Int) (w : World) :
    Calls Try.prog 11 #[.int .u64 (a : Int), .int .i64 x, .int .i64 4] w fun e w' => e = .returned (.bool true) ∧ Below w.heap.size w w' := by
  have hS : SZ 4 32 := by unfold SZ; omega
  have hA : a % 2 ^ 32 < 2 ^ 32 := Nat.mod_lt _ (by decide)
  obtain ⟨k, hk, hkm⟩ := cnt_of x 31 (by decide) (by decide)
  have hsh : shK 32 k = k := by unfold shK; simp; omega
  have hpk : 2 ^ k < M64 := Nat.pow_lt_pow_right (n := 64) (by decide) (by omega)
  have hw : IntKind.u64.wrap ((2 : Int) ^ k) = ((2 ^ k : Nat) : Int) := by
    rw [IntKind.wrap_u64, show ((2 : Int) ^ k) = ((2 ^ k : Nat) : Int) by simp]
    exact Int.emod_eq_of_lt (Int.natCast_nonneg _) (Int.ofNat_lt.2 hpk)
  have cm := mul_ok 4 32 hS a (2 ^ k) ha hpk
  rw [powers_mul 32 (a % 2 ^ 32) k (by omega) hA (by omega)] at cm
  obtain ⟨z, hz, hz1, hz2⟩ := powers_sar 32 (a % 2 ^ 32) k (by omega) hA
  have c6 := trim_ok 4 32 hS z hz
  rw [hz2] at c6
  rcases Nat.eq_zero_or_pos k with h0 | hp
  · have e1 : a % 2 ^ 32 * 2 ^ k % 2 ^ 32 = a % 2 ^ 32 := by rw [h0, Nat.pow_zero, Nat.mul_one, Nat.mod_mod]
    have e2 : sarR 32 (a % 2 ^ 32) k = a % 2 ^ 32 := by
      rw [h0]; unfold sarR sI
      split <;> simp <;> omega
    rw [e1] at cm
    rw [e2] at c6
    exact powers_core4 a (a % 2 ^ 32) _ _ _ z (2 ^ k) k _ x _ _ _ _ _ _ _ _ _ _ _ _ _ _ _ _ _ _ _ _ w hk (by omega) (by omega) (trim_ok 4 32 hS a ha) (sh0_ok 17 (by omega) 4 32 hS a ha k (by omega) (hsh.trans h0) false false false false false) hw cm
      (sh0_ok 18 (by omega) 4 32 hS a ha k (by omega) (hsh.trans h0) false false false false false) (sh0_ok 19 (by omega) 4 32 hS a ha k (by omega) (hsh.trans h0) false false false false false) (extend_ok 4 32 hS a ha) hz1 (by rw [h0]; simp) c6
  · have c2 := shl_ok 4 32 hS a ha k (by omega) (by omega) false false false false false
    have c3 := shr_ok 4 32 hS a ha k (by omega) (by omega) false false false false false
    have c4 := sar_ok 4 32 hS a ha k (by omega) (by omega) false false false false false
    rw [hsh] at c2 c3 c4
    exact powers_core4 a (a % 2 ^ 32) _ _ _ z (2 ^ k) k _ x _ _ _ _ _ _ _ _ _ _ _ _ _ _ _ _ _ _ _ _ w hk (by omega) (by omega) (trim_ok 4 32 hS a ha) c2 hw cm c3 c4 (extend_ok 4 32 hS a ha) hz1 (by unfold shrR; simp) c6

set_option maxHeartbeats 4000000 in
set_option maxRecDepth 100000 in
theorem powers_core8 (a t xv uv vv z p k : Nat) (s : Nat) (x : Int) (g0 g1 g2 g3 g4 d0 d1 d2 d3 d4 e0 e1 e2 e3 e4 f0 f1 f2 f3 f4 : Bool) (w : World)
    (hk : (wrap64 (wrap64 (x.tmod 63 + 64) - 1)).tmod 63 = (k : Int)) (_hk0 : (0 : Int) ≤ k) (hk6 : (k : Int) ≤ 62)
    (c1 : ∀ w : World, Calls Try.prog 25 #[.int .u64 (a : Int), .int .i64 8] w fun e w' => e = .returned (.tuple #[.int .u64 (t : Int), .int .i64 0]) ∧ Below w.heap.size w w')
    (c2 : ∀ w : World, Calls Try.prog 30 #[.int .i64 17, .int .u64 (a : Int), .int .i64 (k : Int), fl false false false false false, .int .i64 8] w fun e w' => e = .returned (.tuple #[.int .u64 (xv : Int), fl g0 g1 g2 g3 g4, .int .i64 0]) ∧ Below w.heap.size w w')
    (hw : IntKind.u64.wrap ((2 : Int) ^ k) = (p : Int))
    (cm : ∀ w : World, Calls Try.prog 32 #[.int .u64 (a : Int), .int .u64 (p : Int), .int .i64 8] w fun e w' => e = .returned (.tuple #[.int .u64 (xv : Int), fl d0 d1 d2 d3 d4, .int .i64 0]) ∧ Below w.heap.size w w')
    (c3 : ∀ w : World, Calls Try.prog 30 #[.int .i64 18, .int .u64 (a : Int), .int .i64 (k : Int), fl false false false false false, .int .i64 8] w fun e w' => e = .returned (.tuple #[.int .u64 (uv : Int), fl e0 e1 e2 e3 e4, .int .i64 0]) ∧ Below w.heap.size w w')
    (c4 : ∀ w : World, Calls Try.prog 30 #[.int .i64 19, .int .u64 (a : Int), .int .i64 (k : Int), fl false false false false false, .int .i64 8] w fun e w' => e = .returned (.tuple #[.int .u64 (vv : Int), fl f0 f1 f2 f3 f4, .int .i64 0]) ∧ Below w.heap.size w w')
    (c5 : ∀ w : World, Calls Try.prog 27 #[.int .u64 (a : Int), .int .i64 8] w fun e w' => e = .returned (.tuple #[.int .u64 (s : Int), .int .i64 0]) ∧ Below w.heap.size w w')
    (hz : IntKind.u64.wrap (wrap64 (s : Int) / 2 ^ k) = (z : Int)) (hu : (t : Int) / 2 ^ k = (uv : Int))
    (c6 : ∀ w : World, Calls Try.prog 25 #[.int .u64 (z : Int), .int .i64 8] w fun e w' => e = .returned (.tuple #[.int .u64 (vv : Int), .int .i64 0]) ∧ Below w.heap.size w w') :
    Calls Try.prog 11 #[.int .u64 (a : Int), .int .i64 x, .int .i64 8] w fun e w' => e = .returned (.bool true) ∧ Below w.heap.size w w' := by
  go_enter Try.func11, Try.ntmps11
  go_wp2_with fail
  (with_reducible refine (c1 _).mono ?_)
  rintro e w1 ⟨rfl, hb1⟩
  obtain ⟨hc1, hf1, hz1⟩ := bcell hb1
  try simp at hz1
  try have hl0_1 : w.heap.size < w1.heap.size := by omega
  try have hn0_1 : ¬ w.heap.size = w1.heap.size := by omega
  try have ho0_1 : ¬ w1.heap.size = w.heap.size := by omega
  try have hm0_1 : w.heap.size + 1 < w1.heap.size := by omega
  have hB1 := Below.trans (B := w.heap.size) (a := w) (by (repeat' (first | (with_reducible exact Below.refl _ _) | (with_reducible assumption) | (with_reducible refine Below.alloc ?_ ?_ _) | (with_reducible refine Below.drew ?_) | (with_reducible refine below_drewN ?_ _) | (with_reducible refine Below.setCell ?_ ?_ _) | (first | (with_reducible exact Nat.le_refl _) | (with_reducible assumption) | omega | (simp; omega) | (simp; done))))) (hb1.mono (by (first | (with_reducible exact Nat.le_refl _) | (with_reducible assumption) | omega | (simp; omega) | (simp; done))))
  clear hb1
  go_wp2_with ((go_at_call 14; (with_reducible refine (num_calls _ _).mono ?_); rintro e w' ⟨rfl, rfl⟩))
  go_wp2_with fail
  (with_reducible refine (c2 _).mono ?_)
  rintro e w2 ⟨rfl, hb2⟩
  obtain ⟨hc2, hf2, hz2⟩ := bcell hb2
  try simp at hz2
  try have hl0_2 : w.heap.size < w2.heap.size := by omega
  try have hn0_2 : ¬ w.heap.size = w2.heap.size := by omega
  try have ho0_2 : ¬ w2.heap.size = w.heap.size := by omega
  try have hm0_2 : w.heap.size + 1 < w2.heap.size := by omega
  try have hl1_2 : w1.heap.size < w2.heap.size := by omega
  try have hn1_2 : ¬ w1.heap.size = w2.heap.size := by omega
  try have ho1_2 : ¬ w2.heap.size = w1.heap.size := by omega
  have hB2 := Below.trans (B := w.heap.size) (a := w) (by (repeat' (first | (with_reducible exact Below.refl _ _) | (with_reducible assumption) | (with_reducible refine Below.alloc ?_ ?_ _) | (with_reducible refine Below.drew ?_) | (with_reducible refine below_drewN ?_ _) | (with_reducible refine Below.setCell ?_ ?_ _) | (first | (with_reducible exact Nat.le_refl _) | (with_reducible assumption) | omega | (simp; omega) | (simp; done))))) (hb2.mono (by (first | (with_reducible exact Nat.le_refl _) | (with_reducible assumption) | omega | (simp; omega) | (simp; done))))
  clear hb2
  go_wp2_with fail
  (with_reducible refine (cm _).mono ?_)
  rintro e w3 ⟨rfl, hb3⟩
  obtain ⟨hc3, hf3, hz3⟩ := bcell hb3
  try simp at hz3
  try have hl0_3 : w.heap.size < w3.heap.size := by omega
  try have hn0_3 : ¬ w.heap.size = w3.heap.size := by omega
  try have ho0_3 : ¬ w3.heap.size = w.heap.size := by omega
  try have hm0_3 : w.heap.size + 1 < w3.heap.size := by omega
  try have hl1_3 : w1.heap.size < w3.heap.size := by omega
  try have hn1_3 : ¬ w1.heap.size = w3.heap.size := by omega
  try have ho1_3 : ¬ w3.heap.size = w1.heap.size := by omega
  try have hl2_3 : w2.heap.size < w3.heap.size := by omega
  try have hn2_3 : ¬ w2.heap.size = w3.heap.size := by omega
  try have ho2_3 : ¬ w3.heap.size = w2.heap.size := by omega
  have hB3 := Below.trans (B := w.heap.size) (a := w) (by (repeat' (first | (with_reducible exact Below.refl _ _) | (with_reducible assumption) | (with_reducible refine Below.alloc ?_ ?_ _) | (with_reducible refine Below.drew ?_) | (with_reducible refine below_drewN ?_ _) | (with_reducible refine Below.setCell ?_ ?_ _) | (first | (with_reducible exact Nat.le_refl _) | (with_reducible assumption) | omega | (simp; omega) | (simp; done))))) (hb3.mono (by (first | (with_reducible exact Nat.le_refl _) | (with_reducible assumption) | omega | (simp; omega) | (simp; done))))
  clear hb3
  go_wp2_with fail
  (with_reducible refine (c3 _).mono ?_)
  rintro e w4 ⟨rfl, hb4⟩
  obtain ⟨hc4, hf4, hz4⟩ := bcell hb4
  try simp at hz4
  try have hl0_4 : w.heap.size < w4.heap.size := by omega
  try have hn0_4 : ¬ w.heap.size = w4.heap.size := by omega
  try have ho0_4 : ¬ w4.heap.size = w.heap.size := by omega
  try have hm0_4 : w.heap.size + 1 < w4.heap.size := by omega
  try have hl1_4 : w1.heap.size < w4.heap.size := by omega
  try have hn1_4 : ¬ w1.heap.size = w4.heap.size := by omega
  try have ho1_4 : ¬ w4.heap.size = w1.heap.size := by omega
  try have hl2_4 : w2.heap.size < w4.heap.size := by omega
  try have hn2_4 : ¬ w2.heap.size = w4.heap.size := by omega
  try have ho2_4 : ¬ w4.heap.size = w2.heap.size := by omega
  try have hl3_4 : w3.heap.size < w4.heap.size := by omega
  try have hn3_4 : ¬ w3.heap.size = w4.heap.size := by omega
  try have ho3_4 : ¬ w4.heap.size = w3.heap.size := by omega
  have hB4 := Below.trans (B := w.heap.size) (a := w) (by (repeat' (first | (with_reducible exact Below.refl _ _) | (with_reducible assumption) | (with_reducible refine Below.alloc ?_ ?_ _) | (with_reducible refine Below.drew ?_) | (with_reducible refine below_drewN ?_ _) | (with_reducible refine Below.setCell ?_ ?_ _) | (first | (with_reducible exact Nat.le_refl _) | (with_reducible assumption) | omega | (simp; omega) | (simp; done))))) (hb4.mono (by (first | (with_reducible exact Nat.le_refl _) | (with_reducible assumption) | omega | (simp; omega) | (simp; done))))
  clear hb4
  go_wp2_with fail
  (with_reducible refine (c4 _).mono ?_)
  rintro e w5 ⟨rfl, hb5⟩
  obtain ⟨hc5, hf5, hz5⟩ := bcell hb5
  try simp at hz5
  try have hl0_5 : w.heap.size < w5.heap.size := by omega
  try have hn0_5 : ¬ w.heap.size = w5.heap.size := by omega
  try have ho0_5 : ¬ w5.heap.size = w.heap.size := by omega
  try have hm0_5 : w.heap.size + 1 < w5.heap.size := by omega
  try have hl1_5 : w1.heap.size < w5.heap.size := by omega
  try have hn1_5 : ¬ w1.heap.size = w5.heap.size := by omega
  try have ho1_5 : ¬ w5.heap.size = w1.heap.size := by omega
  try have hl2_5 : w2.heap.size < w5.heap.size := by omega
  try have hn2_5 : ¬ w2.heap.size = w5.heap.size := by omega
  try have ho2_5 : ¬ w5.heap.size = w2.heap.size := by omega
  try have hl3_5 : w3.heap.size < w5.heap.size := by omega
  try have hn3_5 : ¬ w3.heap.size = w5.heap.size := by omega
  try have ho3_5 : ¬ w5.heap.size = w3.heap.size := by omega
  try have hl4_5 : w4.heap.size < w5.heap.size := by omega
  try have hn4_5 : ¬ w4.heap.size = w5.heap.size := by omega
  try have ho4_5 : ¬ w5.heap.size = w4.heap.size := by omega
  have hB5 := Below.trans (B := w.heap.size) (a := w) (by (repeat' (first | (with_reducible exact Below.refl _ _) | (with_reducible assumption) | (with_reducible refine Below.alloc ?_ ?_ _) | (with_reducible refine Below.drew ?_) | (with_reducible refine below_drewN ?_ _) | (with_reducible refine Below.setCell ?_ ?_ _) | (first | (with_reducible exact Nat.le_refl _) | (with_reducible assumption) | omega | (simp; omega) | (simp; done))))) (hb5.mono (by (first | (with_reducible exact Nat.le_refl _) | (with_reducible assumption) | omega | (simp; omega) | (simp; done))))
  clear hb5
  go_wp2_with fail
  (with_reducible refine (c5 _).mono ?_)
  rintro e w6 ⟨rfl, hb6⟩
  obtain ⟨hc6, hf6, hz6⟩ := bcell hb6
  try simp at hz6
  try have hl0_6 : w.heap.size < w6.heap.size := by omega
  try have hn0_6 : ¬ w.heap.size = w6.heap.size := by omega
  try have ho0_6 : ¬ w6.heap.size = w.heap.size := by omega
  try have hm0_6 : w.heap.size + 1 < w6.heap.size := by omega
  try have hl1_6 : w1.heap.size < w6.heap.size := by omega
  try have hn1_6 : ¬ w1.heap.size = w6.heap.size := by omega
  try have ho1_6 : ¬ w6.heap.size = w1.heap.size := by omega
  try have hl2_6 : w2.heap.size < w6.heap.size := by omega
  try have hn2_6 : ¬ w2.heap.size = w6.heap.size := by omega
  try have ho2_6 : ¬ w6.heap.size = w2.heap.size := by omega
  try have hl3_6 : w3.heap.size < w6.heap.size := by omega
  try have hn3_6 : ¬ w3.heap.size = w6.heap.size := by omega
  try have ho3_6 : ¬ w6.heap.size = w3.heap.size := by omega
  try have hl4_6 : w4.heap.size < w6.heap.size := by omega
  try have hn4_6 : ¬ w4.heap.size = w6.heap.size := by omega
  try have ho4_6 : ¬ w6.heap.size = w4.heap.size := by omega
  try have hl5_6 : w5.heap.size < w6.heap.size := by omega
  try have hn5_6 : ¬ w5.heap.size = w6.heap.size := by omega
  try have ho5_6 : ¬ w6.heap.size = w5.heap.size := by omega
  have hB6 := Below.trans (B := w.heap.size) (a := w) (by (repeat' (first | (with_reducible exact Below.refl _ _) | (with_reducible assumption) | (with_reducible refine Below.alloc ?_ ?_ _) | (with_reducible refine Below.drew ?_) | (with_reducible refine below_drewN ?_ _) | (with_reducible refine Below.setCell ?_ ?_ _) | (first | (with_reducible exact Nat.le_refl _) | (with_reducible assumption) | omega | (simp; omega) | (simp; done))))) (hb6.mono (by (first | (with_reducible exact Nat.le_refl _) | (with_reducible assumption) | omega | (simp; omega) | (simp; done))))
  clear hb6
  go_wp2_with fail
  (with_reducible refine (c6 _).mono ?_)
  rintro e w7 ⟨rfl, hb7⟩
  obtain ⟨hc7, hf7, hz7⟩ := bcell hb7
  try simp at hz7
  try have hl0_7 : w.heap.size < w7.heap.size := by omega
  try have hn0_7 : ¬ w.heap.size = w7.heap.size := by omega
  try have ho0_7 : ¬ w7.heap.size = w.heap.size := by omega
  try have hm0_7 : w.heap.size + 1 < w7.heap.size := by omega
  try have hl1_7 : w1.heap.size < w7.heap.size := by omega
  try have hn1_7 : ¬ w1.heap.size = w7.heap.size := by omega
  try have ho1_7 : ¬ w7.heap.size = w1.heap.size := by omega
  try have hl2_7 : w2.heap.size < w7.heap.size := by omega
  try have hn2_7 : ¬ w2.heap.size = w7.heap.size := by omega
  try have ho2_7 : ¬ w7.heap.size = w2.heap.size := by omega
  try have hl3_7 : w3.heap.size < w7.heap.size := by omega
  try have hn3_7 : ¬ w3.heap.size = w7.heap.size := by omega
  try have ho3_7 : ¬ w7.heap.size = w3.heap.size := by omega
  try have hl4_7 : w4.heap.size < w7.heap.size := by omega
  try have hn4_7 : ¬ w4.heap.size = w7.heap.size := by omega
  try have ho4_7 : ¬ w7.heap.size = w4.heap.size := by omega
  try have hl5_7 : w5.heap.size < w7.heap.size := by omega
  try have hn5_7 : ¬ w5.heap.size = w7.heap.size := by omega
  try have ho5_7 : ¬ w7.heap.size = w5.heap.size := by omega
  try have hl6_7 : w6.heap.size < w7.heap.size := by omega
  try have hn6_7 : ¬ w6.heap.size = w7.heap.size := by omega
  try have ho6_7 : ¬ w7.heap.size = w6.heap.size := by omega
  have hB7 := Below.trans (B := w.heap.size) (a := w) (by (repeat' (first | (with_reducible exact Below.refl _ _) | (with_reducible assumption) | (with_reducible refine Below.alloc ?_ ?_ _) | (with_reducible refine Below.drew ?_) | (with_reducible refine below_drewN ?_ _) | (with_reducible refine Below.setCell ?_ ?_ _) | (first | (with_reducible exact Nat.le_refl _) | (with_reducible assumption) | omega | (simp; omega) | (simp; done))))) (hb7.mono (by (first | (with_reducible exact Nat.le_refl _) | (with_reducible assumption) | omega | (simp; omega) | (simp; done))))
  clear hb7
  go_wp2_with (first | (go_at_call 14; (with_reducible refine (num_calls _ _).mono ?_); rintro e w' ⟨rfl, rfl⟩) | (go_at_call 16; (with_reducible refine (live_calls _).mono ?_); rintro e w' ⟨rfl, hb⟩; obtain ⟨hc, hf, hz⟩ := bcell hb; (try simp at hz); (try have hzz : w.heap.size < w'.heap.size := by omega); (try have hzz1 : w.heap.size + 1 < w'.heap.size := by omega); (try have hzz2 : w.heap.size + 2 < w'.heap.size := by omega); have hB := Below.trans (B := w.heap.size) (a := w) (by (repeat' (first | (with_reducible exact Below.refl _ _) | (with_reducible assumption) | (with_reducible refine Below.alloc ?_ ?_ _) | (with_reducible refine Below.drew ?_) | (with_reducible refine below_drewN ?_ _) | (with_reducible refine Below.setCell ?_ ?_ _) | (first | (with_reducible exact Nat.le_refl _) | (with_reducible assumption) | omega | (simp; omega) | (simp; done))))) (hb.mono (by (first | (with_reducible exact Nat.le_refl _) | (with_reducible assumption) | omega | (simp; omega) | (simp; done))))))
  (first | (refine bodyPost_ret (results_tmp rfl _ _ _) rfl ?_) | (refine bodyPost_ret (results_none rfl _ _ _) rfl ?_) | (refine bodyPost_end (results_none rfl _ _ _) rfl ?_) | go_ret2 | go_ret3)
  exact ⟨rfl, by (repeat' (first | (with_reducible exact Below.refl _ _) | (with_reducible assumption) | (with_reducible refine Below.alloc ?_ ?_ _) | (with_reducible refine Below.drew ?_) | (with_reducible refine below_drewN ?_ _) | (with_reducible refine Below.setCell ?_ ?_ _) | (first | (with_reducible exact Nat.le_refl _) | (with_reducible assumption) | omega | (simp; omega) | (simp; done))))⟩

set_option maxHeartbeats 1000000 in
theorem powers_8 (a : Nat) (ha : a < M64) (x : Int) (w : World) :
    Calls Try.prog 11 #[.int .u64 (a : Int), .int .i64 x, .int .i64 8] w fun e w' => e = .returned (.bool true) ∧ Below w.heap.size w w' := by
  have hS : SZ 8 64 := by unfold SZ; omega
  have hA : a % 2 ^ 64 < 2 ^ 64 := Nat.mod_lt _ (by decide)
  obtain ⟨k, hk, hkm⟩ := cnt_of x 63 (by decide) (by decide)
  have hsh : shK 64 k = k := by unfold shK; simp; omega
  have hpk : 2 ^ k < M64 := Nat.pow_lt_pow_right (n := 64) (by decide) (by omega)
  have hw : IntKind.u64.wrap ((2 : Int) ^ k) = ((2 ^ k : Nat) : Int) := by
    rw [IntKind.wrap_u64, show ((2 : Int) ^ k) = ((2 ^ k : Nat) : Int) by simp]
    exact Int.emod_eq_of_lt (Int.natCast_nonneg _) (Int.ofNat_lt.2 hpk)
  have cm := mul_ok 8 64 hS a (2 ^ k) ha hpk
  rw [powers_mul 64 (a % 2 ^ 64) k (by omega) hA (by omega)] at cm
  obtain ⟨z, hz, hz1, hz2⟩ := powers_sar 64 (a % 2 ^ 64) k (by omega) hA
  have c6 := trim_ok 8 64 hS z hz
  rw [hz2] at c6
  rcases Nat.eq_zero_or_pos k with h0 | hp
  · have e1 : a % 2 ^ 64 * 2 ^ k % 2 ^ 64 = a % 2 ^ 64 := by rw [h0, Nat.pow_zero, Nat.mul_one, Nat.mod_mod]
    have e2 : sarR 64 (a % 2 ^ 64) k = a % 2 ^ 64 := by
      rw [h0]; unfold sarR sI
      split <;> simp <;> omega
    rw [e1] at cm
    rw [e2] at c6
    exact powers_core8 a (a % 2 ^ 64) _ _ _ z (2 ^ k) k _ x _ _ _ _ _ _ _ _ _ _ _ _ _ _ _ _ _ _ _ _ w hk (by omega) (by omega) (trim_ok 8 64 hS a ha) (sh0_ok 17 (by omega) 8 64 hS a ha k (by omega) (hsh.trans h0) false false false false false) hw cm
      (sh0_ok 18 (by omega) 8 64 hS a ha k (by omega) (hsh.trans h0) false false false false false) (sh0_ok 19 (by omega) 8 64 hS a ha k (by omega) (hsh.trans h0) false false false false false) (extend_ok 8 64 hS a ha) hz1 (by rw [h0]; simp) c6
  · have c2 := shl_ok 8 64 hS a ha k (by omega) (by omega) false false false false false
    have c3 := shr_ok 8 64 hS a ha k (by omega) (by omega) false false false false false
    have c4 := sar_ok 8 64 hS a ha k (by omega) (by omega) false false false false false
    rw [hsh] at c2 c3 c4
    exact powers_core8 a (a % 2 ^ 64) _ _ _ z (2 ^ k) k _ x _ _ _ _ _ _ _ _ _ _ _ _ _ _ _ _ _ _ _ _ w hk (by omega) (by omega) (trim_ok 8 64 hS a ha) c2 hw cm c3 c4 (extend_ok 8 64 hS a ha) hz1 (by unfold shrR; simp) c6

theorem powers_no (size : Int) (hS : NoSZ size) (a x : Int) (w : World) :
    Calls Try.prog 11 #[.int .u64 a, .int .i64 x, .int .i64 size] w fun e w' => e = .returned (.bool true) ∧ Below w.heap.size w w' := by
  have c1 := trim_no size hS a
  go_enter Try.func11, Try.ntmps11
  go_wp2_with fail
  (with_reducible refine (c1 _).mono ?_)
  rintro e w1 ⟨rfl, hb1⟩
  obtain ⟨hc1, hf1, hz1⟩ := bcell hb1
  try simp at hz1
  try have hl0_1 : w.heap.size < w1.heap.size := by omega
  try have hn0_1 : ¬ w.heap.size = w1.heap.size := by omega
  try have ho0_1 : ¬ w1.heap.size = w.heap.size := by omega
  try have hm0_1 : w.heap.size + 1 < w1.heap.size := by omega
  have hB1 := Below.trans (B := w.heap.size) (a := w) (by (repeat' (first | (with_reducible exact Below.refl _ _) | (with_reducible assumption) | (with_reducible refine Below.alloc ?_ ?_ _) | (with_reducible refine Below.drew ?_) | (with_reducible refine below_drewN ?_ _) | (with_reducible refine Below.setCell ?_ ?_ _) | (first | (with_reducible exact Nat.le_refl _) | (with_reducible assumption) | omega | (simp; omega) | (simp; done))))) (hb1.mono (by (first | (with_reducible exact Nat.le_refl _) | (with_reducible assumption) | omega | (simp; omega) | (simp; done))))
  clear hb1
  go_wp2_with (first | (go_at_call 14; (with_reducible refine (num_calls _ _).mono ?_); rintro e w' ⟨rfl, rfl⟩) | (go_at_call 16; (with_reducible refine (live_calls _).mono ?_); rintro e w' ⟨rfl, hb⟩; obtain ⟨hc, hf, hz⟩ := bcell hb; (try simp at hz); (try have hzz : w.heap.size < w'.heap.size := by omega); (try have hzz1 : w.heap.size + 1 < w'.heap.size := by omega); (try have hzz2 : w.heap.size + 2 < w'.heap.size := by omega); have hB := Below.trans (B := w.heap.size) (a := w) (by (repeat' (first | (with_reducible exact Below.refl _ _) | (with_reducible assumption) | (with_reducible refine Below.alloc ?_ ?_ _) | (with_reducible refine Below.drew ?_) | (with_reducible refine below_drewN ?_ _) | (with_reducible refine Below.setCell ?_ ?_ _) | (first | (with_reducible exact Nat.le_refl _) | (with_reducible assumption) | omega | (simp; omega) | (simp; done))))) (hb.mono (by (first | (with_reducible exact Nat.le_refl _) | (with_reducible assumption) | omega | (simp; omega) | (simp; done))))))
  (first | (refine bodyPost_ret (results_tmp rfl _ _ _) rfl ?_) | (refine bodyPost_ret (results_none rfl _ _ _) rfl ?_) | (refine bodyPost_end (results_none rfl _ _ _) rfl ?_) | go_ret2 | go_ret3)
  exact ⟨rfl, by (repeat' (first | (with_reducible exact Below.refl _ _) | (with_reducible assumption) | (with_reducible refine Below.alloc ?_ ?_ _) | (with_reducible refine Below.drew ?_) | (with_reducible refine below_drewN ?_ _) | (with_reducible refine Below.setCell ?_ ?_ _) | (first | (with_reducible exact Nat.le_refl _) | (with_reducible assumption) | omega | (simp; omega) | (simp; done))))⟩

theorem powers_walk (a0 : Int) (w0 : (Lit.int .u64 a0).wf = true) (a1 : Int) (_w1 : (Lit.int .i64 a1).wf = true) (a2 : Int) (_w2 : (Lit.int .i64 a2).wf = true) (w : World) :
    Calls Try.prog 11 #[.int .u64 a0, .int .i64 a1, .int .i64 a2] w fun e w' => e = .returned (.bool true) ∧ Below w.heap.size w w' := by
  obtain ⟨a, rfl, ha⟩ := nat_u64 w0
  rcases sz_or a2 with h | ⟨n, h⟩
  · exact powers_no a2 h _ _ w
  · rcases h with ⟨rfl, rfl⟩ | ⟨rfl, rfl⟩ | ⟨rfl, rfl⟩
    · exact powers_1 a ha a1 w
    · exact powers_4 a ha a1 w
    · exact powers_8 a ha a1 w
end Go.Proofs.Ytknopookopfoeaa.AluL
