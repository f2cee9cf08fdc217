/- The walk of AluBack. -/
import Derived.Test.YtknopookopfoeaaAluLa
import Derived.Test.YtknopookopfoeaaAluD
namespace Go.Proofs.Ytknopookopfoeaa.AluL
open Go.RowKit Go.Proofs.Ytknopookopfoeaa.AluMath Go.Proofs.Ytknopookopfoeaa.Alu

theorem mod_add_cancel (p A B : Nat) (hA : A < p) (hB : B < p) : ((A + B) % p % p + p - B % p) % p = A := by
  rw [Nat.mod_mod, Nat.mod_eq_of_lt hB]
  rcases Nat.lt_or_ge (A + B) p with h | h
  · rw [Nat.mod_eq_of_lt h, show A + B + p - B = A + p by omega, Nat.add_mod_right, Nat.mod_eq_of_lt hA]
  · have e : (A + B) % p = A + B - p := by rw [Nat.mod_eq_sub_mod h, Nat.mod_eq_of_lt (by omega)]
    rw [e, show A + B - p + p - B = A by omega, Nat.mod_eq_of_lt hA]
theorem neg_mod (p A : Nat) (hA : A < p) : (p - A) % p = if A = 0 then 0 else p - A := by
  split
  · subst_vars; simp
  · exact Nat.mod_eq_of_lt (by omega)

theorem back_facts (n a b : Nat) (hn : n ≤ 64) (ha : a < M64) :
    difR n (sumR n a b 0) b 0 = a % 2 ^ n ∧ difR n 0 (difR n 0 a 0) 0 = a % 2 ^ n ∧ (M64 - 1 - (M64 - 1 - a) % 2 ^ n) % 2 ^ n = a % 2 ^ n ∧ sumR n ((M64 - 1 - a) % 2 ^ n) 1 0 = difR n 0 a 0 := by
  unfold difR sumR
  have hp := Nat.two_pow_pos n
  have hA := Nat.mod_lt a hp
  have hB := Nat.mod_lt b hp
  have hd := pow_dvd_M64 hn
  have hle := pow_le_M64 hn
  have hnot : ∀ x, x < M64 → (M64 - 1 - x) % 2 ^ n = 2 ^ n - 1 - x % 2 ^ n := by
    intro x hx
    obtain ⟨q, hq⟩ := hd
    have hx2 := Nat.div_add_mod x (2 ^ n)
    have hxm := Nat.mod_lt x hp
    have hxq : x / 2 ^ n < q := (Nat.div_lt_iff_lt_mul hp).2 (by rw [Nat.mul_comm, ← hq]; exact hx)
    obtain ⟨s, hs⟩ : ∃ s, q = x / 2 ^ n + 1 + s := ⟨q - (x / 2 ^ n + 1), by omega⟩
    have e : M64 - 1 - x = (2 ^ n - 1 - x % 2 ^ n) + 2 ^ n * s := by
      rw [hq, hs, Nat.mul_add, Nat.mul_add, Nat.mul_one]
      generalize 2 ^ n * (x / 2 ^ n) = z at *
      generalize 2 ^ n * s = y at *
      omega
    rw [e, Nat.add_mul_mod_self_left, Nat.mod_eq_of_lt (by omega)]
  have hlt : (M64 - 1 - a) % 2 ^ n < M64 := Nat.lt_of_lt_of_le (Nat.mod_lt _ hp) hle
  simp only [Nat.add_zero, Nat.sub_zero, Nat.zero_mod, Nat.zero_add]
  refine ⟨(by rw [Nat.mod_mod]; have := mod_add_cancel _ _ _ hA hB; rwa [Nat.mod_mod, Nat.mod_mod] at this), ?_, ?_, ?_⟩
  · rw [Nat.mod_mod, neg_mod _ _ hA]
    split
    · simp [*]
    · rw [show 2 ^ n - (2 ^ n - a % 2 ^ n) = a % 2 ^ n by omega, Nat.mod_mod]
  · rw [hnot _ hlt, hnot _ ha, Nat.mod_eq_of_lt (show 2 ^ n - 1 - a % 2 ^ n < 2 ^ n by omega)]
    omega
  · rw [hnot _ ha, Nat.mod_eq_of_lt (show 2 ^ n - 1 - a % 2 ^ n < 2 ^ n by omega), neg_mod _ _ hA, Nat.add_mod, Nat.mod_mod, ← Nat.add_mod]
    split
    · rw [show 2 ^ n - 1 - a % 2 ^ n + 1 = 2 ^ n by omega, Nat.mod_self]
    · rw [show 2 ^ n - 1 - a % 2 ^ n + 1 = 2 ^ n - a % 2 ^ n by omega, Nat.mod_eq_of_lt (by omega)]

set_option maxHeartbeats 4000000 in
set_option maxRecDepth 100000 in
theorem back_ok (size : Int) (n : Nat) (hS : SZ size n) (a b : Nat) (ha : a < M64) (hb : b < M64) (w : World) :
    Calls Try.prog 9 #[.int .u64 (a : Int), .int .u64 (b : Int), .int .i64 size] w fun e w' => e = .returned (.bool true) ∧ Below w.heap.size w w' := by
  have hn := hS.cases
  have hn64 : n ≤ 64 := by omega
  have hle := pow_le_M64 hn64
  have lt : ∀ x, x % 2 ^ n < M64 := fun x => Nat.lt_of_lt_of_le (Nat.mod_lt _ (Nat.two_pow_pos n)) hle
  obtain ⟨f1, f2, f3, f4⟩ := back_facts n a b hn64 ha
  have c1 := trim_ok size n hS a ha
  have c2 := add_ok0 size n hS a b ha hb
  have c3 := sub_ok0 size n hS (sumR n a b 0) b (lt _) hb
  have c4 := one_neg size n hS a ha false false false false false
  have c5 := one_neg size n hS (difR n 0 a 0) (lt _) false false false false false
  have c6 := one_not size n hS a ha false false false false false
  have c7 := one_not size n hS ((M64 - 1 - a) % 2 ^ n) (lt _) false false false false false
  have c8 := add_ok0 size n hS ((M64 - 1 - a) % 2 ^ n) 1 (lt _) (by decide)
  unfold flagsV at c2 c3 c4 c5 c8
  rw [f1] at c3
  rw [f2] at c5
  rw [f3] at c7
  rw [f4] at c8
  generalize hx : sumR n a b 0 = x at *
  generalize difR n 0 a 0 = m at *
  generalize (M64 - 1 - a) % 2 ^ n = p at *
  generalize a % 2 ^ n = t at *
  clear f1 f2 f3 f4 lt hle hn64 ha hb hx
  go_enter Try.func9, Try.ntmps9
  go_wp2_with fail
  (with_reducible refine (c1 _).mono ?_)
  rintro e w1 ⟨rfl, hb1⟩
  obtain ⟨hc1, hf1, hz1⟩ := bcell hb1
  try simp at hz1
  try have hl0_1 : w.heap.size < w1.heap.size := by omega
  try have hn0_1 : ¬ w.heap.size = w1.heap.size := by omega
  try have ho0_1 : ¬ w1.heap.size = w.heap.size := by omega
  try have hm0_1 : w.heap.size + 1 < w1.heap.size := by omega
  have hB1 := Below.trans (B := w.heap.size) (a := w) (by (repeat' (first | (with_reducible exact Below.refl _ _) | (with_reducible assumption) | (with_reducible refine Below.alloc ?_ ?_ _) | (with_reducible refine Below.drew ?_) | (with_reducible refine below_drewN ?_ _) | (with_reducible refine Below.setCell ?_ ?_ _) | (first | (with_reducible exact Nat.le_refl _) | (with_reducible assumption) | omega | (simp; omega) | (simp; done))))) (hb1.mono (by (first | (with_reducible exact Nat.le_refl _) | (with_reducible assumption) | omega | (simp; omega) | (simp; done))))
  clear hb1
  go_wp2_with fail
  (with_reducible refine (c2 _).mono ?_)
  rintro e w2 ⟨rfl, hb2⟩
  obtain ⟨hc2, hf2, hz2⟩ := bcell hb2
  try simp at hz2
  try have hl0_2 : w.heap.size < w2.heap.size := by omega
  try have hn0_2 : ¬ w.heap.size = w2.heap.size := by omega
  try have ho0_2 : ¬ w2.heap.size = w.heap.size := by omega
  try have hm0_2 : w.heap.size + 1 < w2.heap.size := by omega
  try have hl1_2 : w1.heap.size < w2.heap.size := by omega
  try have hn1_2 : ¬ w1.heap.size = w2.heap.size := by omega
  try have ho1_2 : ¬ w2.heap.size = w1.heap.size := by omega
  have hB2 := Below.trans (B := w.heap.size) (a := w) (by (repeat' (first | (with_reducible exact Below.refl _ _) | (with_reducible assumption) | (with_reducible refine Below.alloc ?_ ?_ _) | (with_reducible refine Below.drew ?_) | (with_reducible refine below_drewN ?_ _) | (with_reducible refine Below.setCell ?_ ?_ _) | (first | (with_reducible exact Nat.le_refl _) | (with_reducible assumption) | omega | (simp; omega) | (simp; done))))) (hb2.mono (by (first | (with_reducible exact Nat.le_refl _) | (with_reducible assumption) | omega | (simp; omega) | (simp; done))))
  clear hb2
  go_wp2_with fail
  (with_reducible refine (c3 _).mono ?_)
  rintro e w3 ⟨rfl, hb3⟩
  obtain ⟨hc3, hf3, hz3⟩ := bcell hb3
  try simp at hz3
  try have hl0_3 : w.heap.size < w3.heap.size := by omega
  try have hn0_3 : ¬ w.heap.size = w3.heap.size := by omega
  try have ho0_3 : ¬ w3.heap.size = w.heap.size := by omega
  try have hm0_3 : w.heap.size + 1 < w3.heap.size := by omega
  try have hl1_3 : w1.heap.size < w3.heap.size := by omega
  try have hn1_3 : ¬ w1.heap.size = w3.heap.size := by omega
  try have ho1_3 : ¬ w3.heap.size = w1.heap.size := by omega
  try have hl2_3 : w2.heap.size < w3.heap.size := by omega
  try have hn2_3 : ¬ w2.heap.size = w3.heap.size := by omega
  try have ho2_3 : ¬ w3.heap.size = w2.heap.size := by omega
  have hB3 := Below.trans (B := w.heap.size) (a := w) (by (repeat' (first | (with_reducible exact Below.refl _ _) | (with_reducible assumption) | (with_reducible refine Below.alloc ?_ ?_ _) | (with_reducible refine Below.drew ?_) | (with_reducible refine below_drewN ?_ _) | (with_reducible refine Below.setCell ?_ ?_ _) | (first | (with_reducible exact Nat.le_refl _) | (with_reducible assumption) | omega | (simp; omega) | (simp; done))))) (hb3.mono (by (first | (with_reducible exact Nat.le_refl _) | (with_reducible assumption) | omega | (simp; omega) | (simp; done))))
  clear hb3
  go_wp2_with ((go_at_call 14; (with_reducible refine (num_calls _ _).mono ?_); rintro e w' ⟨rfl, rfl⟩))
  go_wp2_with fail
  (with_reducible refine (c4 _).mono ?_)
  rintro e w4 ⟨rfl, hb4⟩
  obtain ⟨hc4, hf4, hz4⟩ := bcell hb4
  try simp at hz4
  try have hl0_4 : w.heap.size < w4.heap.size := by omega
  try have hn0_4 : ¬ w.heap.size = w4.heap.size := by omega
  try have ho0_4 : ¬ w4.heap.size = w.heap.size := by omega
  try have hm0_4 : w.heap.size + 1 < w4.heap.size := by omega
  try have hl1_4 : w1.heap.size < w4.heap.size := by omega
  try have hn1_4 : ¬ w1.heap.size = w4.heap.size := by omega
  try have ho1_4 : ¬ w4.heap.size = w1.heap.size := by omega
  try have hl2_4 : w2.heap.size < w4.heap.size := by omega
  try have hn2_4 : ¬ w2.heap.size = w4.heap.size := by omega
  try have ho2_4 : ¬ w4.heap.size = w2.heap.size := by omega
  try have hl3_4 : w3.heap.size < w4.heap.size := by omega
  try have hn3_4 : ¬ w3.heap.size = w4.heap.size := by omega
  try have ho3_4 : ¬ w4.heap.size = w3.heap.size := by omega
  have hB4 := Below.trans (B := w.heap.size) (a := w) (by (repeat' (first | (with_reducible exact Below.refl _ _) | (with_reducible assumption) | (with_reducible refine Below.alloc ?_ ?_ _) | (with_reducible refine Below.drew ?_) | (with_reducible refine below_drewN ?_ _) | (with_reducible refine Below.setCell ?_ ?_ _) | (first | (with_reducible exact Nat.le_refl _) | (with_reducible assumption) | omega | (simp; omega) | (simp; done))))) (hb4.mono (by (first | (with_reducible exact Nat.le_refl _) | (with_reducible assumption) | omega | (simp; omega) | (simp; done))))
  clear hb4
  go_wp2_with fail
  (with_reducible refine (c5 _).mono ?_)
  rintro e w5 ⟨rfl, hb5⟩
  obtain ⟨hc5, hf5, hz5⟩ := bcell hb5
  try simp at hz5
  try have hl0_5 : w.heap.size < w5.heap.size := by omega
  try have hn0_5 : ¬ w.heap.size = w5.heap.size := by omega
  try have ho0_5 : ¬ w5.heap.size = w.heap.size := by omega
  try have hm0_5 : w.heap.size + 1 < w5.heap.size := by omega
  try have hl1_5 : w1.heap.size < w5.heap.size := by omega
  try have hn1_5 : ¬ w1.heap.size = w5.heap.size := by omega
  try have ho1_5 : ¬ w5.heap.size = w1.heap.size := by omega
  try have hl2_5 : w2.heap.size < w5.heap.size := by omega
  try have hn2_5 : ¬ w2.heap.size = w5.heap.size := by omega
  try have ho2_5 : ¬ w5.heap.size = w2.heap.size := by omega
  try have hl3_5 : w3.heap.size < w5.heap.size := by omega
  try have hn3_5 : ¬ w3.heap.size = w5.heap.size := by omega
  try have ho3_5 : ¬ w5.heap.size = w3.heap.size := by omega
  try have hl4_5 : w4.heap.size < w5.heap.size := by omega
  try have hn4_5 : ¬ w4.heap.size = w5.heap.size := by omega
  try have ho4_5 : ¬ w5.heap.size = w4.heap.size := by omega
  have hB5 := Below.trans (B := w.heap.size) (a := w) (by (repeat' (first | (with_reducible exact Below.refl _ _) | (with_reducible assumption) | (with_reducible refine Below.alloc ?_ ?_ _) | (with_reducible refine Below.drew ?_) | (with_reducible refine below_drewN ?_ _) | (with_reducible refine Below.setCell ?_ ?_ _) | (first | (with_reducible exact Nat.le_refl _) | (with_reducible assumption) | omega | (simp; omega) | (simp; done))))) (hb5.mono (by (first | (with_reducible exact Nat.le_refl _) | (with_reducible assumption) | omega | (simp; omega) | (simp; done))))
  clear hb5
  go_wp2_with fail
  (with_reducible refine (c6 _).mono ?_)
  rintro e w6 ⟨rfl, hb6⟩
  obtain ⟨hc6, hf6, hz6⟩ := bcell hb6
  try simp at hz6
  try have hl0_6 : w.heap.size < w6.heap.size := by omega
  try have hn0_6 : ¬ w.heap.size = w6.heap.size := by omega
  try have ho0_6 : ¬ w6.heap.size = w.heap.size := by omega
  try have hm0_6 : w.heap.size + 1 < w6.heap.size := by omega
  try have hl1_6 : w1.heap.size < w6.heap.size := by omega
  try have hn1_6 : ¬ w1.heap.size = w6.heap.size := by omega
  try have ho1_6 : ¬ w6.heap.size = w1.heap.size := by omega
  try have hl2_6 : w2.heap.size < w6.heap.size := by omega
  try have hn2_6 : ¬ w2.heap.size = w6.heap.size := by omega
  try have ho2_6 : ¬ w6.heap.size = w2.heap.size := by omega
  try have hl3_6 : w3.heap.size < w6.heap.size := by omega
  try have hn3_6 : ¬ w3.heap.size = w6.heap.size := by omega
  try have ho3_6 : ¬ w6.heap.size = w3.heap.size := by omega
  try have hl4_6 : w4.heap.size < w6.heap.size := by omega
  try have hn4_6 : ¬ w4.heap.size = w6.heap.size := by omega
  try have ho4_6 : ¬ w6.heap.size = w4.heap.size := by omega
  try have hl5_6 : w5.heap.size < w6.heap.size := by omega
  try have hn5_6 : ¬ w5.heap.size = w6.heap.size := by omega
  try have ho5_6 : ¬ w6.heap.size = w5.heap.size := by omega
  have hB6 := Below.trans (B := w.heap.size) (a := w) (by (repeat' (first | (with_reducible exact Below.refl _ _) | (with_reducible assumption) | (with_reducible refine Below.alloc ?_ ?_ _) | (with_reducible refine Below.drew ?_) | (with_reducible refine below_drewN ?_ _) | (with_reducible refine Below.setCell ?_ ?_ _) | (first | (with_reducible exact Nat.le_refl _) | (with_reducible assumption) | omega | (simp; omega) | (simp; done))))) (hb6.mono (by (first | (with_reducible exact Nat.le_refl _) | (with_reducible assumption) | omega | (simp; omega) | (simp; done))))
  clear hb6
  go_wp2_with fail
  (with_reducible refine (c7 _).mono ?_)
  rintro e w7 ⟨rfl, hb7⟩
  obtain ⟨hc7, hf7, hz7⟩ := bcell hb7
  try simp at hz7
  try have hl0_7 : w.heap.size < w7.heap.size := by omega
  try have hn0_7 : ¬ w.heap.size = w7.heap.size := by omega
  try have ho0_7 : ¬ w7.heap.size = w.heap.size := by omega
  try have hm0_7 : w.heap.size + 1 < w7.heap.size := by omega
  try have hl1_7 : w1.heap.size < w7.heap.size := by omega
  try have hn1_7 : ¬ w1.heap.size = w7.heap.size := by omega
  try have ho1_7 : ¬ w7.heap.size = w1.heap.size := by omega
  try have hl2_7 : w2.heap.size < w7.heap.size := by omega
  try have hn2_7 : ¬ w2.heap.size = w7.heap.size := by omega
  try have ho2_7 : ¬ w7.heap.size = w2.heap.size := by omega
  try have hl3_7 : w3.heap.size < w7.heap.size := by omega
  try have hn3_7 : ¬ w3.heap.size = w7.heap.size := by omega
  try have ho3_7 : ¬ w7.heap.size = w3.heap.size := by omega
  try have hl4_7 : w4.heap.size < w7.heap.size := by omega
  try have hn4_7 : ¬ w4.heap.size = w7.heap.size := by omega
  try have ho4_7 : ¬ w7.heap.size = w4.heap.size := by omega
  try have hl5_7 : w5.heap.size < w7.heap.size := by omega
  try have hn5_7 : ¬ w5.heap.size = w7.heap.size := by omega
  try have ho5_7 : ¬ w7.heap.size = w5.heap.size := by omega
  try have hl6_7 : w6.heap.size < w7.heap.size := by omega
  try have hn6_7 : ¬ w6.heap.size = w7.heap.size := by omega
  try have ho6_7 : ¬ w7.heap.size = w6.heap.size := by omega
  have hB7 := Below.trans (B := w.heap.size) (a := w) (by (repeat' (first | (with_reducible exact Below.refl _ _) | (with_reducible assumption) | (with_reducible refine Below.alloc ?_ ?_ _) | (with_reducible refine Below.drew ?_) | (with_reducible refine below_drewN ?_ _) | (with_reducible refine Below.setCell ?_ ?_ _) | (first | (with_reducible exact Nat.le_refl _) | (with_reducible assumption) | omega | (simp; omega) | (simp; done))))) (hb7.mono (by (first | (with_reducible exact Nat.le_refl _) | (with_reducible assumption) | omega | (simp; omega) | (simp; done))))
  clear hb7
  go_wp2_with fail
  (refine (c8 _).mono ?_)
  rintro e w8 ⟨rfl, hb8⟩
  obtain ⟨hc8, hf8, hz8⟩ := bcell hb8
  try simp at hz8
  try have hl0_8 : w.heap.size < w8.heap.size := by omega
  try have hn0_8 : ¬ w.heap.size = w8.heap.size := by omega
  try have ho0_8 : ¬ w8.heap.size = w.heap.size := by omega
  try have hm0_8 : w.heap.size + 1 < w8.heap.size := by omega
  try have hl1_8 : w1.heap.size < w8.heap.size := by omega
  try have hn1_8 : ¬ w1.heap.size = w8.heap.size := by omega
  try have ho1_8 : ¬ w8.heap.size = w1.heap.size := by omega
  try have hl2_8 : w2.heap.size < w8.heap.size := by omega
  try have hn2_8 : ¬ w2.heap.size = w8.heap.size := by omega
  try have ho2_8 : ¬ w8.heap.size = w2.heap.size := by omega
  try have hl3_8 : w3.heap.size < w8.heap.size := by omega
  try have hn3_8 : ¬ w3.heap.size = w8.heap.size := by omega
  try have ho3_8 : ¬ w8.heap.size = w3.heap.size := by omega
  try have hl4_8 : w4.heap.size < w8.heap.size := by omega
  try have hn4_8 : ¬ w4.heap.size = w8.heap.size := by omega
  try have ho4_8 : ¬ w8.heap.size = w4.heap.size := by omega
  try have hl5_8 : w5.heap.size < w8.heap.size := by omega
  try have hn5_8 : ¬ w5.heap.size = w8.heap.size := by omega
  try have ho5_8 : ¬ w8.heap.size = w5.heap.size := by omega
  try have hl6_8 : w6.heap.size < w8.heap.size := by omega
  try have hn6_8 : ¬ w6.heap.size = w8.heap.size := by omega
  try have ho6_8 : ¬ w8.heap.size = w6.heap.size := by omega
  try have hl7_8 : w7.heap.size < w8.heap.size := by omega
  try have hn7_8 : ¬ w7.heap.size = w8.heap.size := by omega
  try have ho7_8 : ¬ w8.heap.size = w7.heap.size := by omega
  have hB8 := Below.trans (B := w.heap.size) (a := w) (by (repeat' (first | (with_reducible exact Below.refl _ _) | (with_reducible assumption) | (with_reducible refine Below.alloc ?_ ?_ _) | (with_reducible refine Below.drew ?_) | (with_reducible refine below_drewN ?_ _) | (with_reducible refine Below.setCell ?_ ?_ _) | (first | (with_reducible exact Nat.le_refl _) | (with_reducible assumption) | omega | (simp; omega) | (simp; done))))) (hb8.mono (by (first | (with_reducible exact Nat.le_refl _) | (with_reducible assumption) | omega | (simp; omega) | (simp; done))))
  clear hb8
  go_wp2_with (first | (go_at_call 14; (with_reducible refine (num_calls _ _).mono ?_); rintro e w' ⟨rfl, rfl⟩) | (go_at_call 16; (with_reducible refine (live_calls _).mono ?_); rintro e w' ⟨rfl, hb⟩; obtain ⟨hc, hf, hz⟩ := bcell hb; (try simp at hz); (try have hzz : w.heap.size < w'.heap.size := by omega); (try have hzz1 : w.heap.size + 1 < w'.heap.size := by omega); (try have hzz2 : w.heap.size + 2 < w'.heap.size := by omega); have hB := Below.trans (B := w.heap.size) (a := w) (by (repeat' (first | (with_reducible exact Below.refl _ _) | (with_reducible assumption) | (with_reducible refine Below.alloc ?_ ?_ _) | (with_reducible refine Below.drew ?_) | (with_reducible refine below_drewN ?_ _) | (with_reducible refine Below.setCell ?_ ?_ _) | (first | (with_reducible exact Nat.le_refl _) | (with_reducible assumption) | omega | (simp; omega) | (simp; done))))) (hb.mono (by (first | (with_reducible exact Nat.le_refl _) | (with_reducible assumption) | omega | (simp; omega) | (simp; done))))))
  (first | (refine bodyPost_ret (results_tmp rfl _ _ _) rfl ?_) | (refine bodyPost_ret (results_none rfl _ _ _) rfl ?_) | (refine bodyPost_end (results_none rfl _ _ _) rfl ?_) | go_ret2 | go_ret3)
  exact ⟨rfl, by (repeat' (first | (with_reducible exact Below.refl _ _) | (with_reducible assumption) | (with_reducible refine Below.alloc ?_ ?_ _) | (with_reducible refine Below.drew ?_) | (with_reducible refine below_drewN ?_ _) | (with_reducible refine Below.setCell ?_ ?_ _) | (first | (with_reducible exact Nat.le_refl _) | (with_reducible assumption) | omega | (simp; omega) | (simp; done))))⟩

set_option maxHeartbeats 1000000 in
theorem back_no (size : Int) (hS : NoSZ size) (a b : Int) (w : World) :
    Calls Try.prog 9 #[.int .u64 a, .int .u64 b, .int .i64 size] w fun e w' => e = .returned (.bool true) ∧ Below w.heap.size w w' := by
  have c1 := trim_no size hS a
  have c2 := add_no size hS a b false
  have c3 := sub_no size hS 0 b false
  go_enter Try.func9, Try.ntmps9
  go_wp2_with fail
  (with_reducible refine (c1 _).mono ?_)
  rintro e w1 ⟨rfl, hb1⟩
  obtain ⟨hc1, hf1, hz1⟩ := bcell hb1
  try simp at hz1
  try have hl0_1 : w.heap.size < w1.heap.size := by omega
  try have hn0_1 : ¬ w.heap.size = w1.heap.size := by omega
  try have ho0_1 : ¬ w1.heap.size = w.heap.size := by omega
  try have hm0_1 : w.heap.size + 1 < w1.heap.size := by omega
  have hB1 := Below.trans (B := w.heap.size) (a := w) (by (repeat' (first | (with_reducible exact Below.refl _ _) | (with_reducible assumption) | (with_reducible refine Below.alloc ?_ ?_ _) | (with_reducible refine Below.drew ?_) | (with_reducible refine below_drewN ?_ _) | (with_reducible refine Below.setCell ?_ ?_ _) | (first | (with_reducible exact Nat.le_refl _) | (with_reducible assumption) | omega | (simp; omega) | (simp; done))))) (hb1.mono (by (first | (with_reducible exact Nat.le_refl _) | (with_reducible assumption) | omega | (simp; omega) | (simp; done))))
  clear hb1
  go_wp2_with fail
  (with_reducible refine (c2 _).mono ?_)
  rintro e w2 ⟨rfl, hb2⟩
  obtain ⟨hc2, hf2, hz2⟩ := bcell hb2
  try simp at hz2
  try have hl0_2 : w.heap.size < w2.heap.size := by omega
  try have hn0_2 : ¬ w.heap.size = w2.heap.size := by omega
  try have ho0_2 : ¬ w2.heap.size = w.heap.size := by omega
  try have hm0_2 : w.heap.size + 1 < w2.heap.size := by omega
  try have hl1_2 : w1.heap.size < w2.heap.size := by omega
  try have hn1_2 : ¬ w1.heap.size = w2.heap.size := by omega
  try have ho1_2 : ¬ w2.heap.size = w1.heap.size := by omega
  have hB2 := Below.trans (B := w.heap.size) (a := w) (by (repeat' (first | (with_reducible exact Below.refl _ _) | (with_reducible assumption) | (with_reducible refine Below.alloc ?_ ?_ _) | (with_reducible refine Below.drew ?_) | (with_reducible refine below_drewN ?_ _) | (with_reducible refine Below.setCell ?_ ?_ _) | (first | (with_reducible exact Nat.le_refl _) | (with_reducible assumption) | omega | (simp; omega) | (simp; done))))) (hb2.mono (by (first | (with_reducible exact Nat.le_refl _) | (with_reducible assumption) | omega | (simp; omega) | (simp; done))))
  clear hb2
  go_wp2_with fail
  (with_reducible refine (c3 _).mono ?_)
  rintro e w3 ⟨rfl, hb3⟩
  obtain ⟨hc3, hf3, hz3⟩ := bcell hb3
  try simp at hz3
  try have hl0_3 : w.heap.size < w3.heap.size := by omega
  try have hn0_3 : ¬ w.heap.size = w3.heap.size := by omega
  try have ho0_3 : ¬ w3.heap.size = w.heap.size := by omega
  try have hm0_3 : w.heap.size + 1 < w3.heap.size := by omega
  try have hl1_3 : w1.heap.size < w3.heap.size := by omega
  try have hn1_3 : ¬ w1.heap.size = w3.heap.size := by omega
  try have ho1_3 : ¬ w3.heap.size = w1.heap.size := by omega
  try have hl2_3 : w2.heap.size < w3.heap.size := by omega
  try have hn2_3 : ¬ w2.heap.size = w3.heap.size := by omega
  try have ho2_3 : ¬ w3.heap.size = w2.heap.size := by omega
  have hB3 := Below.trans (B := w.heap.size) (a := w) (by (repeat' (first | (with_reducible exact Below.refl _ _) | (with_reducible assumption) | (with_reducible refine Below.alloc ?_ ?_ _) | (with_reducible refine Below.drew ?_) | (with_reducible refine below_drewN ?_ _) | (with_reducible refine Below.setCell ?_ ?_ _) | (first | (with_reducible exact Nat.le_refl _) | (with_reducible assumption) | omega | (simp; omega) | (simp; done))))) (hb3.mono (by (first | (with_reducible exact Nat.le_refl _) | (with_reducible assumption) | omega | (simp; omega) | (simp; done))))
  clear hb3
  go_wp2_with (first | (go_at_call 14; (with_reducible refine (num_calls _ _).mono ?_); rintro e w' ⟨rfl, rfl⟩) | (go_at_call 16; (with_reducible refine (live_calls _).mono ?_); rintro e w' ⟨rfl, hb⟩; obtain ⟨hc, hf, hz⟩ := bcell hb; (try simp at hz); (try have hzz : w.heap.size < w'.heap.size := by omega); (try have hzz1 : w.heap.size + 1 < w'.heap.size := by omega); (try have hzz2 : w.heap.size + 2 < w'.heap.size := by omega); have hB := Below.trans (B := w.heap.size) (a := w) (by (repeat' (first | (with_reducible exact Below.refl _ _) | (with_reducible assumption) | (with_reducible refine Below.alloc ?_ ?_ _) | (with_reducible refine Below.drew ?_) | (with_reducible refine below_drewN ?_ _) | (with_reducible refine Below.setCell ?_ ?_ _) | (first | (with_reducible exact Nat.le_refl _) | (with_reducible assumption) | omega | (simp; omega) | (simp; done))))) (hb.mono (by (first | (with_reducible exact Nat.le_refl _) | (with_reducible assumption) | omega | (simp; omega) | (simp; done))))))
  (first | (refine bodyPost_ret (results_tmp rfl _ _ _) rfl ?_) | (refine bodyPost_ret (results_none rfl _ _ _) rfl ?_) | (refine bodyPost_end (results_none rfl _ _ _) rfl ?_) | go_ret2 | go_ret3)
  exact ⟨rfl, by (repeat' (first | (with_reducible exact Below.refl _ _) | (with_reducible assumption) | (with_reducible refine Below.alloc ?_ ?_ _) | (with_reducible refine Below.drew ?_) | (with_reducible refine below_drewN ?_ _) | (with_reducible refine Below.setCell ?_ ?_ _) | (first | (with_reducible exact Nat.le_refl _) | (with_reducible assumption) | omega | (simp; omega) | (simp; done))))⟩

theorem back_walk (a0 : Int) (w0 : (Lit.int .u64 a0).wf = true) (a1 : Int) (w1 : (Lit.int .u64 a1).wf = true) (a2 : Int) (_w2 : (Lit.int .i64 a2).wf = true) (w : World) :
    Calls Try.prog 9 #[.int .u64 a0, .int .u64 a1, .int .i64 a2] w fun e w' => e = .returned (.bool true) ∧ Below w.heap.size w w' := by
  obtain ⟨a, rfl, ha⟩ := nat_u64 w0
  obtain ⟨b, rfl, hb⟩ := nat_u64 w1
  rcases sz_or a2 with h | ⟨n, h⟩
  · exact back_no a2 h _ _ w
  · exact back_ok a2 n h a b ha hb w
end Go.Proofs.Ytknopookopfoeaa.AluL
