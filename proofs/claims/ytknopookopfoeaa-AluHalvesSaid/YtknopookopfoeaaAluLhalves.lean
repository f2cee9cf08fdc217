/- The walk of AluHalves: sums and differences of 8 bytes in two halves. -/
import Derived.Test.YtknopookopfoeaaAluLa
namespace Go.Proofs.Ytknopookopfoeaa.AluL
open Go.RowKit Go.Proofs.Ytknopookopfoeaa.AluMath Go.Proofs.Ytknopookopfoeaa.Alu

theorem top_half (x u l : Nat) (h : x = u * 4294967296 + l) (hl : l < 4294967296) : topB 64 x = topB 32 u := by
  unfold topB
  have e : x / 2 ^ (64 - 1) % 2 = u / 2 ^ (32 - 1) % 2 := by simp; omega
  rw [e]

theorem sum_half (a b : Nat) (ha : a < M64) (hb : b < M64) (al ah bl bh l u x : Nat) (g C : Bool) (h1 : al = a % 4294967296) (h2 : ah = a / 4294967296) (h3 : bl = b % 4294967296) (h4 : bh = b / 4294967296)
    (hl : l = sumR 32 al bl 0) (hg : g = sumC 32 al bl 0) (hu : u = sumR 32 ah bh (b2n g)) (hx : x = sumR 64 a b 0) (hC : C = sumC 64 a b 0) :
    x = u * 4294967296 + l ∧ l < 4294967296 ∧ u < 4294967296 ∧ sumC 32 ah bh (b2n g) = C ∧ topB 32 u = topB 64 x ∧ sumO 32 ah bh (b2n g) = sumO 64 a b 0 ∧ x = (a + b) % M64 := by
  unfold M64 at *
  have e1 : l = (al + bl) % 4294967296 := by rw [hl]; unfold sumR; simp <;> omega
  have e2 : g = decide (4294967296 ≤ al + bl) := by
    rw [hg]; unfold sumC
    simp
    omega
  have e3 : u = (ah + bh + b2n g) % 4294967296 := by rw [hu]; unfold sumR; simp <;> omega
  have e4 : x = (a + b) % 18446744073709551616 := by rw [hx]; unfold sumR; simp <;> omega
  have hlb : l < 4294967296 := by omega
  have hub : u < 4294967296 := by omega
  have hgn : b2n g = (al + bl) / 4294967296 := by
    rw [e2]; unfold b2n
    by_cases h : 4294967296 ≤ al + bl
    · simp [h]; omega
    · simp [h]; omega
  have k1 : x = u * 4294967296 + l := by rw [hgn] at e3; omega
  have k2 : sumC 32 ah bh (b2n g) = C := by
    rw [hC, hgn]; unfold sumC
    rw [Bool.eq_iff_iff]
    simp
    omega
  have t1 := top_half x u l k1 hlb
  refine ⟨k1, hlb, hub, k2, t1.symm, ?_, e4⟩
  unfold sumO oAdd
  rw [← hu, ← hx, t1, top_half (a % 2 ^ 64) (ah % 2 ^ 32) al (by simp; omega) (by omega), top_half (b % 2 ^ 64) (bh % 2 ^ 32) bl (by simp; omega) (by omega)]

theorem dif_half (a b : Nat) (ha : a < M64) (hb : b < M64) (al ah bl bh l u x : Nat) (g C : Bool) (h1 : al = a % 4294967296) (h2 : ah = a / 4294967296) (h3 : bl = b % 4294967296) (h4 : bh = b / 4294967296)
    (hl : l = difR 32 al bl 0) (hg : g = difC 32 al bl 0) (hu : u = difR 32 ah bh (b2n g)) (hx : x = difR 64 a b 0) (hC : C = difC 64 a b 0) :
    x = u * 4294967296 + l ∧ l < 4294967296 ∧ u < 4294967296 ∧ difC 32 ah bh (b2n g) = C ∧ topB 32 u = topB 64 x ∧ difO 32 ah bh (b2n g) = difO 64 a b 0 ∧ x = (a + M64 - b) % M64 := by
  unfold M64 at *
  have e1 : l = (al + 4294967296 - bl) % 4294967296 := by rw [hl]; unfold difR; simp <;> omega
  have e2 : g = decide (al < bl) := by
    rw [hg]; unfold difC
    simp
    omega
  have hg1 := b2n_le g
  have e3 : u = (ah + 4294967296 - bh - b2n g) % 4294967296 := by rw [hu]; unfold difR; simp <;> omega
  have e4 : x = (a + 18446744073709551616 - b) % 18446744073709551616 := by rw [hx]; unfold difR; simp <;> omega
  have hlb : l < 4294967296 := by omega
  have hub : u < 4294967296 := by omega
  have hgn : b2n g = if al < bl then 1 else 0 := by rw [e2]; unfold b2n; simp
  have k1 : x = u * 4294967296 + l := by
    by_cases h : al < bl
    · rw [if_pos h] at hgn; rw [hgn] at e3; omega
    · rw [if_neg h] at hgn; rw [hgn] at e3; omega
  have k2 : difC 32 ah bh (b2n g) = C := by
    rw [hC]; unfold difC
    rw [Bool.eq_iff_iff]
    simp
    by_cases h : al < bl
    · rw [if_pos h] at hgn; omega
    · rw [if_neg h] at hgn; omega
  have t1 := top_half x u l k1 hlb
  refine ⟨k1, hlb, hub, k2, t1.symm, ?_, e4⟩
  unfold difO oSub
  rw [← hu, ← hx, t1, top_half (a % 2 ^ 64) (ah % 2 ^ 32) al (by simp; omega) (by omega), top_half (b % 2 ^ 64) (bh % 2 ^ 32) bl (by simp; omega) (by omega)]

theorem halves_calls (a l h : Nat) (ha : a < M64) (hl : l = a % 4294967296) (hh : h = a / 4294967296) (w : World) :
    Calls Try.prog 12 #[.int .u64 (a : Int)] w fun e w' => e = .returned (.tuple #[.int .u64 (l : Int), .int .u64 (h : Int)]) ∧ w = w' := by
  have e1 : bits .and .u64 (a : Int) 4294967295 = (l : Int) := by rw [hl]; exact mask_eq 32 a 4294967295 rfl (by decide) ha
  have e2 : (a : Int) / 4294967296 = (h : Int) := by rw [hh]; rfl
  clear hl hh
  go_enter Try.func12, Try.ntmps12
  go_wp2
  (first | (refine bodyPost_ret (results_tmp rfl _ _ _) rfl ?_) | (refine bodyPost_ret (results_none rfl _ _ _) rfl ?_) | (refine bodyPost_end (results_none rfl _ _ _) rfl ?_) | go_ret2 | go_ret3)
  exact ⟨rfl, rfl⟩

theorem or_half (x u l : Nat) (h : x = u * 4294967296 + l) (hl : l < 4294967296) (hu : u < 4294967296) : bits .or .u64 ((u : Int) * 4294967296) (l : Int) = (x : Int) := by
  have e := u64_or_nat (u * 4294967296) l (by omega) (by omega)
  rw [nat_join 32 (u * 4294967296) l (by omega) (by omega), ← h] at e
  rw [← e]; rfl

set_option maxHeartbeats 4000000 in
set_option maxRecDepth 100000 in
theorem halves_walk (a0 : Int) (w0 : (Lit.int .u64 a0).wf = true) (a1 : Int) (w1 : (Lit.int .u64 a1).wf = true) (w : World) :
    Calls Try.prog 3 #[.int .u64 a0, .int .u64 a1] w fun e w' => e = .returned (.bool true) ∧ Below w.heap.size w w' := by
  obtain ⟨a, rfl, ha⟩ := nat_u64 w0
  obtain ⟨b, rfl, hb⟩ := nat_u64 w1
  clear w0 w1
  obtain ⟨al, hal⟩ : ∃ x, x = a % 4294967296 := ⟨_, rfl⟩
  obtain ⟨ah, hah⟩ : ∃ x, x = a / 4294967296 := ⟨_, rfl⟩
  obtain ⟨bl, hbl⟩ : ∃ x, x = b % 4294967296 := ⟨_, rfl⟩
  obtain ⟨bh, hbh⟩ : ∃ x, x = b / 4294967296 := ⟨_, rfl⟩
  have S4 : SZ 4 32 := by unfold SZ; omega
  have S8 : SZ 8 64 := by unfold SZ; omega
  have hal2 : al < M64 := by omega
  have hah2 : ah < M64 := by omega
  have hbl2 : bl < M64 := by omega
  have hbh2 : bh < M64 := by omega
  have p1 := halves_calls a al ah ha hal hah
  have p2 := halves_calls b bl bh hb hbl hbh
  have c1 := add_ok0 8 64 S8 a b ha hb
  have c2 := add_ok0 4 32 S4 al bl hal2 hbl2
  have c3 := add_ok 4 32 S4 ah bh hah2 hbh2 (sumC 32 al bl 0)
  obtain ⟨hx, hl, hu, hC, hS, hO, hs⟩ := sum_half a b ha hb al ah bl bh _ _ _ _ _ hal hah hbl hbh rfl rfl rfl rfl rfl
  have d1 := sub_ok0 8 64 S8 a b ha hb
  have d2 := sub_ok0 4 32 S4 al bl hal2 hbl2
  have d3 := sub_ok 4 32 S4 ah bh hah2 hbh2 (difC 32 al bl 0)
  obtain ⟨kx, kl, ku, kC, kS, kO, ks⟩ := dif_half a b ha hb al ah bl bh _ _ _ _ _ hal hah hbl hbh rfl rfl rfl rfl rfl
  unfold flagsV at c1 c2 c3 d1 d2 d3
  rw [hC, hS, hO] at c3
  rw [kC, kS, kO] at d3
  have o1 := or_half _ _ _ hx hl hu
  have o2 := or_half _ _ _ kx kl ku
  have s1 : IntKind.u64.wrap ((a : Int) + (b : Int)) = ((sumR 64 a b 0 : Nat) : Int) := by rw [IntKind.wrap_u64, hs]; rfl
  have s2 : IntKind.u64.wrap ((a : Int) - (b : Int)) = ((difR 64 a b 0 : Nat) : Int) := by rw [IntKind.wrap_u64, ks]; unfold M64 at *; omega
  clear hx hC hS hO hs kx kC kS kO ks hal hah hbl hbh ha hb hal2 hah2 hbl2 hbh2 S4 S8
  generalize sumR 32 ah bh (b2n (sumC 32 al bl 0)) = u at *
  generalize difR 32 ah bh (b2n (difC 32 al bl 0)) = v at *
  generalize sumR 32 al bl 0 = l1 at *
  generalize difR 32 al bl 0 = l2 at *
  generalize sumC 32 al bl 0 = g1 at *
  generalize difC 32 al bl 0 = g2 at *
  generalize sumR 64 a b 0 = x1 at *
  generalize difR 64 a b 0 = x2 at *
  generalize sumC 64 a b 0 = C1 at *
  generalize difC 64 a b 0 = C2 at *
  generalize sumO 64 a b 0 = O1 at *
  generalize difO 64 a b 0 = O2 at *
  generalize topB 64 x1 = S1 at *
  generalize topB 64 x2 = S2 at *
  have hl' : (l1 : Int) < 4294967296 := by omega
  have hu' : (u : Int) < 4294967296 := by omega
  have kl' : (l2 : Int) < 4294967296 := by omega
  have ku' : (v : Int) < 4294967296 := by omega
  clear hl hu kl ku
  go_enter Try.func3, Try.ntmps3
  go_wp2_with fail
  (with_reducible refine (p1 _).mono ?_)
  rintro e w' ⟨rfl, rfl⟩
  go_wp2_with fail
  (with_reducible refine (p2 _).mono ?_)
  rintro e w' ⟨rfl, rfl⟩
  go_wp2_with fail
  (with_reducible refine (c1 _).mono ?_)
  rintro e w1 ⟨rfl, hb1⟩
  obtain ⟨hc1, hf1, hz1⟩ := bcell hb1
  try simp at hz1
  try have hl0_1 : w.heap.size < w1.heap.size := by omega
  try have hn0_1 : ¬ w.heap.size = w1.heap.size := by omega
  try have ho0_1 : ¬ w1.heap.size = w.heap.size := by omega
  try have hm0_1 : w.heap.size + 1 < w1.heap.size := by omega
  have hB1 := Below.trans (B := w.heap.size) (a := w) (by (repeat' (first | (with_reducible exact Below.refl _ _) | (with_reducible assumption) | (with_reducible refine Below.alloc ?_ ?_ _) | (with_reducible refine Below.drew ?_) | (with_reducible refine below_drewN ?_ _) | (with_reducible refine Below.setCell ?_ ?_ _) | (first | (with_reducible exact Nat.le_refl _) | (with_reducible assumption) | omega | (simp; omega) | (simp; done))))) (hb1.mono (by (first | (with_reducible exact Nat.le_refl _) | (with_reducible assumption) | omega | (simp; omega) | (simp; done))))
  clear hb1
  go_wp2_with fail
  (with_reducible refine (c2 _).mono ?_)
  rintro e w2 ⟨rfl, hb2⟩
  obtain ⟨hc2, hf2, hz2⟩ := bcell hb2
  try simp at hz2
  try have hl0_2 : w.heap.size < w2.heap.size := by omega
  try have hn0_2 : ¬ w.heap.size = w2.heap.size := by omega
  try have ho0_2 : ¬ w2.heap.size = w.heap.size := by omega
  try have hm0_2 : w.heap.size + 1 < w2.heap.size := by omega
  try have hl1_2 : w1.heap.size < w2.heap.size := by omega
  try have hn1_2 : ¬ w1.heap.size = w2.heap.size := by omega
  try have ho1_2 : ¬ w2.heap.size = w1.heap.size := by omega
  have hB2 := Below.trans (B := w.heap.size) (a := w) (by (repeat' (first | (with_reducible exact Below.refl _ _) | (with_reducible assumption) | (with_reducible refine Below.alloc ?_ ?_ _) | (with_reducible refine Below.drew ?_) | (with_reducible refine below_drewN ?_ _) | (with_reducible refine Below.setCell ?_ ?_ _) | (first | (with_reducible exact Nat.le_refl _) | (with_reducible assumption) | omega | (simp; omega) | (simp; done))))) (hb2.mono (by (first | (with_reducible exact Nat.le_refl _) | (with_reducible assumption) | omega | (simp; omega) | (simp; done))))
  clear hb2
  go_wp2_with fail
  (with_reducible refine (c3 _).mono ?_)
  rintro e w3 ⟨rfl, hb3⟩
  obtain ⟨hc3, hf3, hz3⟩ := bcell hb3
  try simp at hz3
  try have hl0_3 : w.heap.size < w3.heap.size := by omega
  try have hn0_3 : ¬ w.heap.size = w3.heap.size := by omega
  try have ho0_3 : ¬ w3.heap.size = w.heap.size := by omega
  try have hm0_3 : w.heap.size + 1 < w3.heap.size := by omega
  try have hl1_3 : w1.heap.size < w3.heap.size := by omega
  try have hn1_3 : ¬ w1.heap.size = w3.heap.size := by omega
  try have ho1_3 : ¬ w3.heap.size = w1.heap.size := by omega
  try have hl2_3 : w2.heap.size < w3.heap.size := by omega
  try have hn2_3 : ¬ w2.heap.size = w3.heap.size := by omega
  try have ho2_3 : ¬ w3.heap.size = w2.heap.size := by omega
  have hB3 := Below.trans (B := w.heap.size) (a := w) (by (repeat' (first | (with_reducible exact Below.refl _ _) | (with_reducible assumption) | (with_reducible refine Below.alloc ?_ ?_ _) | (with_reducible refine Below.drew ?_) | (with_reducible refine below_drewN ?_ _) | (with_reducible refine Below.setCell ?_ ?_ _) | (first | (with_reducible exact Nat.le_refl _) | (with_reducible assumption) | omega | (simp; omega) | (simp; done))))) (hb3.mono (by (first | (with_reducible exact Nat.le_refl _) | (with_reducible assumption) | omega | (simp; omega) | (simp; done))))
  clear hb3
  go_wp2_with ((go_at_call 14; (with_reducible refine (num_calls _ _).mono ?_); rintro e w' ⟨rfl, rfl⟩))
  go_wp2_with fail
  (with_reducible refine (d1 _).mono ?_)
  rintro e w4 ⟨rfl, hb4⟩
  obtain ⟨hc4, hf4, hz4⟩ := bcell hb4
  try simp at hz4
  try have hl0_4 : w.heap.size < w4.heap.size := by omega
  try have hn0_4 : ¬ w.heap.size = w4.heap.size := by omega
  try have ho0_4 : ¬ w4.heap.size = w.heap.size := by omega
  try have hm0_4 : w.heap.size + 1 < w4.heap.size := by omega
  try have hl1_4 : w1.heap.size < w4.heap.size := by omega
  try have hn1_4 : ¬ w1.heap.size = w4.heap.size := by omega
  try have ho1_4 : ¬ w4.heap.size = w1.heap.size := by omega
  try have hl2_4 : w2.heap.size < w4.heap.size := by omega
  try have hn2_4 : ¬ w2.heap.size = w4.heap.size := by omega
  try have ho2_4 : ¬ w4.heap.size = w2.heap.size := by omega
  try have hl3_4 : w3.heap.size < w4.heap.size := by omega
  try have hn3_4 : ¬ w3.heap.size = w4.heap.size := by omega
  try have ho3_4 : ¬ w4.heap.size = w3.heap.size := by omega
  have hB4 := Below.trans (B := w.heap.size) (a := w) (by (repeat' (first | (with_reducible exact Below.refl _ _) | (with_reducible assumption) | (with_reducible refine Below.alloc ?_ ?_ _) | (with_reducible refine Below.drew ?_) | (with_reducible refine below_drewN ?_ _) | (with_reducible refine Below.setCell ?_ ?_ _) | (first | (with_reducible exact Nat.le_refl _) | (with_reducible assumption) | omega | (simp; omega) | (simp; done))))) (hb4.mono (by (first | (with_reducible exact Nat.le_refl _) | (with_reducible assumption) | omega | (simp; omega) | (simp; done))))
  clear hb4
  go_wp2_with fail
  (with_reducible refine (d2 _).mono ?_)
  rintro e w5 ⟨rfl, hb5⟩
  obtain ⟨hc5, hf5, hz5⟩ := bcell hb5
  try simp at hz5
  try have hl0_5 : w.heap.size < w5.heap.size := by omega
  try have hn0_5 : ¬ w.heap.size = w5.heap.size := by omega
  try have ho0_5 : ¬ w5.heap.size = w.heap.size := by omega
  try have hm0_5 : w.heap.size + 1 < w5.heap.size := by omega
  try have hl1_5 : w1.heap.size < w5.heap.size := by omega
  try have hn1_5 : ¬ w1.heap.size = w5.heap.size := by omega
  try have ho1_5 : ¬ w5.heap.size = w1.heap.size := by omega
  try have hl2_5 : w2.heap.size < w5.heap.size := by omega
  try have hn2_5 : ¬ w2.heap.size = w5.heap.size := by omega
  try have ho2_5 : ¬ w5.heap.size = w2.heap.size := by omega
  try have hl3_5 : w3.heap.size < w5.heap.size := by omega
  try have hn3_5 : ¬ w3.heap.size = w5.heap.size := by omega
  try have ho3_5 : ¬ w5.heap.size = w3.heap.size := by omega
  try have hl4_5 : w4.heap.size < w5.heap.size := by omega
  try have hn4_5 : ¬ w4.heap.size = w5.heap.size := by omega
  try have ho4_5 : ¬ w5.heap.size = w4.heap.size := by omega
  have hB5 := Below.trans (B := w.heap.size) (a := w) (by (repeat' (first | (with_reducible exact Below.refl _ _) | (with_reducible assumption) | (with_reducible refine Below.alloc ?_ ?_ _) | (with_reducible refine Below.drew ?_) | (with_reducible refine below_drewN ?_ _) | (with_reducible refine Below.setCell ?_ ?_ _) | (first | (with_reducible exact Nat.le_refl _) | (with_reducible assumption) | omega | (simp; omega) | (simp; done))))) (hb5.mono (by (first | (with_reducible exact Nat.le_refl _) | (with_reducible assumption) | omega | (simp; omega) | (simp; done))))
  clear hb5
  have t1_0 : w5.cell? ⟨w1.heap.size, 0, none⟩ = some (.bool (C2)) := by go_simp; exact World.cell?_setCell_same' _ _ _ (by go_simp)
  have t1_1 : w5.cell? ⟨w1.heap.size, 1, none⟩ = some (.bool (parB (x2 % 256))) := by go_simp; exact World.cell?_setCell_same' _ _ _ (by go_simp)
  have t1_2 : w5.cell? ⟨w1.heap.size, 2, none⟩ = some (.bool (zB x2)) := by go_simp; exact World.cell?_setCell_same' _ _ _ (by go_simp)
  have t1_3 : w5.cell? ⟨w1.heap.size, 3, none⟩ = some (.bool (S2)) := by go_simp; exact World.cell?_setCell_same' _ _ _ (by go_simp)
  have t1_4 : w5.cell? ⟨w1.heap.size, 4, none⟩ = some (.bool (O2)) := by go_simp; exact World.cell?_setCell_same' _ _ _ (by go_simp)
  have t2_0 : w5.cell? ⟨w2.heap.size, 0, none⟩ = some (.bool (g1)) := by go_simp
  have f2_0 : w5.frozen? ⟨w2.heap.size, 0, none⟩ = false := by go_simp
  have t2_1 : w5.cell? ⟨w2.heap.size, 1, none⟩ = some (.bool (parB (l1 % 256))) := by go_simp
  have f2_1 : w5.frozen? ⟨w2.heap.size, 1, none⟩ = false := by go_simp
  have t2_2 : w5.cell? ⟨w2.heap.size, 2, none⟩ = some (.bool (zB l1)) := by go_simp
  have f2_2 : w5.frozen? ⟨w2.heap.size, 2, none⟩ = false := by go_simp
  have t2_3 : w5.cell? ⟨w2.heap.size, 3, none⟩ = some (.bool (topB 32 l1)) := by go_simp
  have f2_3 : w5.frozen? ⟨w2.heap.size, 3, none⟩ = false := by go_simp
  have t2_4 : w5.cell? ⟨w2.heap.size, 4, none⟩ = some (.bool (sumO 32 al bl 0)) := by go_simp
  have f2_4 : w5.frozen? ⟨w2.heap.size, 4, none⟩ = false := by go_simp
  have t3_0 : w5.cell? ⟨w3.heap.size, 0, none⟩ = some (.bool (C1)) := by go_simp
  have f3_0 : w5.frozen? ⟨w3.heap.size, 0, none⟩ = false := by go_simp
  have t3_1 : w5.cell? ⟨w3.heap.size, 1, none⟩ = some (.bool (parB (u % 256))) := by go_simp
  have f3_1 : w5.frozen? ⟨w3.heap.size, 1, none⟩ = false := by go_simp
  have t3_2 : w5.cell? ⟨w3.heap.size, 2, none⟩ = some (.bool (zB u)) := by go_simp
  have f3_2 : w5.frozen? ⟨w3.heap.size, 2, none⟩ = false := by go_simp
  have t3_3 : w5.cell? ⟨w3.heap.size, 3, none⟩ = some (.bool (S1)) := by go_simp
  have f3_3 : w5.frozen? ⟨w3.heap.size, 3, none⟩ = false := by go_simp
  have t3_4 : w5.cell? ⟨w3.heap.size, 4, none⟩ = some (.bool (O1)) := by go_simp
  have f3_4 : w5.frozen? ⟨w3.heap.size, 4, none⟩ = false := by go_simp
  clear hc1 hc2 hc3 hc4 hc5 hf1 hf2 hf3 hf4 hf5
  go_wp2_with fail
  (with_reducible refine (d3 _).mono ?_)
  rintro e w6 ⟨rfl, hb6⟩
  obtain ⟨hc6, hf6, hz6⟩ := bcell hb6
  try simp at hz6
  try have hl0_6 : w.heap.size < w6.heap.size := by omega
  try have hn0_6 : ¬ w.heap.size = w6.heap.size := by omega
  try have ho0_6 : ¬ w6.heap.size = w.heap.size := by omega
  try have hm0_6 : w.heap.size + 1 < w6.heap.size := by omega
  try have hl1_6 : w1.heap.size < w6.heap.size := by omega
  try have hn1_6 : ¬ w1.heap.size = w6.heap.size := by omega
  try have ho1_6 : ¬ w6.heap.size = w1.heap.size := by omega
  try have hl2_6 : w2.heap.size < w6.heap.size := by omega
  try have hn2_6 : ¬ w2.heap.size = w6.heap.size := by omega
  try have ho2_6 : ¬ w6.heap.size = w2.heap.size := by omega
  try have hl3_6 : w3.heap.size < w6.heap.size := by omega
  try have hn3_6 : ¬ w3.heap.size = w6.heap.size := by omega
  try have ho3_6 : ¬ w6.heap.size = w3.heap.size := by omega
  try have hl4_6 : w4.heap.size < w6.heap.size := by omega
  try have hn4_6 : ¬ w4.heap.size = w6.heap.size := by omega
  try have ho4_6 : ¬ w6.heap.size = w4.heap.size := by omega
  try have hl5_6 : w5.heap.size < w6.heap.size := by omega
  try have hn5_6 : ¬ w5.heap.size = w6.heap.size := by omega
  try have ho5_6 : ¬ w6.heap.size = w5.heap.size := by omega
  have hB6 := Below.trans (B := w.heap.size) (a := w) (by (repeat' (first | (with_reducible exact Below.refl _ _) | (with_reducible assumption) | (with_reducible refine Below.alloc ?_ ?_ _) | (with_reducible refine Below.drew ?_) | (with_reducible refine below_drewN ?_ _) | (with_reducible refine Below.setCell ?_ ?_ _) | (first | (with_reducible exact Nat.le_refl _) | (with_reducible assumption) | omega | (simp; omega) | (simp; done))))) (hb6.mono (by (first | (with_reducible exact Nat.le_refl _) | (with_reducible assumption) | omega | (simp; omega) | (simp; done))))
  clear hb6
  go_wp2_with (first | (go_at_call 14; (with_reducible refine (num_calls _ _).mono ?_); rintro e w' ⟨rfl, rfl⟩) | (go_at_call 16; (with_reducible refine (live_calls _).mono ?_); rintro e w' ⟨rfl, hb⟩; obtain ⟨hc, hf, hz⟩ := bcell hb; (try simp at hz); (try have hzz : w.heap.size < w'.heap.size := by omega); (try have hzz1 : w.heap.size + 1 < w'.heap.size := by omega); (try have hzz2 : w.heap.size + 2 < w'.heap.size := by omega); have hB := Below.trans (B := w.heap.size) (a := w) (by (repeat' (first | (with_reducible exact Below.refl _ _) | (with_reducible assumption) | (with_reducible refine Below.alloc ?_ ?_ _) | (with_reducible refine Below.drew ?_) | (with_reducible refine below_drewN ?_ _) | (with_reducible refine Below.setCell ?_ ?_ _) | (first | (with_reducible exact Nat.le_refl _) | (with_reducible assumption) | omega | (simp; omega) | (simp; done))))) (hb.mono (by (first | (with_reducible exact Nat.le_refl _) | (with_reducible assumption) | omega | (simp; omega) | (simp; done))))))
  (first | (refine bodyPost_ret (results_tmp rfl _ _ _) rfl ?_) | (refine bodyPost_ret (results_none rfl _ _ _) rfl ?_) | (refine bodyPost_end (results_none rfl _ _ _) rfl ?_) | go_ret2 | go_ret3)
  exact ⟨rfl, by (repeat' (first | (with_reducible exact Below.refl _ _) | (with_reducible assumption) | (with_reducible refine Below.alloc ?_ ?_ _) | (with_reducible refine Below.drew ?_) | (with_reducible refine below_drewN ?_ _) | (with_reducible refine Below.setCell ?_ ?_ _) | (first | (with_reducible exact Nat.le_refl _) | (with_reducible assumption) | omega | (simp; omega) | (simp; done))))⟩
end Go.Proofs.Ytknopookopfoeaa.AluL
