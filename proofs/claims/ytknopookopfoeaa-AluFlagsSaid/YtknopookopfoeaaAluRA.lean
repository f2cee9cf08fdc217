/- What the reference's functions of chapter 02 come to. -/
import Derived.Test.YtknopookopfoeaaProg
import Derived.Test.YtknopookopfoeaaAluMath
import Derived.WalkKit
import Derived.WalkSpells
import Derived.WalkLawsBesides
import Derived.LoopN
import Derived.KernelRfl
import Derived.Deep.QuietTactic
import Derived.BigQuiet
import Derived.Laws.BitsAllLaws
namespace Go.Proofs.Ytknopookopfoeaa.AluR
open Go.RowKit Go.Proofs.Ytknopookopfoeaa.AluMath

theorem Bits_ok (size : Int) (n : Nat) (hS : SZ size n) (w : World) :
    Calls Try.prog 49 #[.int .i64 size] w fun e w' => e = .returned (.int .i64 (n : Int)) ∧ w = w' := by
  rcases hS with ⟨rfl, rfl⟩ | ⟨rfl, rfl⟩ | ⟨rfl, rfl⟩
  all_goals
    go_enter Try.func49, Try.ntmps49
    go_wp2
    (first | (refine bodyPost_ret (results_tmp rfl _ _ _) rfl ?_) | (refine bodyPost_ret (results_none rfl _ _ _) rfl ?_) | (refine bodyPost_end (results_none rfl _ _ _) rfl ?_) | go_ret2 | go_ret3)
    exact ⟨rfl, rfl⟩

theorem Bits_no (size : Int) (hS : NoSZ size) (w : World) :
    Calls Try.prog 49 #[.int .i64 size] w fun e w' => e = .returned (.int .i64 0) ∧ w = w' := by
  obtain ⟨h1, h2, h3⟩ := hS
  have k1 : (size == 1) = false := by simp; omega
  have k2 : (size == 4) = false := by simp; omega
  have k3 : (size == 8) = false := by simp; omega
  clear h1 h2 h3
  go_enter Try.func49, Try.ntmps49
  go_wp2
  (first | (refine bodyPost_ret (results_tmp rfl _ _ _) rfl ?_) | (refine bodyPost_ret (results_none rfl _ _ _) rfl ?_) | (refine bodyPost_end (results_none rfl _ _ _) rfl ?_) | go_ret2 | go_ret3)
  exact ⟨rfl, rfl⟩

theorem wrap_u64_nat (i : Nat) (hi : i ≤ 64) : (IntKind.u64.wrap (i : Int)).toNat = i := by rw [IntKind.wrap_u64]; omega
theorem bit_calls (x : Nat) (hx : x < M64) (i : Nat) (hi : i < 64) (w : World) :
    Calls Try.prog 48 #[.int .u64 (x : Int), .int .i64 (i : Int)] w fun e w' => e = .returned (.int .i64 ((x / 2 ^ i % 2 : Nat) : Int)) ∧ w = w' := by
  have hs : (x : Int) / 2 ^ i = ((x / 2 ^ i : Nat) : Int) := by push_cast; rfl
  have hm := and1_u64 (x / 2 ^ i) (Nat.lt_of_le_of_lt (Nat.div_le_self _ _) hx)
  have hl : x / 2 ^ i % 2 < 2 := Nat.mod_lt _ (by decide)
  generalize x / 2 ^ i % 2 = v at *
  generalize x / 2 ^ i = u at *
  go_enter Try.func48, Try.ntmps48
  go_wp2
  (first | (refine bodyPost_ret (results_tmp rfl _ _ _) rfl ?_) | (refine bodyPost_ret (results_none rfl _ _ _) rfl ?_) | (refine bodyPost_end (results_none rfl _ _ _) rfl ?_) | go_ret2 | go_ret3)
  exact ⟨rfl, rfl⟩

set_option maxHeartbeats 1000000 in
theorem low_calls (x : Nat) (hx : x < M64) (n : Nat) (hn : n ≤ 64) (w : World) :
    Calls Try.prog 52 #[.int .u64 (x : Int), .int .i64 (n : Int)] w fun e w' => e = .returned (.int .u64 ((x % 2 ^ n : Nat) : Int)) ∧ w = w' := by
  go_enter Try.func52, Try.ntmps52
  go_wp2
  go_loop [5, 6] (fun r i => ∃ k : Nat, k ≤ n ∧ i = .int .i64 (k : Int) ∧ ∃ R : Nat, r = .int .u64 (R : Int) ∧ Hid (R = x % 2 ^ k)) (fun _ i => (n - intOf i).toNat)
  case atStart => exact ⟨0, Nat.zero_le _, rfl, 0, rfl, hid (by simp [Nat.mod_one])⟩
  case round =>
    obtain ⟨k, hk, rfl, R, rfl, hR⟩ := hrel
    by_cases hlt : k < n
    · obtain ⟨b, hb⟩ : ∃ b, b = x / 2 ^ k % 2 := ⟨_, rfl⟩
      have c := bit_calls x hx k (by omega)
      rw [← hb] at c
      have hB := hid hb
      clear hb
      have hb2 : b < 2 := by rw [hB.out]; exact Nat.mod_lt _ (by decide)
      go_wp2_with (go_at_call 48; (with_reducible refine (c _).mono ?_); rintro e w' ⟨rfl, rfl⟩)
      have hR2 : R < 2 ^ k := by rw [hR.out]; exact Nat.mod_lt _ (Nat.two_pow_pos k)
      go_round
      case rel => exact ⟨k + 1, by omega, by go_num, R + b * 2 ^ k, by rw [or_bit R b k hR2 hb2 (by omega)], hid (by rw [hR.out, hB.out, nat_step])⟩
      case measure => simp [intOf]; omega
    · go_wp2
      (first | (refine bodyPost_ret (results_tmp rfl _ _ _) rfl ?_) | (refine bodyPost_ret (results_none rfl _ _ _) rfl ?_) | (refine bodyPost_end (results_none rfl _ _ _) rfl ?_) | go_ret2 | go_ret3)
      obtain rfl : k = n := by omega
      exact ⟨ret_int (by rw [hR.out]; simp), rfl⟩

theorem Trim_ok (size : Int) (n : Nat) (hS : SZ size n) (x : Nat) (hx : x < M64) (w : World) :
    Calls Try.prog 26 #[.int .u64 (x : Int), .int .i64 size] w fun e w' => e = .returned (.tuple #[.int .u64 ((x % 2 ^ n : Nat) : Int), .int .i64 0]) ∧ w = w' := by
  have hn : n ≤ 64 := by have := hS.cases; omega
  have hn0 : ((n : Int) == 0) = false := by have := hS.cases; simp; omega
  go_enter Try.func26, Try.ntmps26
  go_wp2_with (first | (go_at_call 49; (with_reducible refine (Bits_ok _ n hS _).mono ?_); rintro e w' ⟨rfl, rfl⟩) | (go_at_call 52; (with_reducible refine (low_calls x hx n hn _).mono ?_); rintro e w' ⟨rfl, rfl⟩))
  (first | (refine bodyPost_ret (results_tmp rfl _ _ _) rfl ?_) | (refine bodyPost_ret (results_none rfl _ _ _) rfl ?_) | (refine bodyPost_end (results_none rfl _ _ _) rfl ?_) | go_ret2 | go_ret3)
  exact ⟨rfl, rfl⟩
theorem Trim_no (size : Int) (hS : NoSZ size) (x : Int) (w : World) :
    Calls Try.prog 26 #[.int .u64 x, .int .i64 size] w fun e w' => e = .returned (.tuple #[.int .u64 0, .int .i64 1]) ∧ w = w' := by
  go_enter Try.func26, Try.ntmps26
  go_wp2_with (first | (go_at_call 49; (with_reducible refine (Bits_no _ hS _).mono ?_); rintro e w' ⟨rfl, rfl⟩))
  (first | (refine bodyPost_ret (results_tmp rfl _ _ _) rfl ?_) | (refine bodyPost_ret (results_none rfl _ _ _) rfl ?_) | (refine bodyPost_end (results_none rfl _ _ _) rfl ?_) | go_ret2 | go_ret3)
  exact ⟨rfl, rfl⟩

set_option maxHeartbeats 1000000 in
theorem Extend_ok (size : Int) (n : Nat) (hS : SZ size n) (x : Nat) (hx : x < M64) (w : World) :
    Calls Try.prog 28 #[.int .u64 (x : Int), .int .i64 size] w fun e w' => e = .returned (.tuple #[.int .u64 (sext n (x % 2 ^ n) : Int), .int .i64 0]) ∧ w = w' := by
  have hn : n ≤ 64 := by have := hS.cases; omega
  have hn0 : ((n : Int) == 0) = false := by have := hS.cases; simp; omega
  have hn1 : (1 : Int) ≤ n := by have := hS.cases; omega
  have hn2 : ((n : Int) - 1) = ((n - 1 : Nat) : Int) := by omega
  have c := bit_calls x hx (n - 1) (by omega)
  rw [← hn2] at c
  have hbl : x / 2 ^ (n - 1) % 2 < 2 := Nat.mod_lt _ (by decide)
  have hfin : extT n x 64 = sext n (x % 2 ^ n) := extT_64 n x hS.cases
  have hfin' := hid hfin
  clear hn2 hfin
  obtain ⟨b, hb⟩ : ∃ b, b = x / 2 ^ (n - 1) % 2 := ⟨_, rfl⟩
  rw [← hb] at c hbl
  have hB := hid hb
  clear hb
  go_enter Try.func28, Try.ntmps28
  go_wp2_with (first | (go_at_call 49; (with_reducible refine (Bits_ok _ n hS _).mono ?_); rintro e w' ⟨rfl, rfl⟩) | (go_at_call 52; (with_reducible refine (low_calls x hx n hn _).mono ?_); rintro e w' ⟨rfl, rfl⟩))
  go_loop [7, 8] (fun r i => ∃ k : Nat, n ≤ k ∧ k ≤ 64 ∧ i = .int .i64 (k : Int) ∧ ∃ R : Nat, r = .int .u64 (R : Int) ∧ Hid (R = extT n x k)) (fun _ i => (64 - intOf i).toNat)
  case atStart => exact ⟨n, Nat.le_refl _, hn, rfl, _, rfl, hid (by simp [extT])⟩
  case round =>
    obtain ⟨k, hk, hk2, rfl, R, rfl, hR⟩ := hrel
    by_cases hlt : k < 64
    · go_wp2_with (go_at_call 48; (with_reducible refine (c _).mono ?_); rintro e w' ⟨rfl, rfl⟩)
      go_round
      case rel => exact ⟨k + 1, by omega, by omega, by go_num, R + b * 2 ^ k, by rw [or_bit R b k (by rw [hR.out]; exact extT_lt n x k hk) hbl (by omega)], hid (by rw [hR.out, hB.out, extT_succ n x k hk])⟩
      case measure => simp [intOf]; omega
    · go_wp2
      (first | (refine bodyPost_ret (results_tmp rfl _ _ _) rfl ?_) | (refine bodyPost_ret (results_none rfl _ _ _) rfl ?_) | (refine bodyPost_end (results_none rfl _ _ _) rfl ?_) | go_ret2 | go_ret3)
      obtain rfl : k = 64 := by omega
      exact ⟨by rw [hR.out, hfin'.out]; rfl, rfl⟩

theorem Extend_no (size : Int) (hS : NoSZ size) (x : Int) (w : World) :
    Calls Try.prog 28 #[.int .u64 x, .int .i64 size] w fun e w' => e = .returned (.tuple #[.int .u64 0, .int .i64 1]) ∧ w = w' := by
  go_enter Try.func28, Try.ntmps28
  go_wp2_with (first | (go_at_call 49; (with_reducible refine (Bits_no _ hS _).mono ?_); rintro e w' ⟨rfl, rfl⟩))
  (first | (refine bodyPost_ret (results_tmp rfl _ _ _) rfl ?_) | (refine bodyPost_ret (results_none rfl _ _ _) rfl ?_) | (refine bodyPost_end (results_none rfl _ _ _) rfl ?_) | go_ret2 | go_ret3)
  exact ⟨rfl, rfl⟩

set_option maxHeartbeats 1000000 in
theorem flags_calls (n : Nat) (hn : n = 8 ∨ n = 32 ∨ n = 64) (r : Nat) (hr : r < M64) (w : World) :
    Calls Try.prog 51 #[.int .u64 (r : Int), .int .i64 (n : Int)] w fun e w' =>
      e = .returned (.agg #[.bool false, .bool (parB (r % 256)), .bool (zB r), .bool (topB n r), .bool false]) ∧ Below w.heap.size w w' := by
  have hn1 : (1 : Int) ≤ n := by omega
  have hn2 : ((n : Int) - 1) = ((n - 1 : Nat) : Int) := by omega
  have c := bit_calls r hr (n - 1) (by omega)
  rw [← hn2] at c
  clear hn2
  have ht : (((r / 2 ^ (n - 1) % 2 : Nat) : Int) == 1) = topB n r := by
    unfold topB
    have : r / 2 ^ (n - 1) % 2 = 0 ∨ r / 2 ^ (n - 1) % 2 = 1 := by omega
    rcases this with h | h <;> rw [h] <;> rfl
  obtain ⟨tb, htb⟩ : ∃ b, b = r / 2 ^ (n - 1) % 2 := ⟨_, rfl⟩
  rw [← htb] at c ht
  clear htb
  go_enter Try.func51, Try.ntmps51
  go_wp2
  go_loop [5, 6] (fun s i => ∃ k : Nat, k ≤ 8 ∧ i = .int .i64 (k : Int) ∧ s = .int .i64 (popK r k : Int)) (fun _ i => (8 - intOf i).toNat)
  case atStart => exact ⟨0, Nat.zero_le _, rfl, rfl⟩
  case round =>
    obtain ⟨k, hk, rfl, rfl⟩ := hrel
    have hp := popK_le r k
    by_cases hlt : k < 8
    · obtain ⟨b, hb⟩ : ∃ b, b = r / 2 ^ k % 2 := ⟨_, rfl⟩
      have c2 := bit_calls r hr k (by omega)
      rw [← hb] at c2
      have hB := hid hb
      have hb2 : b < 2 := by rw [hb]; exact Nat.mod_lt _ (by decide)
      clear hb
      go_wp2_with (go_at_call 48; (with_reducible refine (c2 _).mono ?_); rintro e w' ⟨rfl, rfl⟩)
      go_round
      case rel => exact ⟨k + 1, by omega, by go_num, by simp only [popK, ← hB.out]; rfl⟩
      case measure => simp [intOf]; omega
    · obtain rfl : k = 8 := by omega
      have hpar : (((popK r 8 : Nat) : Int) % 2 == 0) = parB (r % 256) := by unfold parB; rw [popK_8]
      generalize popK r 8 = pk at *
      have hz : ((r : Int) == 0) = zB r := rfl
      go_wp2_with (go_at_call 48; (with_reducible refine (c _).mono ?_); rintro e w' ⟨rfl, rfl⟩)
      refine bodyPost_ret (v := .agg #[.bool false, .bool (parB (r % 256)), .bool (zB r), .bool (topB n r), .bool false]) (by simp [results, Try.results51, go_sem, *]) rfl ?_
      exact ⟨rfl, by (repeat' (first | (with_reducible exact Below.refl _ _) | (with_reducible assumption) | (with_reducible refine Below.alloc ?_ ?_ _) | (with_reducible refine Below.drew ?_) | (with_reducible refine below_drewN ?_ _) | (with_reducible refine Below.setCell ?_ ?_ _) | (first | (with_reducible exact Nat.le_refl _) | (with_reducible assumption) | omega | (simp; omega) | (simp; done))))⟩

set_option maxHeartbeats 2000000 in
theorem sum_calls (a b : Nat) (ha : a < M64) (hb : b < M64) (c : Nat) (hc : c ≤ 1) (turned : Bool) (n : Nat) (hn : n ≤ 64) (w : World) :
    Calls Try.prog 50 #[.int .u64 (a : Int), .int .u64 (b : Int), .int .i64 (c : Int), .bool turned, .int .i64 (n : Int)] w fun e w' =>
      e = .returned (.tuple #[.int .u64 (sT a b c turned n % 2 ^ n : Nat), .int .i64 (sInto a b c turned n : Nat), .int .i64 (sT a b c turned n / 2 ^ n : Nat)]) ∧ w = w' := by
  go_enter Try.func50, Try.ntmps50
  go_wp2
  go_loop [2, 13, 14, 15] (fun cc r it i => ∃ k : Nat, k ≤ n ∧ i = .int .i64 (k : Int) ∧ ∃ R I C : Nat, r = .int .u64 (R : Int) ∧ it = .int .i64 (I : Int) ∧ cc = .int .i64 (C : Int) ∧ Hid (R = sT a b c turned k % 2 ^ k ∧ I = sInto a b c turned k ∧ C = sT a b c turned k / 2 ^ k)) (fun _ _ _ i => (n - intOf i).toNat)
  case atStart => exact ⟨0, Nat.zero_le _, rfl, 0, 0, c, rfl, rfl, rfl, hid (by cases turned <;> simp [sT, sInto, Nat.mod_one])⟩
  case round =>
    obtain ⟨k, hk, rfl, R, I, C, rfl, rfl, rfl, hR⟩ := hrel
    have hC : C ≤ 1 := by rw [hR.out.2.2]; exact sT_le a b c turned k hc
    by_cases hlt : k < n
    · have ca := bit_calls a ha k (by omega)
      have cb := bit_calls b hb k (by omega)
      have hx : a / 2 ^ k % 2 < 2 := Nat.mod_lt _ (by decide)
      have hy : b / 2 ^ k % 2 < 2 := Nat.mod_lt _ (by decide)
      obtain ⟨x, ex⟩ : ∃ x, x = a / 2 ^ k % 2 := ⟨_, rfl⟩
      obtain ⟨y, ey⟩ : ∃ y, y = b / 2 ^ k % 2 := ⟨_, rfl⟩
      rw [← ex] at ca hx
      rw [← ey] at cb hy
      have eX := hid ex
      have eY := hid ey
      clear ex ey
      cases turned
      · have hm : ((x : Int) + (y : Int) + (C : Int)) % 2 = (((x + y + C) % 2 : Nat) : Int) := by push_cast; rfl
        have hd : ((x : Int) + (y : Int) + (C : Int)) / 2 = (((x + y + C) / 2 : Nat) : Int) := by push_cast; rfl
        have hlr : R < 2 ^ k := by rw [hR.out.1]; exact Nat.mod_lt _ (Nat.two_pow_pos k)
        have Hm := hid hm
        have Hd := hid hd
        clear hm hd
        go_wp2_with (first | (go_at_call 48; (with_reducible refine (ca _).mono ?_); rintro e w' ⟨rfl, rfl⟩) | (go_at_call 48; (with_reducible refine (cb _).mono ?_); rintro e w' ⟨rfl, rfl⟩))
        go_round
        case rel =>
          obtain ⟨h1, h2, h3⟩ := hR.out
          obtain ⟨p1, p2⟩ := sT_parts a b c false k
          exact ⟨k + 1, by omega, by go_num, R + (x + y + C) % 2 * 2 ^ k, C, (x + y + C) / 2, by rw [Hm.out, or_bit R _ k hlr (Nat.mod_lt _ (by decide)) (by omega)], rfl, by rw [Hd.out], hid ⟨by rw [p1, h1, h3, eX.out, eY.out]; rfl, by rw [h3]; simp [sInto], by rw [p2, h3, eX.out, eY.out]; rfl⟩⟩
        case measure => simp [intOf]; omega
      · have hm : ((x : Int) + (1 - (y : Int)) + (C : Int)) % 2 = (((x + (1 - y) + C) % 2 : Nat) : Int) := by omega
        have hd : ((x : Int) + (1 - (y : Int)) + (C : Int)) / 2 = (((x + (1 - y) + C) / 2 : Nat) : Int) := by omega
        have hlr : R < 2 ^ k := by rw [hR.out.1]; exact Nat.mod_lt _ (Nat.two_pow_pos k)
        have Hm := hid hm
        have Hd := hid hd
        clear hm hd
        go_wp2_with (first | (go_at_call 48; (with_reducible refine (ca _).mono ?_); rintro e w' ⟨rfl, rfl⟩) | (go_at_call 48; (with_reducible refine (cb _).mono ?_); rintro e w' ⟨rfl, rfl⟩))
        go_round
        case rel =>
          obtain ⟨h1, h2, h3⟩ := hR.out
          obtain ⟨p1, p2⟩ := sT_parts a b c true k
          exact ⟨k + 1, by omega, by go_num, R + (x + (1 - y) + C) % 2 * 2 ^ k, C, (x + (1 - y) + C) / 2, by rw [Hm.out, or_bit R _ k hlr (Nat.mod_lt _ (by decide)) (by omega)], rfl, by rw [Hd.out], hid ⟨by rw [p1, h1, h3, eX.out, eY.out]; rfl, by rw [h3]; simp [sInto], by rw [p2, h3, eX.out, eY.out]; rfl⟩⟩
        case measure => simp [intOf]; omega
    · go_wp2
      (first | (refine bodyPost_ret (results_tmp rfl _ _ _) rfl ?_) | (refine bodyPost_ret (results_none rfl _ _ _) rfl ?_) | (refine bodyPost_end (results_none rfl _ _ _) rfl ?_) | go_ret2 | go_ret3)
      obtain rfl : k = n := by omega
      obtain ⟨h1, h2, h3⟩ := hR.out
      exact ⟨by rw [h1, h2, h3]; rfl, rfl⟩
end Go.Proofs.Ytknopookopfoeaa.AluR
