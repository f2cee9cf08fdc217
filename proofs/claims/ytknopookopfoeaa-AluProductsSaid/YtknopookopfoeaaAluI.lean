/- Shift and Mul of package alu: their contracts in closed form. -/
import Derived.Test.YtknopookopfoeaaAluG
import Derived.Test.YtknopookopfoeaaAluH
namespace Go.Proofs.Ytknopookopfoeaa.Alu
open Go.RowKit Go.Proofs.Ytknopookopfoeaa.AluMath

theorem i64_low (c j : Nat) (K : Int) (hj : j ≤ 31) (hc : c < 256) (hK : K = 2 ^ j - 1) : bits .and .i64 (c : Int) K = ((c % 2 ^ j : Nat) : Int) := by
  subst hK
  have h := bits_mask .i64 31 (by decide) (fun n h0 h1 => by rw [IntKind.wrap_i64]; omega) j hj (c : Int) (by omega) (by omega)
  rw [h]; simp

theorem i64_and1 (n : Int) : bits .and .i64 n 1 = n % 2 := by
  have h1 : (BitVec.ofInt 64 1).toNat = 2 ^ 1 - 1 := by decide
  have key : (BitVec.ofInt 64 n &&& BitVec.ofInt 64 1).toNat = (n % ((2 ^ 64 : Nat) : Int)).toNat % 2 ^ 1 := by
    rw [BitVec.toNat_and, BitVec.toNat_ofInt, h1, Nat.and_two_pow_sub_one_eq_mod]
  show IntKind.i64.wrap ((BitVec.ofInt 64 n &&& BitVec.ofInt 64 1).toNat : Nat) = n % 2
  rw [key, IntKind.wrap_i64]
  omega

theorem shK_lt (n c : Nat) : shK n c < 64 := by unfold shK; split <;> omega

theorem hk_of (size : Int) (n : Nat) (hS : SZ size n) (c : Nat) (hc : c < 256) : bits .and .i64 (c : Int) (if (size == 8) then 63 else 31) = (shK n c : Int) := by
  unfold SZ at hS
  rcases hS with ⟨rfl, rfl⟩ | ⟨rfl, rfl⟩ | ⟨rfl, rfl⟩
  · exact i64_low c 5 31 (by decide) hc (by decide)
  · exact i64_low c 5 31 (by decide) hc (by decide)
  · exact i64_low c 6 63 (by decide) hc (by decide)

theorem min64 (k : Nat) (hk : k < 64) : min (IntKind.u64.wrap (k : Int)).toNat 64 = k := by rw [IntKind.wrap_u64]; omega
theorem min64' (k : Int) (h0 : 0 ≤ k) (hk : k < 64) : min (IntKind.u64.wrap (wrap64 k)).toNat 64 = k.toNat := by rw [IntKind.wrap_u64]; unfold wrap64; omega

theorem shr_ok (size : Int) (n : Nat) (hS : SZ size n) (a : Nat) (ha : a < M64) (c : Nat) (hc : c < 256) (hk0 : shK n c ≠ 0) (C P Z S O : Bool) (w : World) :
    Calls Try.prog 30 #[.int .i64 18, .int .u64 (a : Int), .int .i64 (c : Int), fl C P Z S O, .int .i64 size] w fun e w' =>
      e = .returned (.tuple #[.int .u64 (shrR (a % 2 ^ n) (shK n c) : Nat), flagsV n (shrR (a % 2 ^ n) (shK n c)) (shrC (a % 2 ^ n) (shK n c)) (shrO n (a % 2 ^ n) (shK n c)), .int .i64 0]) ∧ Below w.heap.size w w' := by
  have hn := hS.cases
  have hn64 : n ≤ 64 := by omega
  have hk := shK_lt n c
  have hA : a % 2 ^ n < 2 ^ n := Nat.mod_lt _ (Nat.two_pow_pos n)
  have hA64 : a % 2 ^ n < M64 := Nat.lt_of_lt_of_le hA (pow_le_M64 hn64)
  have hr : shrR (a % 2 ^ n) (shK n c) < 2 ^ n := Nat.lt_of_le_of_lt (Nat.div_le_self _ _) hA
  have he := hk_of size n hS c hc
  generalize shK n c = k at *
  refine shr_core size n hS a c C P Z S O w hn (a % 2 ^ n) k _ _ _ _ rfl (by omega) (by omega) hA64 (Nat.lt_of_lt_of_le hr (pow_le_M64 hn64)) (hid (Nat.mod_eq_of_lt hr).symm)
    (mask_eq n a _ rfl hn64 ha) he (by simp; omega) (by omega) rfl ?_ ?_
  · rw [min64 k hk]; unfold shrR; simp
  · rw [min64' _ (by omega) (by omega), show ((k : Int) - 1).toNat = k - 1 by omega]
    unfold shrC bitB
    rw [bit_eq (a % 2 ^ n) (2 ^ (k - 1)) _ (by simp) hA64]

theorem shl_ok (size : Int) (n : Nat) (hS : SZ size n) (a : Nat) (ha : a < M64) (c : Nat) (hc : c < 256) (hk0 : shK n c ≠ 0) (C P Z S O : Bool) (w : World) :
    Calls Try.prog 30 #[.int .i64 17, .int .u64 (a : Int), .int .i64 (c : Int), fl C P Z S O, .int .i64 size] w fun e w' =>
      e = .returned (.tuple #[.int .u64 (shlR n (a % 2 ^ n) (shK n c) : Nat), flagsV n (shlR n (a % 2 ^ n) (shK n c)) (shlC n (a % 2 ^ n) (shK n c)) (shlO n (a % 2 ^ n) (shK n c)), .int .i64 0]) ∧ Below w.heap.size w w' := by
  have hn := hS.cases
  have hn64 : n ≤ 64 := by omega
  have hk := shK_lt n c
  have hA : a % 2 ^ n < 2 ^ n := Nat.mod_lt _ (Nat.two_pow_pos n)
  have hA64 : a % 2 ^ n < M64 := Nat.lt_of_lt_of_le hA (pow_le_M64 hn64)
  have hr : shlR n (a % 2 ^ n) (shK n c) < 2 ^ n := Nat.mod_lt _ (Nat.two_pow_pos n)
  have he := hk_of size n hS c hc
  generalize shK n c = k at *
  have hs1 : bits .and .u64 (IntKind.u64.wrap (((a % 2 ^ n : Nat) : Int) * 2 ^ min (IntKind.u64.wrap k).toNat 64)) ((2 ^ n - 1 : Nat) : Int) = (shlR n (a % 2 ^ n) k : Int) := by
    rw [min64 k hk, IntKind.wrap_u64]
    have e : ∀ A : Nat, ((A : Int) * 2 ^ k) % 18446744073709551616 = ((A * 2 ^ k % M64 : Nat) : Int) := by
      intro A
      rw [Int.natCast_emod, Int.natCast_mul, Int.natCast_pow]; rfl
    rw [e, mask_eq n _ _ rfl hn64 (Nat.mod_lt _ (by decide)), Nat.mod_mod_of_dvd _ (pow_dvd_M64 hn64)]
    rfl
  have key := fun cb le hle hle' hcb => shl_core size n hS a c C P Z S O w hn (a % 2 ^ n) k _ _ _ le cb rfl (by omega) (by omega) (Nat.lt_of_lt_of_le hr (pow_le_M64 hn64)) (hid (Nat.mod_eq_of_lt hr).symm)
    (mask_eq n a _ rfl hn64 ha) he (by simp; omega) (by omega) rfl hle hle' hs1 hcb
  by_cases hkn : k ≤ n
  · have h := key (bitB (a % 2 ^ n) (n - k)) true (by simp; omega) (by simp; omega) (by
      rw [min64' _ (by omega) (by omega), show ((n : Int) - (k : Int)).toNat = n - k by omega]
      unfold bitB
      rw [bit_eq (a % 2 ^ n) (2 ^ (n - k)) _ (by simp) hA64])
    rw [Bool.true_and] at h
    unfold shlO
    rw [show shlC n (a % 2 ^ n) k = bitB (a % 2 ^ n) (n - k) by unfold shlC; rw [decide_eq_true hkn, Bool.true_and]]
    exact h
  · have h := key _ false (by simp; omega) (by simp; omega) rfl
    rw [Bool.false_and] at h
    unfold shlO
    rw [show shlC n (a % 2 ^ n) k = false by unfold shlC; rw [decide_eq_false hkn, Bool.false_and]]
    exact h

theorem sI_bounds (n x : Nat) (hn : n = 8 ∨ n = 32 ∨ n = 64) (hx : x < 2 ^ n) : -(2 ^ (n - 1) : Nat) ≤ sI n x ∧ sI n x < (2 ^ (n - 1) : Nat) := by
  unfold sI topB
  rcases hn with rfl | rfl | rfl
  all_goals
    simp only [beq_iff_eq]
    split <;> simp at * <;> omega

theorem sar_ok (size : Int) (n : Nat) (hS : SZ size n) (a : Nat) (ha : a < M64) (c : Nat) (hc : c < 256) (hk0 : shK n c ≠ 0) (C P Z S O : Bool) (w : World) :
    Calls Try.prog 30 #[.int .i64 19, .int .u64 (a : Int), .int .i64 (c : Int), fl C P Z S O, .int .i64 size] w fun e w' =>
      e = .returned (.tuple #[.int .u64 (sarR n (a % 2 ^ n) (shK n c) : Nat), flagsV n (sarR n (a % 2 ^ n) (shK n c)) (sarC n (a % 2 ^ n) (shK n c)) false, .int .i64 0]) ∧ Below w.heap.size w w' := by
  have hn := hS.cases
  have hn64 : n ≤ 64 := by omega
  have hk := shK_lt n c
  have hA : a % 2 ^ n < 2 ^ n := Nat.mod_lt _ (Nat.two_pow_pos n)
  have he := hk_of size n hS c hc
  generalize shK n c = k at *
  have hs := sI_eq n _ hn hA
  refine sar_core size n hS a c C P Z S O w hn (a % 2 ^ n) k ((sI n (a % 2 ^ n) / 2 ^ k) % 18446744073709551616).toNat _ _ _ rfl (by omega) (by omega) hA (by unfold M64; omega) (hid ?_)
    (mask_eq n a _ rfl hn64 ha) he (by simp; omega) (by omega) ?_ ?_
  · unfold sarR
    generalize sI n (a % 2 ^ n) / 2 ^ k = s
    rcases hn with rfl | rfl | rfl <;> simp <;> omega
  · rw [min64 k hk, hs, IntKind.wrap_u64]; omega
  · rw [min64' _ (by omega) (by omega), show ((k : Int) - 1).toNat = k - 1 by omega, hs, i64_and1]
    rfl

theorem sh0_ok (op : Int) (hop : op = 17 ∨ op = 18 ∨ op = 19) (size : Int) (n : Nat) (hS : SZ size n) (a : Nat) (ha : a < M64) (c : Nat) (hc : c < 256) (hk0 : shK n c = 0) (C P Z S O : Bool) (w : World) :
    Calls Try.prog 30 #[.int .i64 op, .int .u64 (a : Int), .int .i64 (c : Int), fl C P Z S O, .int .i64 size] w fun e w' =>
      e = .returned (.tuple #[.int .u64 (a % 2 ^ n : Nat), fl C P Z S O, .int .i64 0]) ∧ Below w.heap.size w w' := by
  have he := hk_of size n hS c hc
  rw [hk0] at he
  exact sh0_core op hop size n hS a c C P Z S O w hS.cases (a % 2 ^ n) _ rfl (by omega) (by omega) (mask_eq n a _ rfl (by have := hS.cases; omega) ha) he
end Go.Proofs.Ytknopookopfoeaa.Alu
