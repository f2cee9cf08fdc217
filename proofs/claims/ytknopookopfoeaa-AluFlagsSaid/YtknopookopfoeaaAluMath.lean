/- Plain arithmetic under package alu (chapter 02): sizes, low bits, top bits, parity. No program here. -/
import Derived.WalkKit
import Derived.Laws.BitsAllLaws
namespace Go.Proofs.Ytknopookopfoeaa.AluMath
open Go.RowKit

/-- A size and its number of bits. -/
def SZ (size : Int) (n : Nat) : Prop := (size = 1 ∧ n = 8) ∨ (size = 4 ∧ n = 32) ∨ (size = 8 ∧ n = 64)
/-- No size. -/
def NoSZ (size : Int) : Prop := size ≠ 1 ∧ size ≠ 4 ∧ size ≠ 8

theorem sz_or (size : Int) : NoSZ size ∨ ∃ n, SZ size n := by
  unfold NoSZ SZ
  by_cases h1 : size = 1
  · exact .inr ⟨8, .inl ⟨h1, rfl⟩⟩
  by_cases h4 : size = 4
  · exact .inr ⟨32, .inr (.inl ⟨h4, rfl⟩)⟩
  by_cases h8 : size = 8
  · exact .inr ⟨64, .inr (.inr ⟨h8, rfl⟩)⟩
  exact .inl ⟨h1, h4, h8⟩

theorem SZ.cases {size : Int} {n : Nat} (h : SZ size n) : n = 8 ∨ n = 32 ∨ n = 64 := by
  unfold SZ at h; omega

abbrev M64 : Nat := 18446744073709551616

/-- The top bit. -/
def topB (n x : Nat) : Bool := x / 2 ^ (n - 1) % 2 == 1
/-- How many bits of a byte are set. -/
def pop8 (x : Nat) : Nat := x % 2 + x / 2 % 2 + x / 4 % 2 + x / 8 % 2 + x / 16 % 2 + x / 32 % 2 + x / 64 % 2 + x / 128 % 2
def parB (x : Nat) : Bool := ((pop8 x : Nat) : Int) % 2 == 0
def zB (x : Nat) : Bool := (x : Int) == 0
def b2n (b : Bool) : Nat := if b then 1 else 0
/-- Sign extended to 64 bits, of a number that is trimmed. -/
def sext (n x : Nat) : Nat := if topB n x then x + M64 - 2 ^ n else x


theorem hid {p : Prop} (h : p) : Hid p := h
theorem bcell {W w1 : World} (hb : Below W.heap.size W w1) : (∀ b o, b < W.heap.size → w1.cell? ⟨b, o, none⟩ = W.cell? ⟨b, o, none⟩) ∧ (∀ b o, b < W.heap.size → w1.frozen? ⟨b, o, none⟩ = W.frozen? ⟨b, o, none⟩) ∧ W.heap.size ≤ w1.heap.size :=
  ⟨fun b o h => hb.cell (p := ⟨b, o, none⟩) h, fun b o h => hb.frozen (p := ⟨b, o, none⟩) h, hb.size⟩
theorem ret_bool {a b : Bool} (h : a = b) : Ending.returned (.bool a) = .returned (.bool b) := by rw [h]
theorem ret_int {k : IntKind} {a b : Int} (h : a = b) : Ending.returned (.int k a) = .returned (.int k b) := by rw [h]

theorem and1_u64 (x : Nat) (hx : x < M64) : bits .and .u64 (x : Int) 1 = ((x % 2 : Nat) : Int) := by
  have h := u64_and_nat x 1 hx (by decide)
  rw [nat_mask1] at h
  exact h

theorem bit_eq (x k : Nat) (K : Int) (hK : K = (k : Int)) (hx : x < M64) : bits .and .u64 ((x : Int) / K) 1 = ((x / k % 2 : Nat) : Int) := by
  subst hK
  have h := and1_u64 (x / k) (Nat.lt_of_le_of_lt (Nat.div_le_self _ _) hx)
  rw [← h]; rfl

theorem top_eq (n x : Nat) (K : Int) (hK : K = ((2 ^ (n - 1) : Nat) : Int)) (hx : x < M64) : (bits .and .u64 ((x : Int) / K) 1 == 1) = topB n x := by
  rw [bit_eq x (2 ^ (n - 1)) K hK hx]
  unfold topB
  have : x / 2 ^ (n - 1) % 2 = 0 ∨ x / 2 ^ (n - 1) % 2 = 1 := by omega
  rcases this with h | h <;> rw [h] <;> rfl

theorem mask_eq (n x : Nat) (K : Int) (hK : K = ((2 ^ n - 1 : Nat) : Int)) (hn : n ≤ 64) (hx : x < M64) : bits .and .u64 (x : Int) K = ((x % 2 ^ n : Nat) : Int) := by
  subst hK
  have hp : 2 ^ n - 1 < M64 := by
    have : 2 ^ n ≤ 2 ^ 64 := Nat.pow_le_pow_right (by decide) hn
    have : 0 < 2 ^ n := Nat.two_pow_pos n
    show _ < 18446744073709551616
    omega
  rw [u64_and_nat x (2 ^ n - 1) hx hp, Nat.and_two_pow_sub_one_eq_mod]


theorem sext8 (x : Nat) (hx : x < 2 ^ 8) : IntKind.u64.wrap (wrap64 ((x : Int) * 72057594037927936) / 72057594037927936) = (sext 8 x : Int) := by
  rw [IntKind.wrap_u64]
  unfold sext topB wrap64 M64
  have : x / 2 ^ (8 - 1) % 2 = 0 ∨ x / 2 ^ (8 - 1) % 2 = 1 := by omega
  rcases this with h | h <;> rw [h] <;> simp <;> simp at h hx <;> omega
theorem sext32 (x : Nat) (hx : x < 2 ^ 32) : IntKind.u64.wrap (wrap64 ((x : Int) * 4294967296) / 4294967296) = (sext 32 x : Int) := by
  rw [IntKind.wrap_u64]
  unfold sext topB wrap64 M64
  have : x / 2 ^ (32 - 1) % 2 = 0 ∨ x / 2 ^ (32 - 1) % 2 = 1 := by omega
  rcases this with h | h <;> rw [h] <;> simp <;> simp at h hx <;> omega
theorem sext64 (x : Nat) (hx : x < 2 ^ 64) : IntKind.u64.wrap (wrap64 (x : Int)) = (sext 64 x : Int) := by
  rw [IntKind.wrap_u64]
  unfold sext topB wrap64 M64
  have : x / 2 ^ (64 - 1) % 2 = 0 ∨ x / 2 ^ (64 - 1) % 2 = 1 := by omega
  rcases this with h | h <;> rw [h] <;> simp <;> simp at h hx <;> omega
theorem sext_lt (n x : Nat) (hn : n = 8 ∨ n = 32 ∨ n = 64) (hx : x < 2 ^ n) : sext n x < M64 := by
  unfold sext topB
  show _ < 18446744073709551616
  rcases hn with rfl | rfl | rfl <;> unfold M64 <;> split <;> omega


def tab8 : ByteArray := ⟨#[0, 1, 1, 2, 1, 2, 2, 3, 1, 2, 2, 3, 2, 3, 3, 4, 1, 2, 2, 3, 2, 3, 3, 4, 2, 3, 3, 4, 3, 4, 4, 5, 1, 2, 2, 3, 2, 3, 3, 4, 2, 3, 3, 4, 3, 4, 4, 5, 2, 3, 3, 4, 3, 4, 4, 5, 3, 4, 4, 5, 4, 5, 5, 6, 1, 2, 2, 3, 2, 3, 3, 4, 2, 3, 3, 4, 3, 4, 4, 5, 2, 3, 3, 4, 3, 4, 4, 5, 3, 4, 4, 5, 4, 5, 5, 6, 2, 3, 3, 4, 3, 4, 4, 5, 3, 4, 4, 5, 4, 5, 5, 6, 3, 4, 4, 5, 4, 5, 5, 6, 4, 5, 5, 6, 5, 6, 6, 7, 1, 2, 2, 3, 2, 3, 3, 4, 2, 3, 3, 4, 3, 4, 4, 5, 2, 3, 3, 4, 3, 4, 4, 5, 3, 4, 4, 5, 4, 5, 5, 6, 2, 3, 3, 4, 3, 4, 4, 5, 3, 4, 4, 5, 4, 5, 5, 6, 3, 4, 4, 5, 4, 5, 5, 6, 4, 5, 5, 6, 5, 6, 6, 7, 2, 3, 3, 4, 3, 4, 4, 5, 3, 4, 4, 5, 4, 5, 5, 6, 3, 4, 4, 5, 4, 5, 5, 6, 4, 5, 5, 6, 5, 6, 6, 7, 3, 4, 4, 5, 4, 5, 5, 6, 4, 5, 5, 6, 5, 6, 6, 7, 4, 5, 5, 6, 5, 6, 6, 7, 5, 6, 6, 7, 6, 7, 7, 8]⟩
set_option maxRecDepth 1000000 in
theorem tab8_all : ∀ i : Fin 256, (tab8.get! i.val).toNat = pop8 i.val := by decide +kernel


theorem nat_step (x k : Nat) : x % 2 ^ (k + 1) = x % 2 ^ k + x / 2 ^ k % 2 * 2 ^ k := by
  rw [Nat.pow_succ, Nat.mod_mul, Nat.mul_comm (x / 2 ^ k % 2)]

/-- A bit is laid over a number below it. -/
theorem or_bit (r b k : Nat) (hr : r < 2 ^ k) (hb : b < 2) (hk : k < 64) : bits .or .u64 (r : Int) (IntKind.u64.wrap ((b : Int) * 2 ^ k)) = ((r + b * 2 ^ k : Nat) : Int) := by
  have hp : 2 ^ k + 2 ^ k ≤ M64 := by
    have := Nat.pow_le_pow_right (n := 2) (by decide) (show k + 1 ≤ 64 by omega)
    rw [Nat.pow_succ] at this
    show _ ≤ 2 ^ 64
    omega
  have hl : b * 2 ^ k < M64 := by
    have : b * 2 ^ k ≤ 1 * 2 ^ k := Nat.mul_le_mul_right _ (by omega)
    have := Nat.two_pow_pos k
    omega
  have e : ((b : Int) * 2 ^ k) = ((b * 2 ^ k : Nat) : Int) := by push_cast; rfl
  rw [e, IntKind.wrap_u64]
  have e2 : ((b * 2 ^ k : Nat) : Int) % 18446744073709551616 = ((b * 2 ^ k : Nat) : Int) := by
    unfold M64 at hl
    generalize b * 2 ^ k = z at *
    omega
  have hr64 : r < M64 := Nat.lt_of_lt_of_le hr (Nat.le_trans (Nat.le_add_right _ _) hp)
  rw [e2, u64_or_nat r (b * 2 ^ k) hr64 hl, Nat.or_comm, nat_join k (b * 2 ^ k) r (Nat.mul_mod_left _ _) hr, Nat.add_comm]

/-- How many of the k low bits are set. -/
def popK (x : Nat) : Nat → Nat
  | 0 => 0
  | k + 1 => popK x k + x / 2 ^ k % 2
theorem popK_8 (x : Nat) : popK x 8 = pop8 (x % 256) := by
  simp only [popK, pop8]
  simp
  omega
theorem popK_le (x k : Nat) : popK x k ≤ k := by
  induction k with
  | zero => exact Nat.le_refl _
  | succ k ih => simp only [popK]; have : x / 2 ^ k % 2 < 2 := Nat.mod_lt _ (by decide); omega

/-- The sum of the k low bits, and a carry; the second number turned, if it is taken away. -/
def sT (a b c : Nat) (turned : Bool) (k : Nat) : Nat := a % 2 ^ k + (if turned then 2 ^ k - 1 - b % 2 ^ k else b % 2 ^ k) + c
def sBit (b : Nat) (turned : Bool) (k : Nat) : Nat := if turned then 1 - b / 2 ^ k % 2 else b / 2 ^ k % 2
theorem sT_succ (a b c : Nat) (turned : Bool) (k : Nat) : sT a b c turned (k + 1) = sT a b c turned k + (a / 2 ^ k % 2 + sBit b turned k) * 2 ^ k := by
  unfold sT sBit
  rw [nat_step a k, nat_step b k]
  have hb : b / 2 ^ k % 2 < 2 := Nat.mod_lt _ (by decide)
  have hB : b % 2 ^ k < 2 ^ k := Nat.mod_lt _ (Nat.two_pow_pos k)
  have e : 2 ^ (k + 1) = 2 ^ k + 2 ^ k := by rw [Nat.pow_succ]; omega
  rw [e]
  generalize b / 2 ^ k % 2 = y at *
  generalize b % 2 ^ k = B at *
  generalize a / 2 ^ k % 2 = x at *
  have : y = 0 ∨ y = 1 := by omega
  cases turned <;> rcases this with rfl | rfl <;> simp [Nat.add_mul] <;> omega
theorem sT_parts (a b c : Nat) (turned : Bool) (k : Nat) :
    sT a b c turned (k + 1) % 2 ^ (k + 1) = sT a b c turned k % 2 ^ k + (a / 2 ^ k % 2 + sBit b turned k + sT a b c turned k / 2 ^ k) % 2 * 2 ^ k ∧
    sT a b c turned (k + 1) / 2 ^ (k + 1) = (a / 2 ^ k % 2 + sBit b turned k + sT a b c turned k / 2 ^ k) / 2 := by
  rw [sT_succ]
  have h := Nat.div_add_mod (sT a b c turned k) (2 ^ k)
  have hp := Nat.two_pow_pos k
  have hm : sT a b c turned k % 2 ^ k < 2 ^ k := Nat.mod_lt _ hp
  generalize sT a b c turned k / 2 ^ k = q at *
  generalize sT a b c turned k % 2 ^ k = r at *
  generalize a / 2 ^ k % 2 + sBit b turned k = z at *
  rw [← h, Nat.pow_succ]
  have e : 2 ^ k * q + r + z * 2 ^ k = r + (z + q) * 2 ^ k := by rw [Nat.add_mul, Nat.mul_comm (2 ^ k) q]; omega
  rw [e]
  constructor
  · rw [Nat.mod_mul, Nat.add_mul_mod_self_right, Nat.mod_eq_of_lt hm, Nat.add_mul_div_right _ _ hp, Nat.div_eq_of_lt hm, Nat.zero_add, Nat.mul_comm]
  · rw [← Nat.div_div_eq_div_mul, Nat.add_mul_div_right _ _ hp, Nat.div_eq_of_lt hm, Nat.zero_add]
theorem sT_le (a b c : Nat) (turned : Bool) (k : Nat) (hc : c ≤ 1) : sT a b c turned k / 2 ^ k ≤ 1 := by
  have hp := Nat.two_pow_pos k
  have h1 : a % 2 ^ k < 2 ^ k := Nat.mod_lt _ hp
  have h2 : b % 2 ^ k < 2 ^ k := Nat.mod_lt _ hp
  refine Nat.le_of_lt_succ ((Nat.div_lt_iff_lt_mul hp).2 ?_)
  unfold sT
  cases turned <;> simp <;> omega
/-- The carry into the top bit. -/
def sInto (a b c : Nat) (turned : Bool) (k : Nat) : Nat := if k = 0 then 0 else sT a b c turned (k - 1) / 2 ^ (k - 1)


/-- Sign extended as far as bit k. -/
def extT (n x k : Nat) : Nat := x % 2 ^ n + x / 2 ^ (n - 1) % 2 * (2 ^ k - 2 ^ n)
theorem extT_lt (n x k : Nat) (hk : n ≤ k) : extT n x k < 2 ^ k := by
  unfold extT
  have h1 : x % 2 ^ n < 2 ^ n := Nat.mod_lt _ (Nat.two_pow_pos n)
  have h2 : 2 ^ n ≤ 2 ^ k := Nat.pow_le_pow_right (by decide) hk
  have h3 : x / 2 ^ (n - 1) % 2 = 0 ∨ x / 2 ^ (n - 1) % 2 = 1 := by omega
  rcases h3 with h | h <;> rw [h] <;> omega
theorem extT_succ (n x k : Nat) (hk : n ≤ k) : extT n x k + x / 2 ^ (n - 1) % 2 * 2 ^ k = extT n x (k + 1) := by
  unfold extT
  have h2 : 2 ^ n ≤ 2 ^ k := Nat.pow_le_pow_right (by decide) hk
  have e : 2 ^ (k + 1) = 2 ^ k + 2 ^ k := by rw [Nat.pow_succ]; omega
  rw [e]
  have h3 : x / 2 ^ (n - 1) % 2 = 0 ∨ x / 2 ^ (n - 1) % 2 = 1 := by omega
  rcases h3 with h | h <;> rw [h] <;> omega
theorem extT_64 (n x : Nat) (hn : n = 8 ∨ n = 32 ∨ n = 64) : extT n x 64 = sext n (x % 2 ^ n) := by
  unfold extT sext topB M64
  rcases hn with rfl | rfl | rfl
  all_goals
    simp only [beq_iff_eq]
    split <;> simp at * <;> omega

theorem b2n_le (c : Bool) : b2n c ≤ 1 := by cases c <;> decide

def oAdd (n A B r : Nat) : Bool := (topB n A == topB n B) && (topB n r != topB n A)
def oSub (n A B r : Nat) : Bool := (topB n A != topB n B) && (topB n r != topB n A)
theorem oAdd_eq {n A B r : Nat} (h : topB n A = topB n B) : oAdd n A B r = !(topB n r == topB n B) := by unfold oAdd; rw [h]; cases topB n r <;> cases topB n B <;> rfl
theorem oAdd_ne {n A B r : Nat} (h : ¬ topB n A = topB n B) : oAdd n A B r = false := by unfold oAdd; simp [h]
theorem oSub_eq {n A B r : Nat} (h : ¬ topB n A = topB n B) : oSub n A B r = !(topB n r == topB n A) := by unfold oSub; revert h; cases topB n r <;> cases topB n A <;> cases topB n B <;> decide
theorem oSub_ne {n A B r : Nat} (h : topB n A = topB n B) : oSub n A B r = false := by unfold oSub; rw [h]; simp

def sumR (n a b c : Nat) : Nat := (a % 2 ^ n + b % 2 ^ n + c) % 2 ^ n
def sumC (n a b c : Nat) : Bool := decide (2 ^ n ≤ a % 2 ^ n + b % 2 ^ n + c)
def sumO (n a b c : Nat) : Bool := oAdd n (a % 2 ^ n) (b % 2 ^ n) (sumR n a b c)
def difR (n a b c : Nat) : Nat := (a % 2 ^ n + 2 ^ n - b % 2 ^ n - c) % 2 ^ n
def difC (n a b c : Nat) : Bool := decide (a % 2 ^ n < b % 2 ^ n + c)
def difO (n a b c : Nat) : Bool := oSub n (a % 2 ^ n) (b % 2 ^ n) (difR n a b c)

/-- Flags of a trimmed result. -/
abbrev flagsV (n v : Nat) (c o : Bool) : Value := .agg #[.bool c, .bool (parB (v % 256)), .bool (zB v), .bool (topB n v), .bool o]

/-- Logic's number: ops And, Test; Or; Xor. -/
def logV (op : Int) (x y : Nat) : Option Nat := if op = 7 ∨ op = 11 then some (x &&& y) else if op = 4 then some (x ||| y) else if op = 9 then some (x ^^^ y) else none

abbrev wrongV : Value := .tuple #[.int .u64 0, .agg #[.bool false, .bool false, .bool false, .bool false, .bool false], .int .i64 1]
/-- Flags as a value. -/
abbrev fl (c p z s o : Bool) : Value := .agg #[.bool c, .bool p, .bool z, .bool s, .bool o]
/-- A bit of a number. -/
def bitB (x k : Nat) : Bool := ((x / 2 ^ k % 2 : Nat) : Int) == 1
def OneOp (op : Int) : Prop := op = 13 ∨ op = 14 ∨ op = 15 ∨ op = 16
/-- A condition, by the half of its number. -/
def condB (k : Nat) (C P Z S O : Bool) : Bool := match k with
  | 0 => O | 1 => C | 2 => Z | 3 => C || Z | 4 => S | 5 => P | 6 => S != O | _ => Z || (S != O)

/-- A condition, by its number. -/
def condV (c : Nat) (C P Z S O : Bool) : Bool := condB (c / 2) C P Z S O != (c % 2 == 1)

/-- How far Shift goes. -/
def shK (n c : Nat) : Nat := if n = 64 then c % 64 else c % 32


/-- A trimmed number with its sign. -/
def sI (n x : Nat) : Int := if topB n x then (x : Int) - 2 ^ n else x
theorem sI_eq (n x : Nat) (hn : n = 8 ∨ n = 32 ∨ n = 64) (hx : x < 2 ^ n) : wrap64 (sext n x : Int) = sI n x := by
  unfold wrap64 sext sI topB M64
  rcases hn with rfl | rfl | rfl
  all_goals
    simp only [beq_iff_eq]
    split <;> simp at * <;> omega

/-- What the shifts of a trimmed number come to: the number, C, O. -/
def shlR (n A k : Nat) : Nat := A * 2 ^ k % 2 ^ n
def shlC (n A k : Nat) : Bool := decide (k ≤ n) && bitB A (n - k)
def shlO (n A k : Nat) : Bool := ((k : Int) == 1) && (topB n (shlR n A k) != shlC n A k)
def shrR (A k : Nat) : Nat := A / 2 ^ k
def shrC (A k : Nat) : Bool := bitB A (k - 1)
def shrO (n A k : Nat) : Bool := ((k : Int) == 1) && topB n A
def sarR (n A k : Nat) : Nat := ((sI n A / 2 ^ k) % 2 ^ n).toNat
def sarC (n A k : Nat) : Bool := (sI n A / 2 ^ (k - 1)) % 2 == 1
/-- What the product of two trimmed numbers comes to: its low and high words, signed; the number; does it not fit. -/
def mulLo (n A B : Nat) : Nat := ((sI n A * sI n B) % 18446744073709551616).toNat
def mulHi (n A B : Nat) : Nat := ((sI n A * sI n B / 18446744073709551616) % 18446744073709551616).toNat
def mulR (n A B : Nat) : Nat := mulLo n A B % 2 ^ n
def mulO (n A B : Nat) : Bool := ((sext n (mulR n A B) : Int) != (mulLo n A B : Int)) || ((mulHi n A B : Int) != if mulLo n A B < 9223372036854775808 then 0 else 18446744073709551615)

end Go.Proofs.Ytknopookopfoeaa.AluMath
