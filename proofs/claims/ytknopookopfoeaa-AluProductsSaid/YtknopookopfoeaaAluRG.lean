/- What the reference's Mul comes to: 128 rounds of shifted sums. -/
import Derived.Test.YtknopookopfoeaaAluRB
import Derived.Deep.Cut
import Derived.Laws.Small
namespace Go.Proofs.Ytknopookopfoeaa.AluR
open Go.RowKit Go.Proofs.Ytknopookopfoeaa.AluMath

abbrev P64 : Int := 18446744073709551616
abbrev P128 : Int := 340282366920938463463374607431768211456

/-- The two words of a number mod 2^128. -/
theorem words_add (h d xh x hi : Int) (hd0 : 0 ≤ d) (hd1 : d < P64) (hx0 : 0 ≤ x) (hx1 : x < P64) (A X : Int)
    (hA : h * P64 + d = A % P128) (hX : xh * P64 + x = X % P128)
    (hhi : hi = if (d + x) % P64 < d then (h + 1) % P64 else h) : ((hi + xh) % P64) * P64 + (d + x) % P64 = (A + X) % P128 := by
  have e : (A + X) % P128 = ((h * P64 + d) + (xh * P64 + x)) % P128 := by rw [hA, hX, ← Int.add_emod]
  rw [e, hhi]
  unfold P64 P128 at *
  split <;> omega

theorem words_dbl (xh x : Int) (hx0 : 0 ≤ x) (hx1 : x < P64) (X : Int) (hX : xh * P64 + x = X % P128) :
    ((xh * 2) % P64 + x / 9223372036854775808) * P64 + (x * 2) % P64 = (X * 2) % P128 := by
  have e : (X * 2) % P128 = ((xh * P64 + x) * 2) % P128 := by rw [hX]; unfold P128; omega
  rw [e]
  unfold P64 P128 at *
  omega

theorem mod_bit (y : Int) (i : Nat) : y % 2 ^ (i + 1) = y % 2 ^ i + (y / 2 ^ i) % 2 * 2 ^ i := by
  have hp : (0 : Int) < 2 ^ i := Int.pow_pos (by decide)
  have h1 := Int.emod_add_mul_ediv y (2 ^ i)
  have h2 := Int.emod_add_mul_ediv (y / 2 ^ i) 2
  have h3 := Int.emod_nonneg y (Int.ne_of_gt hp)
  have h4 := Int.emod_lt_of_pos y hp
  rw [Int.pow_succ]
  have hb : (y / 2 ^ i) % 2 = 0 ∨ (y / 2 ^ i) % 2 = 1 := by omega
  have e : y = (y % 2 ^ i + (y / 2 ^ i) % 2 * 2 ^ i) + (2 ^ i * 2) * (y / 2 ^ i / 2) := by grind
  have hr : 0 ≤ y % 2 ^ i + (y / 2 ^ i) % 2 * 2 ^ i ∧ y % 2 ^ i + (y / 2 ^ i) % 2 * 2 ^ i < 2 ^ i * 2 := by
    rcases hb with h | h <;> rw [h] <;> omega
  conv => lhs; rw [e]
  rw [Int.add_mul_emod_self_left, Int.emod_eq_of_lt hr.1 hr.2]

/-- The sign goes on for ever. -/
theorem sign_bit (y : Int) (hy0 : -9223372036854775808 ≤ y) (hy1 : y < 9223372036854775808) (Y : Nat) (hY : (Y : Int) = y % 18446744073709551616) (i : Nat) :
    ((Y / 2 ^ (min i 63) % 2 : Nat) : Int) = (y / 2 ^ i) % 2 := by
  rcases Nat.lt_or_ge i 64 with h | h
  · have hm : min i 63 = i := by omega
    rw [hm]
    obtain ⟨k, hk⟩ : ∃ k : Nat, 64 = i + (k + 1) := ⟨64 - i - 1, by omega⟩
    have e64 : (18446744073709551616 : Int) = 2 ^ i * (2 * 2 ^ k) := by
      rw [show (18446744073709551616 : Int) = 2 ^ 64 by decide, hk, Int.pow_add, Int.pow_succ]; grind
    have hp : (0 : Int) < 2 ^ i := Int.pow_pos (by decide)
    have hq : y = (Y : Int) + 2 ^ i * (2 * 2 ^ k * (y / 18446744073709551616)) := by
      have := Int.emod_add_mul_ediv y 18446744073709551616
      rw [hY]
      conv => lhs; rw [← this]
      congr 1
      conv => lhs; lhs; rw [e64]
      rw [Int.mul_assoc]
    generalize y / 18446744073709551616 = q at *
    rw [hq, Int.add_mul_ediv_left _ _ (Int.ne_of_gt hp), Int.mul_assoc 2, Int.add_mul_emod_self_left]
    push_cast
    rfl
  · have hm : min i 63 = 63 := by omega
    rw [hm]
    obtain ⟨k, hk⟩ : ∃ k : Nat, i = 63 + k := ⟨i - 63, by omega⟩
    have hbig : (9223372036854775808 : Int) ≤ 2 ^ i := by
      rw [hk, Int.pow_add, show (2:Int)^63 = 9223372036854775808 by decide]
      have : (0 : Int) < 2 ^ k := Int.pow_pos (by decide)
      omega
    have hp : (0 : Int) < 2 ^ i := Int.pow_pos (by decide)
    generalize (2 : Int) ^ i = p at *
    rcases Int.lt_or_le y 0 with h0 | h0
    · have : y / p = -1 := by
        apply Int.le_antisymm
        · have := Int.ediv_lt_of_lt_mul (a := y) (b := 0) hp (by omega); omega
        · exact Int.le_ediv_of_mul_le hp (by omega)
      rw [this]; omega
    · have : y / p = 0 := Int.ediv_eq_zero_of_lt h0 (by omega)
      rw [this]; omega

theorem sext_sI (n x : Nat) (hn : n = 8 ∨ n = 32 ∨ n = 64) (hx : x < 2 ^ n) : (sext n x : Int) = sI n x % P64 := by
  unfold sext sI topB M64 P64
  rcases hn with rfl | rfl | rfl
  all_goals
    simp only [beq_iff_eq]
    split <;> simp at * <;> omega

theorem sI_b64 (n x : Nat) (hn : n = 8 ∨ n = 32 ∨ n = 64) (hx : x < 2 ^ n) : -9223372036854775808 ≤ sI n x ∧ sI n x < 9223372036854775808 := by
  unfold sI topB
  rcases hn with rfl | rfl | rfl
  all_goals
    simp only [beq_iff_eq]
    split <;> simp at * <;> omega

theorem mulO_as (n A B : Nat) : mulO n A B = (((sext n (mulR n A B) : Int) != (mulLo n A B : Int)) || ((if sext n (mulR n A B) / 2 ^ 63 % 2 = 1 then 18446744073709551615 else 0 : Int) != (mulHi n A B : Int))) := by
  unfold mulO
  have h : mulLo n A B < 18446744073709551616 := by unfold mulLo; omega
  generalize sext n (mulR n A B) = s at *
  generalize mulLo n A B = l at *
  by_cases e : s = l
  · subst e
    rw [show (2:Nat)^63 = 9223372036854775808 by decide]
    by_cases e2 : s < 9223372036854775808
    · rw [if_pos e2, if_neg (by omega)]; simp [bne, Bool.beq_comm]
    · rw [if_neg e2, if_pos (by omega)]; simp [bne, Bool.beq_comm]
  · have : ((s : Int) != (l : Int)) = true := by simp; omega
    rw [this]; simp

def MInv (sx sy : Int) (j x h d xh : Nat) : Prop := x < M64 ∧ h < M64 ∧ d < M64 ∧ xh < M64 ∧ (xh : Int) * P64 + x = (sx * 2 ^ j) % P128 ∧ (h : Int) * P64 + d = (sx * (sy % 2 ^ j)) % P128

theorem wrapu (z : Int) : IntKind.u64.wrap z = z % P64 := by
  rw [IntKind.wrap_u64]

theorem wrapu_nat (z : Int) : ∃ s : Nat, IntKind.u64.wrap z = (s : Int) ∧ s < M64 ∧ (s : Int) = z % P64 := by
  rw [wrapu]
  refine ⟨(z % P64).toNat, ?_, ?_, ?_⟩ <;> unfold P64 <;> (try unfold M64) <;> omega

theorem dbl_or (xh x : Nat) (hx : x < M64) : ∃ s : Nat, bits .or .u64 (IntKind.u64.wrap ((xh : Int) * 2)) ((x : Int) / 9223372036854775808) = (s : Int) ∧ s < M64 ∧ (s : Int) = ((xh : Int) * 2) % P64 + (x : Int) / 9223372036854775808 := by
  obtain ⟨u, hu, hu1, hu2⟩ := wrapu_nat ((xh : Int) * 2)
  rw [hu]
  refine ⟨u + x / 9223372036854775808, ?_, ?_, ?_⟩
  · have hb : x / 9223372036854775808 < 2 := by unfold M64 at hx; omega
    have h2 : u % 2 ^ 1 = 0 := by unfold P64 at hu2; omega
    have hb2 : x / 9223372036854775808 < M64 := by unfold M64; omega
    have := u64_or_nat u (x / 9223372036854775808) hu1 hb2
    rw [nat_join 1 u (x / 9223372036854775808) h2 hb] at this
    exact this
  · unfold P64 at hu2; unfold M64 at *; omega
  · clear hx hu hu1; unfold P64 at *; omega

theorem MInv_zero (sx sy : Int) (X xh : Nat) (h0 : -9223372036854775808 ≤ sx) (h1 : sx < 9223372036854775808) (hX : (X : Int) = sx % P64) (hx : (X / 2 ^ 63 % 2 = 0 ∧ xh = 0) ∨ (X / 2 ^ 63 % 2 = 1 ∧ xh = 18446744073709551615)) : MInv sx sy 0 X 0 0 xh := by
  refine ⟨?_, by decide, by decide, ?_, ?_, ?_⟩
  · unfold P64 at hX; unfold M64; omega
  · unfold M64; omega
  · unfold P64 P128 at *
    rw [show (2:Nat)^63 = 9223372036854775808 by decide] at hx
    rw [Int.pow_zero]
    omega
  · rw [Int.pow_zero, Int.emod_one]; simp

theorem MInv_skip (sx sy : Int) (j x h d xh x' xh' : Nat) (hI : MInv sx sy j x h d xh) (hb : (sy / 2 ^ j) % 2 = 0) (hx : (x' : Int) = ((x : Int) * 2) % P64) (hxh : (xh' : Int) = ((xh : Int) * 2) % P64 + (x : Int) / 9223372036854775808) : MInv sx sy (j + 1) x' h d xh' := by
  obtain ⟨i1, i2, i3, i4, i5, i6⟩ := hI
  refine ⟨?_, i2, i3, ?_, ?_, ?_⟩
  · unfold P64 at hx; unfold M64 at *; omega
  · unfold P64 at hxh; unfold M64 at *; omega
  · have := words_dbl xh x (by omega) (by unfold M64 at i1; unfold P64; omega) _ i5
    rw [hxh, hx, this, Int.pow_succ, Int.mul_assoc]
  · rw [mod_bit, hb, Int.zero_mul, Int.add_zero, i6]

theorem MInv_add (sx sy : Int) (j x h d xh x' h' s xh' : Nat) (hI : MInv sx sy j x h d xh) (hb : (sy / 2 ^ j) % 2 = 1) (hs : (s : Int) = ((d : Int) + x) % P64)
    (hh : (h' : Int) = ((if (s : Int) < d then ((h : Int) + 1) % P64 else h) + xh) % P64) (hx : (x' : Int) = ((x : Int) * 2) % P64) (hxh : (xh' : Int) = ((xh : Int) * 2) % P64 + (x : Int) / 9223372036854775808) : MInv sx sy (j + 1) x' h' s xh' := by
  obtain ⟨i1, i2, i3, i4, i5, i6⟩ := hI
  have b1 : (x : Int) < P64 := by unfold M64 at i1; unfold P64; omega
  have b3 : (d : Int) < P64 := by unfold M64 at i3; unfold P64; omega
  refine ⟨?_, ?_, ?_, ?_, ?_, ?_⟩
  · unfold P64 at hx; unfold M64 at *; omega
  · have : (h' : Int) < P64 := by rw [hh]; exact Int.emod_lt_of_pos _ (by decide)
    unfold P64 at this; unfold M64; omega
  · unfold P64 at hs; unfold M64 at *; omega
  · unfold P64 at hxh; unfold M64 at *; omega
  · have := words_dbl xh x (by omega) b1 _ i5
    rw [hxh, hx, this, Int.pow_succ, Int.mul_assoc]
  · have := words_add h d xh x (if (s : Int) < d then ((h : Int) + 1) % P64 else h) (by omega) b3 (by omega) b1 _ _ i6 i5 (by rw [hs])
    rw [hh, hs] at *
    rw [this, mod_bit, hb, Int.one_mul, Int.mul_add]

theorem MInv_end (sx sy : Int) (x h d xh : Nat) (hI : MInv sx sy 128 x h d xh) : (d : Int) = (sx * sy) % P64 ∧ (h : Int) = (sx * sy / P64) % P64 := by
  obtain ⟨-, i2, i3, -, -, i6⟩ := hI
  have e : (sx * (sy % 2 ^ 128)) % P128 = (sx * sy) % P128 := by
    rw [show (2 : Int) ^ 128 = P128 by decide, Int.mul_emod, Int.emod_emod_of_dvd _ (Int.dvd_refl _), ← Int.mul_emod]
  rw [e] at i6
  generalize sx * sy = z at *
  unfold M64 at *
  unfold P64 P128 at *
  omega
set_option maxRecDepth 1000000 in
set_option maxHeartbeats 4000000 in
theorem Mul_ok (size : Int) (n : Nat) (hS : SZ size n) (a b : Nat) (ha : a < M64) (hb : b < M64) (w : World) :
    Calls Try.prog 33 #[.int .u64 (a : Int), .int .u64 (b : Int), .int .i64 size] w fun e w' =>
      e = .returned (.tuple #[.int .u64 (mulR n (a % 2 ^ n) (b % 2 ^ n) : Nat), flagsV n (mulR n (a % 2 ^ n) (b % 2 ^ n)) (mulO n (a % 2 ^ n) (b % 2 ^ n)) (mulO n (a % 2 ^ n) (b % 2 ^ n)), .int .i64 0]) ∧ Below w.heap.size w w' := by
  have hn := hS.cases
  have hn64 : n ≤ 64 := by omega
  have hn0 : ((n : Int) == 0) = false := by simp; omega
  have cX := Extend_ok size n hS a ha
  have cY := Extend_ok size n hS b hb
  have hA : a % 2 ^ n < 2 ^ n := Nat.mod_lt _ (Nat.two_pow_pos n)
  have hB : b % 2 ^ n < 2 ^ n := Nat.mod_lt _ (Nat.two_pow_pos n)
  have hXl := sext_lt n _ hn hA
  have hYl := sext_lt n _ hn hB
  have hXs := sext_sI n _ hn hA
  have hYs := sext_sI n _ hn hB
  have hsA := sI_b64 n _ hn hA
  have hsB := sI_b64 n _ hn hB
  obtain ⟨LO, hLO⟩ : ∃ LO : Nat, LO = mulLo n (a % 2 ^ n) (b % 2 ^ n) := ⟨_, rfl⟩
  obtain ⟨HI, hHI⟩ : ∃ HI : Nat, HI = mulHi n (a % 2 ^ n) (b % 2 ^ n) := ⟨_, rfl⟩
  have hLO64 : LO < M64 := by rw [hLO]; unfold mulLo M64; omega
  have l0 := low_calls LO hLO64 n hn64
  have hRl : LO % 2 ^ n < 2 ^ n := Nat.mod_lt _ (Nat.two_pow_pos n)
  have hR64 := Nat.lt_of_lt_of_le hRl (pow_le_M64 hn64)
  have cR := Extend_ok size n hS (LO % 2 ^ n) hR64
  have fc := flags_calls n hn (LO % 2 ^ n) hR64
  have hBl := sext_lt n _ hn hRl
  have bB := bit_calls (sext n (LO % 2 ^ n)) hBl 63 (by decide)
  have hOO := mulO_as n (a % 2 ^ n) (b % 2 ^ n)
  rw [Nat.mod_mod] at cR
  rw [show ((63 : Nat) : Int) = 63 from rfl] at bB
  rw [show mulR n (a % 2 ^ n) (b % 2 ^ n) = mulLo n (a % 2 ^ n) (b % 2 ^ n) % 2 ^ n from rfl, ← hLO, ← hHI] at hOO
  rw [show mulR n (a % 2 ^ n) (b % 2 ^ n) = mulLo n (a % 2 ^ n) (b % 2 ^ n) % 2 ^ n from rfl, ← hLO]
  generalize mulO n (a % 2 ^ n) (b % 2 ^ n) = O at *
  unfold mulLo at hLO
  unfold mulHi at hHI
  generalize sI n (a % 2 ^ n) = sA at *
  generalize sI n (b % 2 ^ n) = sB at *
  generalize LO % 2 ^ n = R at *
  generalize sext n R = BK at *
  generalize htb : BK / 2 ^ 63 % 2 = tb at *
  have htb2 : tb = 0 ∨ tb = 1 := by omega
  obtain ⟨o1, ho1⟩ : ∃ o1, ((BK : Int) != (LO : Int)) = o1 := ⟨_, rfl⟩
  obtain ⟨o2, ho2⟩ : ∃ o2, (((if tb = 1 then 18446744073709551615 else 0 : Int)) != (HI : Int)) = o2 := ⟨_, rfl⟩
  rw [ho1, ho2] at hOO
  have HLO := hid hLO
  have HHI := hid hHI
  clear hLO hHI htb hBl
  generalize sext n (a % 2 ^ n) = X at *
  generalize sext n (b % 2 ^ n) = Y at *
  have HX0 := hid hXs
  have HYb := hid (sign_bit sB hsB.1 hsB.2 Y hYs)
  have HA := hid hsA
  clear hXs hYs hsA hsB
  have bX := bit_calls X hXl 63 (by decide)
  rw [show ((63 : Nat) : Int) = 63 from rfl] at bX
  generalize hsx : X / 2 ^ 63 % 2 = sx at *
  have hsx2 : sx = 0 ∨ sx = 1 := by omega
  have hsg : IntKind.u64.signed = false := rfl
  have Hsx := hid hsx
  clear hsx
  have hnp : bits .xor .u64 IntKind.u64.max 0 = 18446744073709551615 := by decide
  rcases hsx2 with rfl | rfl
  · go_enter Try.func33, Try.ntmps33
    go_wp2_with (first | (go_at_call 49; (with_reducible refine (Bits_ok _ n hS _).mono ?_); rintro e w' ⟨rfl, rfl⟩) | (go_at_call 28; (with_reducible refine (cX _).mono ?_); rintro e w' ⟨rfl, rfl⟩) | (go_at_call 28; (with_reducible refine (cY _).mono ?_); rintro e w' ⟨rfl, rfl⟩) | (go_at_call 48; (refine (bX _).mono ?_); rintro e w' ⟨rfl, rfl⟩))
    go_loop [10, 14, 15, 16, 17] (fun x h d xh i => ∃ j : Nat, j ≤ 128 ∧ i = .int .i64 (j : Int) ∧ ∃ x' h' d' xh' : Nat, x = .int .u64 (x' : Int) ∧ h = .int .u64 (h' : Int) ∧ d = .int .u64 (d' : Int) ∧ xh = .int .u64 (xh' : Int) ∧ Hid (MInv sA sB j x' h' d' xh')) (fun _ _ _ _ i => (128 - intOf i).toNat)
    case atStart => exact ⟨0, by omega, rfl, X, 0, 0, 0, rfl, rfl, rfl, rfl, hid (MInv_zero _ _ X 0 HA.out.1 HA.out.2 HX0.out (.inl ⟨Hsx.out, rfl⟩))⟩
    case round =>
      obtain ⟨j, hj, rfl, x, h, d, xh, rfl, rfl, rfl, rfl, hI⟩ := hrel
      by_cases hlt : j < 128
      · obtain ⟨m, hm⟩ : ∃ m : Nat, m = min j 63 := ⟨_, rfl⟩
        have hmi : min (j : Int) 63 = (m : Int) := by omega
        have hmin : ∀ (ts : Array TypeId) (t : TypeId) (W : World), (Builtin.min_ ts t #[.int .i64 (j : Int), .int .i64 63]).run Try.prog W = .ok (.int .i64 (m : Int)) W := fun ts t W => by
          rw [← hmi, run_min_int2]
          congr 2
          omega
        have bY := bit_calls Y hYl m (by omega)
        have hq := HYb.out j
        rw [← hm] at hq
        generalize Y / 2 ^ m % 2 = q at *
        have hq2 : q = 0 ∨ q = 1 := by omega
        have HQ := hid hq
        clear hm hmi hq
        obtain ⟨x', hx', hx1, hx2⟩ := wrapu_nat ((x : Int) * 2)
        obtain ⟨xh', hxh', hxh1, hxh2⟩ := dbl_or xh x hI.out.1
        have HX := hid hx2
        have HXH := hid hxh2
        clear hx1 hx2 hxh1 hxh2
        rcases hq2 with rfl | rfl
        · go_wp2_with (first | (go_at_call 48; (refine (bY _).mono ?_); rintro e w' ⟨rfl, rfl⟩))
          go_round
          case rel => exact ⟨j + 1, by omega, by go_num, x', h, d, xh', rfl, rfl, rfl, rfl, hid (MInv_skip _ _ j x h d xh x' xh' hI.out HQ.out.symm HX.out HXH.out)⟩
          case measure => simp [intOf]; omega
        · obtain ⟨s, hs, hs1, hs2⟩ := wrapu_nat ((d : Int) + (x : Int))
          have HS := hid hs2
          clear hs1 hs2
          by_cases hc : (s : Int) < (d : Int)
          · obtain ⟨h', hh', hh1, hh2⟩ := wrapu_nat (IntKind.u64.wrap ((h : Int) + 1) + (xh : Int))
            have HH := hid hh2
            clear hh1 hh2
            go_wp2_with (first | (go_at_call 48; (refine (bY _).mono ?_); rintro e w' ⟨rfl, rfl⟩))
            go_round
            case rel => exact ⟨j + 1, by omega, by go_num, x', h', s, xh', rfl, rfl, rfl, rfl, hid (MInv_add _ _ j x h d xh x' h' s xh' hI.out HQ.out.symm HS.out (by rw [if_pos hc, HH.out, wrapu]) HX.out HXH.out)⟩
            case measure => simp [intOf]; omega
          · obtain ⟨h', hh', hh1, hh2⟩ := wrapu_nat ((h : Int) + (xh : Int))
            have HH := hid hh2
            clear hh1 hh2
            go_wp2_with (first | (go_at_call 48; (refine (bY _).mono ?_); rintro e w' ⟨rfl, rfl⟩))
            go_round
            case rel => exact ⟨j + 1, by omega, by go_num, x', h', s, xh', rfl, rfl, rfl, rfl, hid (MInv_add _ _ j x h d xh x' h' s xh' hI.out HQ.out.symm HS.out (by rw [if_neg (Int.not_lt.mpr hc), HH.out]) HX.out HXH.out)⟩
            case measure => simp [intOf]; omega
      · obtain rfl : j = 128 := by omega
        obtain ⟨e1, e2⟩ := MInv_end _ _ _ _ _ _ hI.out
        obtain rfl : d = LO := by have := HLO.out; unfold P64 at *; omega
        obtain rfl : h = HI := by have := HHI.out; unfold P64 at *; omega
        clear e1 e2 hlt
        rcases htb2 with rfl | rfl
        all_goals
          cases o1
          · cases o2
            · simp at hOO
              obtain rfl := hOO
              simp only [if_true, if_false, Nat.zero_ne_one] at ho2
              go_wp2_with (first | (go_at_call 52; (with_reducible refine (l0 _).mono ?_); rintro e w' ⟨rfl, rfl⟩) | (go_at_call 28; (with_reducible refine (cR _).mono ?_); rintro e w' ⟨rfl, rfl⟩) | (go_at_call 48; (refine (bB _).mono ?_); rintro e w' ⟨rfl, rfl⟩) | (go_at_call 51; (with_reducible refine (fc _).mono ?_); rintro e w' ⟨rfl, hb⟩; obtain ⟨hc, hf, hz⟩ := bcell hb; (try simp at hz); (try have hzz : w.heap.size < w'.heap.size := by omega); (try have hzz1 : w.heap.size + 1 < w'.heap.size := by omega); (try have hzz2 : w.heap.size + 2 < w'.heap.size := by omega); have hB := Below.trans (B := w.heap.size) (a := w) (by (repeat' (first | (with_reducible exact Below.refl _ _) | (with_reducible assumption) | (with_reducible refine Below.alloc ?_ ?_ _) | (with_reducible refine Below.drew ?_) | (with_reducible refine below_drewN ?_ _) | (with_reducible refine Below.setCell ?_ ?_ _) | (first | (with_reducible exact Nat.le_refl _) | (with_reducible assumption) | omega | (simp; omega) | (simp; done))))) (hb.mono (by (first | (with_reducible exact Nat.le_refl _) | (with_reducible assumption) | omega | (simp; omega) | (simp; done))))))
              go_region
              go_wp2
              refine bodyPost_ret (v := .tuple #[.int .u64 (R : Nat), flagsV n R false false, .int .i64 0]) (by simp [results, Try.results33, go_sem, *]) rfl ?_
              exact ⟨rfl, by (repeat' (first | (with_reducible exact Below.refl _ _) | (with_reducible assumption) | (with_reducible refine Below.alloc ?_ ?_ _) | (with_reducible refine Below.drew ?_) | (with_reducible refine below_drewN ?_ _) | (with_reducible refine Below.setCell ?_ ?_ _) | (first | (with_reducible exact Nat.le_refl _) | (with_reducible assumption) | omega | (simp; omega) | (simp; done))))⟩
            · simp at hOO
              obtain rfl := hOO
              simp only [if_true, if_false, Nat.zero_ne_one] at ho2
              go_wp2_with (first | (go_at_call 52; (with_reducible refine (l0 _).mono ?_); rintro e w' ⟨rfl, rfl⟩) | (go_at_call 28; (with_reducible refine (cR _).mono ?_); rintro e w' ⟨rfl, rfl⟩) | (go_at_call 48; (refine (bB _).mono ?_); rintro e w' ⟨rfl, rfl⟩) | (go_at_call 51; (with_reducible refine (fc _).mono ?_); rintro e w' ⟨rfl, hb⟩; obtain ⟨hc, hf, hz⟩ := bcell hb; (try simp at hz); (try have hzz : w.heap.size < w'.heap.size := by omega); (try have hzz1 : w.heap.size + 1 < w'.heap.size := by omega); (try have hzz2 : w.heap.size + 2 < w'.heap.size := by omega); have hB := Below.trans (B := w.heap.size) (a := w) (by (repeat' (first | (with_reducible exact Below.refl _ _) | (with_reducible assumption) | (with_reducible refine Below.alloc ?_ ?_ _) | (with_reducible refine Below.drew ?_) | (with_reducible refine below_drewN ?_ _) | (with_reducible refine Below.setCell ?_ ?_ _) | (first | (with_reducible exact Nat.le_refl _) | (with_reducible assumption) | omega | (simp; omega) | (simp; done))))) (hb.mono (by (first | (with_reducible exact Nat.le_refl _) | (with_reducible assumption) | omega | (simp; omega) | (simp; done))))))
              go_region
              go_wp2
              refine bodyPost_ret (v := .tuple #[.int .u64 (R : Nat), flagsV n R true true, .int .i64 0]) (by simp [results, Try.results33, go_sem, *]) rfl ?_
              exact ⟨rfl, by (repeat' (first | (with_reducible exact Below.refl _ _) | (with_reducible assumption) | (with_reducible refine Below.alloc ?_ ?_ _) | (with_reducible refine Below.drew ?_) | (with_reducible refine below_drewN ?_ _) | (with_reducible refine Below.setCell ?_ ?_ _) | (first | (with_reducible exact Nat.le_refl _) | (with_reducible assumption) | omega | (simp; omega) | (simp; done))))⟩
          · simp at hOO
            obtain rfl := hOO
            simp only [if_true, if_false, Nat.zero_ne_one] at ho2
            go_wp2_with (first | (go_at_call 52; (with_reducible refine (l0 _).mono ?_); rintro e w' ⟨rfl, rfl⟩) | (go_at_call 28; (with_reducible refine (cR _).mono ?_); rintro e w' ⟨rfl, rfl⟩) | (go_at_call 48; (refine (bB _).mono ?_); rintro e w' ⟨rfl, rfl⟩) | (go_at_call 51; (with_reducible refine (fc _).mono ?_); rintro e w' ⟨rfl, hb⟩; obtain ⟨hc, hf, hz⟩ := bcell hb; (try simp at hz); (try have hzz : w.heap.size < w'.heap.size := by omega); (try have hzz1 : w.heap.size + 1 < w'.heap.size := by omega); (try have hzz2 : w.heap.size + 2 < w'.heap.size := by omega); have hB := Below.trans (B := w.heap.size) (a := w) (by (repeat' (first | (with_reducible exact Below.refl _ _) | (with_reducible assumption) | (with_reducible refine Below.alloc ?_ ?_ _) | (with_reducible refine Below.drew ?_) | (with_reducible refine below_drewN ?_ _) | (with_reducible refine Below.setCell ?_ ?_ _) | (first | (with_reducible exact Nat.le_refl _) | (with_reducible assumption) | omega | (simp; omega) | (simp; done))))) (hb.mono (by (first | (with_reducible exact Nat.le_refl _) | (with_reducible assumption) | omega | (simp; omega) | (simp; done))))))
            go_region
            go_wp2
            refine bodyPost_ret (v := .tuple #[.int .u64 (R : Nat), flagsV n R true true, .int .i64 0]) (by simp [results, Try.results33, go_sem, *]) rfl ?_
            exact ⟨rfl, by (repeat' (first | (with_reducible exact Below.refl _ _) | (with_reducible assumption) | (with_reducible refine Below.alloc ?_ ?_ _) | (with_reducible refine Below.drew ?_) | (with_reducible refine below_drewN ?_ _) | (with_reducible refine Below.setCell ?_ ?_ _) | (first | (with_reducible exact Nat.le_refl _) | (with_reducible assumption) | omega | (simp; omega) | (simp; done))))⟩
  · go_enter Try.func33, Try.ntmps33
    go_wp2_with (first | (go_at_call 49; (with_reducible refine (Bits_ok _ n hS _).mono ?_); rintro e w' ⟨rfl, rfl⟩) | (go_at_call 28; (with_reducible refine (cX _).mono ?_); rintro e w' ⟨rfl, rfl⟩) | (go_at_call 28; (with_reducible refine (cY _).mono ?_); rintro e w' ⟨rfl, rfl⟩) | (go_at_call 48; (refine (bX _).mono ?_); rintro e w' ⟨rfl, rfl⟩))
    go_loop [10, 14, 15, 16, 17] (fun x h d xh i => ∃ j : Nat, j ≤ 128 ∧ i = .int .i64 (j : Int) ∧ ∃ x' h' d' xh' : Nat, x = .int .u64 (x' : Int) ∧ h = .int .u64 (h' : Int) ∧ d = .int .u64 (d' : Int) ∧ xh = .int .u64 (xh' : Int) ∧ Hid (MInv sA sB j x' h' d' xh')) (fun _ _ _ _ i => (128 - intOf i).toNat)
    case atStart => exact ⟨0, by omega, rfl, X, 0, 0, 18446744073709551615, rfl, rfl, rfl, by rfl, hid (MInv_zero _ _ X _ HA.out.1 HA.out.2 HX0.out (.inr ⟨Hsx.out, rfl⟩))⟩
    case round =>
      obtain ⟨j, hj, rfl, x, h, d, xh, rfl, rfl, rfl, rfl, hI⟩ := hrel
      by_cases hlt : j < 128
      · obtain ⟨m, hm⟩ : ∃ m : Nat, m = min j 63 := ⟨_, rfl⟩
        have hmi : min (j : Int) 63 = (m : Int) := by omega
        have hmin : ∀ (ts : Array TypeId) (t : TypeId) (W : World), (Builtin.min_ ts t #[.int .i64 (j : Int), .int .i64 63]).run Try.prog W = .ok (.int .i64 (m : Int)) W := fun ts t W => by
          rw [← hmi, run_min_int2]
          congr 2
          omega
        have bY := bit_calls Y hYl m (by omega)
        have hq := HYb.out j
        rw [← hm] at hq
        generalize Y / 2 ^ m % 2 = q at *
        have hq2 : q = 0 ∨ q = 1 := by omega
        have HQ := hid hq
        clear hm hmi hq
        obtain ⟨x', hx', hx1, hx2⟩ := wrapu_nat ((x : Int) * 2)
        obtain ⟨xh', hxh', hxh1, hxh2⟩ := dbl_or xh x hI.out.1
        have HX := hid hx2
        have HXH := hid hxh2
        clear hx1 hx2 hxh1 hxh2
        rcases hq2 with rfl | rfl
        · go_wp2_with (first | (go_at_call 48; (refine (bY _).mono ?_); rintro e w' ⟨rfl, rfl⟩))
          go_round
          case rel => exact ⟨j + 1, by omega, by go_num, x', h, d, xh', rfl, rfl, rfl, rfl, hid (MInv_skip _ _ j x h d xh x' xh' hI.out HQ.out.symm HX.out HXH.out)⟩
          case measure => simp [intOf]; omega
        · obtain ⟨s, hs, hs1, hs2⟩ := wrapu_nat ((d : Int) + (x : Int))
          have HS := hid hs2
          clear hs1 hs2
          by_cases hc : (s : Int) < (d : Int)
          · obtain ⟨h', hh', hh1, hh2⟩ := wrapu_nat (IntKind.u64.wrap ((h : Int) + 1) + (xh : Int))
            have HH := hid hh2
            clear hh1 hh2
            go_wp2_with (first | (go_at_call 48; (refine (bY _).mono ?_); rintro e w' ⟨rfl, rfl⟩))
            go_round
            case rel => exact ⟨j + 1, by omega, by go_num, x', h', s, xh', rfl, rfl, rfl, rfl, hid (MInv_add _ _ j x h d xh x' h' s xh' hI.out HQ.out.symm HS.out (by rw [if_pos hc, HH.out, wrapu]) HX.out HXH.out)⟩
            case measure => simp [intOf]; omega
          · obtain ⟨h', hh', hh1, hh2⟩ := wrapu_nat ((h : Int) + (xh : Int))
            have HH := hid hh2
            clear hh1 hh2
            go_wp2_with (first | (go_at_call 48; (refine (bY _).mono ?_); rintro e w' ⟨rfl, rfl⟩))
            go_round
            case rel => exact ⟨j + 1, by omega, by go_num, x', h', s, xh', rfl, rfl, rfl, rfl, hid (MInv_add _ _ j x h d xh x' h' s xh' hI.out HQ.out.symm HS.out (by rw [if_neg (Int.not_lt.mpr hc), HH.out]) HX.out HXH.out)⟩
            case measure => simp [intOf]; omega
      · obtain rfl : j = 128 := by omega
        obtain ⟨e1, e2⟩ := MInv_end _ _ _ _ _ _ hI.out
        obtain rfl : d = LO := by have := HLO.out; unfold P64 at *; omega
        obtain rfl : h = HI := by have := HHI.out; unfold P64 at *; omega
        clear e1 e2 hlt
        rcases htb2 with rfl | rfl
        all_goals
          cases o1
          · cases o2
            · simp at hOO
              obtain rfl := hOO
              simp only [if_true, if_false, Nat.zero_ne_one] at ho2
              go_wp2_with (first | (go_at_call 52; (with_reducible refine (l0 _).mono ?_); rintro e w' ⟨rfl, rfl⟩) | (go_at_call 28; (with_reducible refine (cR _).mono ?_); rintro e w' ⟨rfl, rfl⟩) | (go_at_call 48; (refine (bB _).mono ?_); rintro e w' ⟨rfl, rfl⟩) | (go_at_call 51; (with_reducible refine (fc _).mono ?_); rintro e w' ⟨rfl, hb⟩; obtain ⟨hc, hf, hz⟩ := bcell hb; (try simp at hz); (try have hzz : w.heap.size < w'.heap.size := by omega); (try have hzz1 : w.heap.size + 1 < w'.heap.size := by omega); (try have hzz2 : w.heap.size + 2 < w'.heap.size := by omega); have hB := Below.trans (B := w.heap.size) (a := w) (by (repeat' (first | (with_reducible exact Below.refl _ _) | (with_reducible assumption) | (with_reducible refine Below.alloc ?_ ?_ _) | (with_reducible refine Below.drew ?_) | (with_reducible refine below_drewN ?_ _) | (with_reducible refine Below.setCell ?_ ?_ _) | (first | (with_reducible exact Nat.le_refl _) | (with_reducible assumption) | omega | (simp; omega) | (simp; done))))) (hb.mono (by (first | (with_reducible exact Nat.le_refl _) | (with_reducible assumption) | omega | (simp; omega) | (simp; done))))))
              go_region
              go_wp2
              refine bodyPost_ret (v := .tuple #[.int .u64 (R : Nat), flagsV n R false false, .int .i64 0]) (by simp [results, Try.results33, go_sem, *]) rfl ?_
              exact ⟨rfl, by (repeat' (first | (with_reducible exact Below.refl _ _) | (with_reducible assumption) | (with_reducible refine Below.alloc ?_ ?_ _) | (with_reducible refine Below.drew ?_) | (with_reducible refine below_drewN ?_ _) | (with_reducible refine Below.setCell ?_ ?_ _) | (first | (with_reducible exact Nat.le_refl _) | (with_reducible assumption) | omega | (simp; omega) | (simp; done))))⟩
            · simp at hOO
              obtain rfl := hOO
              simp only [if_true, if_false, Nat.zero_ne_one] at ho2
              go_wp2_with (first | (go_at_call 52; (with_reducible refine (l0 _).mono ?_); rintro e w' ⟨rfl, rfl⟩) | (go_at_call 28; (with_reducible refine (cR _).mono ?_); rintro e w' ⟨rfl, rfl⟩) | (go_at_call 48; (refine (bB _).mono ?_); rintro e w' ⟨rfl, rfl⟩) | (go_at_call 51; (with_reducible refine (fc _).mono ?_); rintro e w' ⟨rfl, hb⟩; obtain ⟨hc, hf, hz⟩ := bcell hb; (try simp at hz); (try have hzz : w.heap.size < w'.heap.size := by omega); (try have hzz1 : w.heap.size + 1 < w'.heap.size := by omega); (try have hzz2 : w.heap.size + 2 < w'.heap.size := by omega); have hB := Below.trans (B := w.heap.size) (a := w) (by (repeat' (first | (with_reducible exact Below.refl _ _) | (with_reducible assumption) | (with_reducible refine Below.alloc ?_ ?_ _) | (with_reducible refine Below.drew ?_) | (with_reducible refine below_drewN ?_ _) | (with_reducible refine Below.setCell ?_ ?_ _) | (first | (with_reducible exact Nat.le_refl _) | (with_reducible assumption) | omega | (simp; omega) | (simp; done))))) (hb.mono (by (first | (with_reducible exact Nat.le_refl _) | (with_reducible assumption) | omega | (simp; omega) | (simp; done))))))
              go_region
              go_wp2
              refine bodyPost_ret (v := .tuple #[.int .u64 (R : Nat), flagsV n R true true, .int .i64 0]) (by simp [results, Try.results33, go_sem, *]) rfl ?_
              exact ⟨rfl, by (repeat' (first | (with_reducible exact Below.refl _ _) | (with_reducible assumption) | (with_reducible refine Below.alloc ?_ ?_ _) | (with_reducible refine Below.drew ?_) | (with_reducible refine below_drewN ?_ _) | (with_reducible refine Below.setCell ?_ ?_ _) | (first | (with_reducible exact Nat.le_refl _) | (with_reducible assumption) | omega | (simp; omega) | (simp; done))))⟩
          · simp at hOO
            obtain rfl := hOO
            simp only [if_true, if_false, Nat.zero_ne_one] at ho2
            go_wp2_with (first | (go_at_call 52; (with_reducible refine (l0 _).mono ?_); rintro e w' ⟨rfl, rfl⟩) | (go_at_call 28; (with_reducible refine (cR _).mono ?_); rintro e w' ⟨rfl, rfl⟩) | (go_at_call 48; (refine (bB _).mono ?_); rintro e w' ⟨rfl, rfl⟩) | (go_at_call 51; (with_reducible refine (fc _).mono ?_); rintro e w' ⟨rfl, hb⟩; obtain ⟨hc, hf, hz⟩ := bcell hb; (try simp at hz); (try have hzz : w.heap.size < w'.heap.size := by omega); (try have hzz1 : w.heap.size + 1 < w'.heap.size := by omega); (try have hzz2 : w.heap.size + 2 < w'.heap.size := by omega); have hB := Below.trans (B := w.heap.size) (a := w) (by (repeat' (first | (with_reducible exact Below.refl _ _) | (with_reducible assumption) | (with_reducible refine Below.alloc ?_ ?_ _) | (with_reducible refine Below.drew ?_) | (with_reducible refine below_drewN ?_ _) | (with_reducible refine Below.setCell ?_ ?_ _) | (first | (with_reducible exact Nat.le_refl _) | (with_reducible assumption) | omega | (simp; omega) | (simp; done))))) (hb.mono (by (first | (with_reducible exact Nat.le_refl _) | (with_reducible assumption) | omega | (simp; omega) | (simp; done))))))
            go_region
            go_wp2
            refine bodyPost_ret (v := .tuple #[.int .u64 (R : Nat), flagsV n R true true, .int .i64 0]) (by simp [results, Try.results33, go_sem, *]) rfl ?_
            exact ⟨rfl, by (repeat' (first | (with_reducible exact Below.refl _ _) | (with_reducible assumption) | (with_reducible refine Below.alloc ?_ ?_ _) | (with_reducible refine Below.drew ?_) | (with_reducible refine below_drewN ?_ _) | (with_reducible refine Below.setCell ?_ ?_ _) | (first | (with_reducible exact Nat.le_refl _) | (with_reducible assumption) | omega | (simp; omega) | (simp; done))))⟩

theorem Mul_no (size : Int) (hS : NoSZ size) (a b : Int) (w : World) :
    Calls Try.prog 33 #[.int .u64 a, .int .u64 b, .int .i64 size] w fun e w' => e = .returned wrongV ∧ Below w.heap.size w w' := by
  go_enter Try.func33, Try.ntmps33
  go_wp2_with (first | (go_at_call 49; (with_reducible refine (Bits_no _ hS _).mono ?_); rintro e w' ⟨rfl, rfl⟩))
  refine bodyPost_ret (v := wrongV) (by simp [results, Try.results33, go_sem, *]) rfl ?_
  exact ⟨rfl, by (repeat' (first | (with_reducible exact Below.refl _ _) | (with_reducible assumption) | (with_reducible refine Below.alloc ?_ ?_ _) | (with_reducible refine Below.drew ?_) | (with_reducible refine below_drewN ?_ _) | (with_reducible refine Below.setCell ?_ ?_ _) | (first | (with_reducible exact Nat.le_refl _) | (with_reducible assumption) | omega | (simp; omega) | (simp; done))))⟩
end Go.Proofs.Ytknopookopfoeaa.AluR
