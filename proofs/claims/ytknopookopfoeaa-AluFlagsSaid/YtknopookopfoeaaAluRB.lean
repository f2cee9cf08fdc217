/- What the reference's Add, Sub, Logic, One come to. -/
import Derived.Test.YtknopookopfoeaaAluRA
namespace Go.Proofs.Ytknopookopfoeaa.AluR
open Go.RowKit Go.Proofs.Ytknopookopfoeaa.AluMath

theorem pow_le_M64 {n : Nat} (hn : n ≤ 64) : 2 ^ n ≤ M64 := Nat.pow_le_pow_right (n := 2) (by decide) hn

theorem sT_top (a b c : Nat) (turned : Bool) (n : Nat) (hn : 1 ≤ n) (hc : c ≤ 1) :
    ((sInto a b c turned n : Int) != (sT a b c turned n / 2 ^ n : Nat)) =
      ((if turned then topB n (a % 2 ^ n) != topB n (b % 2 ^ n) else topB n (a % 2 ^ n) == topB n (b % 2 ^ n)) && (topB n (sT a b c turned n % 2 ^ n) != topB n (a % 2 ^ n))) := by
  obtain ⟨k, rfl⟩ : ∃ k, n = k + 1 := ⟨n - 1, by omega⟩
  obtain ⟨p1, p2⟩ := sT_parts a b c turned k
  have hI := sT_le a b c turned k hc
  have hr : sT a b c turned k % 2 ^ k < 2 ^ k := Nat.mod_lt _ (Nat.two_pow_pos k)
  have htop : ∀ r q : Nat, r < 2 ^ k → topB (k + 1) (r + q % 2 * 2 ^ k) = (q % 2 == 1) := by
    intro r q h
    unfold topB
    rw [Nat.add_sub_cancel, Nat.add_mul_div_right _ _ (Nat.two_pow_pos k), Nat.div_eq_of_lt h, Nat.zero_add, Nat.mod_mod]
  rw [p1, p2, htop _ _ hr, nat_step a k, nat_step b k, htop _ _ (Nat.mod_lt _ (Nat.two_pow_pos k)), htop _ _ (Nat.mod_lt _ (Nat.two_pow_pos k))]
  have e : sInto a b c turned (k + 1) = sT a b c turned k / 2 ^ k := by simp [sInto]
  rw [e]
  generalize sT a b c turned k / 2 ^ k = I at *
  have hx : a / 2 ^ k % 2 = 0 ∨ a / 2 ^ k % 2 = 1 := by omega
  have hy : b / 2 ^ k % 2 = 0 ∨ b / 2 ^ k % 2 = 1 := by omega
  have hi : I = 0 ∨ I = 1 := by omega
  unfold sBit
  rcases hx with hx | hx <;> rcases hy with hy | hy <;> rcases hi with rfl | rfl <;> cases turned <;> simp [hx, hy]

theorem sT_add (a b c n : Nat) : sT a b c false n = a % 2 ^ n + b % 2 ^ n + c := rfl
theorem sT_sub (a b n : Nat) (c : Nat) (hc : c ≤ 1) : sT a b (1 - c) true n = a % 2 ^ n + 2 ^ n - b % 2 ^ n - c := by
  have h := Nat.mod_lt b (Nat.two_pow_pos n)
  unfold sT
  simp only [if_true]
  omega

set_option maxHeartbeats 1000000 in
theorem Add_ok (size : Int) (n : Nat) (hS : SZ size n) (a b : Nat) (ha : a < M64) (hb : b < M64) (c : Bool) (w : World) :
    Calls Try.prog 23 #[.int .u64 (a : Int), .int .u64 (b : Int), .bool c, .int .i64 size] w fun e w' =>
      e = .returned (.tuple #[.int .u64 (sumR n a b (b2n c) : Nat), flagsV n (sumR n a b (b2n c)) (sumC n a b (b2n c)) (sumO n a b (b2n c)), .int .i64 0]) ∧ Below w.heap.size w w' := by
  have hn := hS.cases
  have hn64 : n ≤ 64 := by omega
  have hn0 : ((n : Int) == 0) = false := by simp; omega
  have hs := sum_calls a b ha hb (b2n c) (b2n_le c) false n hn64
  have hR : sumR n a b (b2n c) < M64 := Nat.lt_of_lt_of_le (Nat.mod_lt _ (Nat.two_pow_pos n)) (pow_le_M64 hn64)
  have hO := sT_top a b (b2n c) false n (by omega) (b2n_le c)
  have hC : (((sT a b (b2n c) false n / 2 ^ n : Nat) : Int) == 1) = sumC n a b (b2n c) := by
    have h1 := sT_le a b (b2n c) false n (b2n_le c)
    rw [Bool.eq_iff_iff, beq_iff_eq, sumC, decide_eq_true_eq, ← sT_add]
    have h2 := Nat.div_eq_zero_iff (a := sT a b (b2n c) false n) (b := 2 ^ n)
    have h3 := Nat.two_pow_pos n
    generalize sT a b (b2n c) false n / 2 ^ n = q at *
    omega
  rw [show sT a b (b2n c) false n % 2 ^ n = sumR n a b (b2n c) from rfl] at hO hs
  rw [show (if false = true then topB n (a % 2 ^ n) != topB n (b % 2 ^ n) else topB n (a % 2 ^ n) == topB n (b % 2 ^ n)) = (topB n (a % 2 ^ n) == topB n (b % 2 ^ n)) from rfl] at hO
  rw [show ((topB n (a % 2 ^ n) == topB n (b % 2 ^ n)) && (topB n (sumR n a b (b2n c)) != topB n (a % 2 ^ n))) = sumO n a b (b2n c) from rfl] at hO
  generalize sumC n a b (b2n c) = C at *
  generalize sumO n a b (b2n c) = O at *
  generalize sumR n a b (b2n c) = R at *
  generalize sInto a b (b2n c) false n = I at *
  generalize sT a b (b2n c) false n / 2 ^ n = o at *
  have hO' : ((I : Int) == (o : Int)) = !O := by rw [← hO]; exact (Bool.not_not _).symm
  cases c
  all_goals
    go_enter Try.func23, Try.ntmps23
    go_wp2_with (first | (go_at_call 49; (with_reducible refine (Bits_ok _ n hS _).mono ?_); rintro e w' ⟨rfl, rfl⟩) | (go_at_call 50; (refine (hs _).mono ?_); rintro e w' ⟨rfl, rfl⟩) | (go_at_call 51; (with_reducible refine (flags_calls n hn R hR _).mono ?_); rintro e w' ⟨rfl, hb⟩; obtain ⟨hc, hf, hz⟩ := bcell hb; (try simp at hz); (try have hzz : w.heap.size < w'.heap.size := by omega); (try have hzz1 : w.heap.size + 1 < w'.heap.size := by omega); (try have hzz2 : w.heap.size + 2 < w'.heap.size := by omega); have hB := Below.trans (B := w.heap.size) (a := w) (by (repeat' (first | (with_reducible exact Below.refl _ _) | (with_reducible assumption) | (with_reducible refine Below.alloc ?_ ?_ _) | (with_reducible refine Below.drew ?_) | (with_reducible refine below_drewN ?_ _) | (with_reducible refine Below.setCell ?_ ?_ _) | (first | (with_reducible exact Nat.le_refl _) | (with_reducible assumption) | omega | (simp; omega) | (simp; done))))) (hb.mono (by (first | (with_reducible exact Nat.le_refl _) | (with_reducible assumption) | omega | (simp; omega) | (simp; done))))))
    go_region
    go_wp2
    refine bodyPost_ret (v := .tuple #[.int .u64 (R : Nat), flagsV n R C O, .int .i64 0]) (by simp [results, Try.results23, go_sem, *]) rfl ?_
    exact ⟨rfl, by (repeat' (first | (with_reducible exact Below.refl _ _) | (with_reducible assumption) | (with_reducible refine Below.alloc ?_ ?_ _) | (with_reducible refine Below.drew ?_) | (with_reducible refine below_drewN ?_ _) | (with_reducible refine Below.setCell ?_ ?_ _) | (first | (with_reducible exact Nat.le_refl _) | (with_reducible assumption) | omega | (simp; omega) | (simp; done))))⟩

set_option maxHeartbeats 1000000 in
theorem Sub_ok (size : Int) (n : Nat) (hS : SZ size n) (a b : Nat) (ha : a < M64) (hb : b < M64) (c : Bool) (w : World) :
    Calls Try.prog 24 #[.int .u64 (a : Int), .int .u64 (b : Int), .bool c, .int .i64 size] w fun e w' =>
      e = .returned (.tuple #[.int .u64 (difR n a b (b2n c) : Nat), flagsV n (difR n a b (b2n c)) (difC n a b (b2n c)) (difO n a b (b2n c)), .int .i64 0]) ∧ Below w.heap.size w w' := by
  have hn := hS.cases
  have hn64 : n ≤ 64 := by omega
  have hn0 : ((n : Int) == 0) = false := by simp; omega
  have hs := sum_calls a b ha hb (1 - b2n c) (by omega) true n hn64
  have hR : difR n a b (b2n c) < M64 := Nat.lt_of_lt_of_le (Nat.mod_lt _ (Nat.two_pow_pos n)) (pow_le_M64 hn64)
  have hO := sT_top a b (1 - b2n c) true n (by omega) (by omega)
  have hsT := sT_sub a b n (b2n c) (b2n_le c)
  have hC : (((sT a b (1 - b2n c) true n / 2 ^ n : Nat) : Int) == 0) = difC n a b (b2n c) := by
    rw [Bool.eq_iff_iff, beq_iff_eq, difC, decide_eq_true_eq, hsT]
    have h2 := Nat.div_eq_zero_iff (a := a % 2 ^ n + 2 ^ n - b % 2 ^ n - b2n c) (b := 2 ^ n)
    have h3 := Nat.two_pow_pos n
    have h4 := Nat.mod_lt b h3
    have h5 := b2n_le c
    generalize (a % 2 ^ n + 2 ^ n - b % 2 ^ n - b2n c) / 2 ^ n = q at *
    omega
  rw [show sT a b (1 - b2n c) true n % 2 ^ n = difR n a b (b2n c) by rw [hsT]; rfl] at hO hs
  rw [show (if true = true then topB n (a % 2 ^ n) != topB n (b % 2 ^ n) else topB n (a % 2 ^ n) == topB n (b % 2 ^ n)) = (topB n (a % 2 ^ n) != topB n (b % 2 ^ n)) from rfl] at hO
  rw [show ((topB n (a % 2 ^ n) != topB n (b % 2 ^ n)) && (topB n (difR n a b (b2n c)) != topB n (a % 2 ^ n))) = difO n a b (b2n c) from rfl] at hO
  clear hsT
  generalize difC n a b (b2n c) = C at *
  generalize difO n a b (b2n c) = O at *
  generalize difR n a b (b2n c) = R at *
  generalize sInto a b (1 - b2n c) true n = I at *
  generalize sT a b (1 - b2n c) true n / 2 ^ n = o at *
  have hO' : ((I : Int) == (o : Int)) = !O := by rw [← hO]; exact (Bool.not_not _).symm
  cases c
  all_goals
    go_enter Try.func24, Try.ntmps24
    go_wp2_with (first | (go_at_call 49; (with_reducible refine (Bits_ok _ n hS _).mono ?_); rintro e w' ⟨rfl, rfl⟩) | (go_at_call 50; (refine (hs _).mono ?_); rintro e w' ⟨rfl, rfl⟩) | (go_at_call 51; (with_reducible refine (flags_calls n hn R hR _).mono ?_); rintro e w' ⟨rfl, hb⟩; obtain ⟨hc, hf, hz⟩ := bcell hb; (try simp at hz); (try have hzz : w.heap.size < w'.heap.size := by omega); (try have hzz1 : w.heap.size + 1 < w'.heap.size := by omega); (try have hzz2 : w.heap.size + 2 < w'.heap.size := by omega); have hB := Below.trans (B := w.heap.size) (a := w) (by (repeat' (first | (with_reducible exact Below.refl _ _) | (with_reducible assumption) | (with_reducible refine Below.alloc ?_ ?_ _) | (with_reducible refine Below.drew ?_) | (with_reducible refine below_drewN ?_ _) | (with_reducible refine Below.setCell ?_ ?_ _) | (first | (with_reducible exact Nat.le_refl _) | (with_reducible assumption) | omega | (simp; omega) | (simp; done))))) (hb.mono (by (first | (with_reducible exact Nat.le_refl _) | (with_reducible assumption) | omega | (simp; omega) | (simp; done))))))
    go_region
    go_wp2
    refine bodyPost_ret (v := .tuple #[.int .u64 (R : Nat), flagsV n R C O, .int .i64 0]) (by simp [results, Try.results24, go_sem, *]) rfl ?_
    exact ⟨rfl, by (repeat' (first | (with_reducible exact Below.refl _ _) | (with_reducible assumption) | (with_reducible refine Below.alloc ?_ ?_ _) | (with_reducible refine Below.drew ?_) | (with_reducible refine below_drewN ?_ _) | (with_reducible refine Below.setCell ?_ ?_ _) | (first | (with_reducible exact Nat.le_refl _) | (with_reducible assumption) | omega | (simp; omega) | (simp; done))))⟩

theorem Add_no (size : Int) (hS : NoSZ size) (a b : Int) (c : Bool) (w : World) :
    Calls Try.prog 23 #[.int .u64 a, .int .u64 b, .bool c, .int .i64 size] w fun e w' => e = .returned wrongV ∧ Below w.heap.size w w' := by
  go_enter Try.func23, Try.ntmps23
  go_wp2_with (first | (go_at_call 49; (with_reducible refine (Bits_no _ hS _).mono ?_); rintro e w' ⟨rfl, rfl⟩))
  refine bodyPost_ret (v := wrongV) (by simp [results, Try.results23, go_sem, *]) rfl ?_
  exact ⟨rfl, by (repeat' (first | (with_reducible exact Below.refl _ _) | (with_reducible assumption) | (with_reducible refine Below.alloc ?_ ?_ _) | (with_reducible refine Below.drew ?_) | (with_reducible refine below_drewN ?_ _) | (with_reducible refine Below.setCell ?_ ?_ _) | (first | (with_reducible exact Nat.le_refl _) | (with_reducible assumption) | omega | (simp; omega) | (simp; done))))⟩
theorem Sub_no (size : Int) (hS : NoSZ size) (a b : Int) (c : Bool) (w : World) :
    Calls Try.prog 24 #[.int .u64 a, .int .u64 b, .bool c, .int .i64 size] w fun e w' => e = .returned wrongV ∧ Below w.heap.size w w' := by
  go_enter Try.func24, Try.ntmps24
  go_wp2_with (first | (go_at_call 49; (with_reducible refine (Bits_no _ hS _).mono ?_); rintro e w' ⟨rfl, rfl⟩))
  refine bodyPost_ret (v := wrongV) (by simp [results, Try.results24, go_sem, *]) rfl ?_
  exact ⟨rfl, by (repeat' (first | (with_reducible exact Below.refl _ _) | (with_reducible assumption) | (with_reducible refine Below.alloc ?_ ?_ _) | (with_reducible refine Below.drew ?_) | (with_reducible refine below_drewN ?_ _) | (with_reducible refine Below.setCell ?_ ?_ _) | (first | (with_reducible exact Nat.le_refl _) | (with_reducible assumption) | omega | (simp; omega) | (simp; done))))⟩

set_option maxHeartbeats 1000000 in
theorem Logic_ok (op size : Int) (n : Nat) (hS : SZ size n) (a b v : Nat) (ha : a < M64) (hb : b < M64) (hv : logV op a b = some v) (w : World) :
    Calls Try.prog 36 #[.int .i64 op, .int .u64 (a : Int), .int .u64 (b : Int), .int .i64 size] w fun e w' =>
      e = .returned (.tuple #[.int .u64 (v % 2 ^ n : Nat), flagsV n (v % 2 ^ n) false false, .int .i64 0]) ∧ Below w.heap.size w w' := by
  have hn := hS.cases
  have hn64 : n ≤ 64 := by omega
  have hn0 : ((n : Int) == 0) = false := by simp; omega
  have hv64 : v < M64 := by
    unfold logV at hv
    split at hv
    · cases hv; exact Nat.and_lt_two_pow (n := 64) a hb
    split at hv
    · cases hv; exact Nat.or_lt_two_pow (n := 64) ha hb
    split at hv
    · cases hv; exact Nat.xor_lt_two_pow (n := 64) ha hb
    · cases hv
  have hvn : v % 2 ^ n < M64 := Nat.lt_of_le_of_lt (Nat.mod_le _ _) hv64
  have hl := low_calls v hv64 n hn64
  generalize v % 2 ^ n = V at *
  by_cases h1 : op = 7 ∨ op = 11
  · have e1 := u64_and_nat a b ha hb
    have hv2 : a &&& b = v := by unfold logV at hv; rw [if_pos h1] at hv; exact Option.some.inj hv
    rw [hv2] at e1
    clear hv hv2
    rcases h1 with rfl | rfl
    all_goals
      go_enter Try.func36, Try.ntmps36
      go_wp2_with (first | (go_at_call 49; (with_reducible refine (Bits_ok _ n hS _).mono ?_); rintro e w' ⟨rfl, rfl⟩) | (go_at_call 52; (with_reducible refine (hl _).mono ?_); rintro e w' ⟨rfl, rfl⟩) | (go_at_call 51; (with_reducible refine (flags_calls n hn V hvn _).mono ?_); rintro e w' ⟨rfl, hb⟩; obtain ⟨hc, hf, hz⟩ := bcell hb; (try simp at hz); (try have hzz : w.heap.size < w'.heap.size := by omega); (try have hzz1 : w.heap.size + 1 < w'.heap.size := by omega); (try have hzz2 : w.heap.size + 2 < w'.heap.size := by omega); have hB := Below.trans (B := w.heap.size) (a := w) (by (repeat' (first | (with_reducible exact Below.refl _ _) | (with_reducible assumption) | (with_reducible refine Below.alloc ?_ ?_ _) | (with_reducible refine Below.drew ?_) | (with_reducible refine below_drewN ?_ _) | (with_reducible refine Below.setCell ?_ ?_ _) | (first | (with_reducible exact Nat.le_refl _) | (with_reducible assumption) | omega | (simp; omega) | (simp; done))))) (hb.mono (by (first | (with_reducible exact Nat.le_refl _) | (with_reducible assumption) | omega | (simp; omega) | (simp; done))))))
      refine bodyPost_ret (v := .tuple #[.int .u64 (V : Nat), flagsV n V false false, .int .i64 0]) (by simp [results, Try.results36, go_sem, *]) rfl ?_
      exact ⟨rfl, by (repeat' (first | (with_reducible exact Below.refl _ _) | (with_reducible assumption) | (with_reducible refine Below.alloc ?_ ?_ _) | (with_reducible refine Below.drew ?_) | (with_reducible refine below_drewN ?_ _) | (with_reducible refine Below.setCell ?_ ?_ _) | (first | (with_reducible exact Nat.le_refl _) | (with_reducible assumption) | omega | (simp; omega) | (simp; done))))⟩
  by_cases h2 : op = 4
  · have e1 := u64_or_nat a b ha hb
    have hv2 : a ||| b = v := by unfold logV at hv; rw [if_neg h1, if_pos h2] at hv; exact Option.some.inj hv
    rw [hv2] at e1
    clear hv hv2 h1
    subst h2
    go_enter Try.func36, Try.ntmps36
    go_wp2_with (first | (go_at_call 49; (with_reducible refine (Bits_ok _ n hS _).mono ?_); rintro e w' ⟨rfl, rfl⟩) | (go_at_call 52; (with_reducible refine (hl _).mono ?_); rintro e w' ⟨rfl, rfl⟩) | (go_at_call 51; (with_reducible refine (flags_calls n hn V hvn _).mono ?_); rintro e w' ⟨rfl, hb⟩; obtain ⟨hc, hf, hz⟩ := bcell hb; (try simp at hz); (try have hzz : w.heap.size < w'.heap.size := by omega); (try have hzz1 : w.heap.size + 1 < w'.heap.size := by omega); (try have hzz2 : w.heap.size + 2 < w'.heap.size := by omega); have hB := Below.trans (B := w.heap.size) (a := w) (by (repeat' (first | (with_reducible exact Below.refl _ _) | (with_reducible assumption) | (with_reducible refine Below.alloc ?_ ?_ _) | (with_reducible refine Below.drew ?_) | (with_reducible refine below_drewN ?_ _) | (with_reducible refine Below.setCell ?_ ?_ _) | (first | (with_reducible exact Nat.le_refl _) | (with_reducible assumption) | omega | (simp; omega) | (simp; done))))) (hb.mono (by (first | (with_reducible exact Nat.le_refl _) | (with_reducible assumption) | omega | (simp; omega) | (simp; done))))))
    refine bodyPost_ret (v := .tuple #[.int .u64 (V : Nat), flagsV n V false false, .int .i64 0]) (by simp [results, Try.results36, go_sem, *]) rfl ?_
    exact ⟨rfl, by (repeat' (first | (with_reducible exact Below.refl _ _) | (with_reducible assumption) | (with_reducible refine Below.alloc ?_ ?_ _) | (with_reducible refine Below.drew ?_) | (with_reducible refine below_drewN ?_ _) | (with_reducible refine Below.setCell ?_ ?_ _) | (first | (with_reducible exact Nat.le_refl _) | (with_reducible assumption) | omega | (simp; omega) | (simp; done))))⟩
  by_cases h3 : op = 9
  · have e1 := u64_xor_nat a b ha hb
    have hv2 : a ^^^ b = v := by unfold logV at hv; rw [if_neg h1, if_neg h2, if_pos h3] at hv; exact Option.some.inj hv
    rw [hv2] at e1
    clear hv hv2 h1 h2
    subst h3
    go_enter Try.func36, Try.ntmps36
    go_wp2_with (first | (go_at_call 49; (with_reducible refine (Bits_ok _ n hS _).mono ?_); rintro e w' ⟨rfl, rfl⟩) | (go_at_call 52; (with_reducible refine (hl _).mono ?_); rintro e w' ⟨rfl, rfl⟩) | (go_at_call 51; (with_reducible refine (flags_calls n hn V hvn _).mono ?_); rintro e w' ⟨rfl, hb⟩; obtain ⟨hc, hf, hz⟩ := bcell hb; (try simp at hz); (try have hzz : w.heap.size < w'.heap.size := by omega); (try have hzz1 : w.heap.size + 1 < w'.heap.size := by omega); (try have hzz2 : w.heap.size + 2 < w'.heap.size := by omega); have hB := Below.trans (B := w.heap.size) (a := w) (by (repeat' (first | (with_reducible exact Below.refl _ _) | (with_reducible assumption) | (with_reducible refine Below.alloc ?_ ?_ _) | (with_reducible refine Below.drew ?_) | (with_reducible refine below_drewN ?_ _) | (with_reducible refine Below.setCell ?_ ?_ _) | (first | (with_reducible exact Nat.le_refl _) | (with_reducible assumption) | omega | (simp; omega) | (simp; done))))) (hb.mono (by (first | (with_reducible exact Nat.le_refl _) | (with_reducible assumption) | omega | (simp; omega) | (simp; done))))))
    refine bodyPost_ret (v := .tuple #[.int .u64 (V : Nat), flagsV n V false false, .int .i64 0]) (by simp [results, Try.results36, go_sem, *]) rfl ?_
    exact ⟨rfl, by (repeat' (first | (with_reducible exact Below.refl _ _) | (with_reducible assumption) | (with_reducible refine Below.alloc ?_ ?_ _) | (with_reducible refine Below.drew ?_) | (with_reducible refine below_drewN ?_ _) | (with_reducible refine Below.setCell ?_ ?_ _) | (first | (with_reducible exact Nat.le_refl _) | (with_reducible assumption) | omega | (simp; omega) | (simp; done))))⟩
  · exact absurd hv (by unfold logV; rw [if_neg h1, if_neg h2, if_neg h3]; simp)

theorem Logic_no_size (op size : Int) (hS : NoSZ size) (a b : Int) (w : World) :
    Calls Try.prog 36 #[.int .i64 op, .int .u64 a, .int .u64 b, .int .i64 size] w fun e w' => e = .returned wrongV ∧ Below w.heap.size w w' := by
  go_enter Try.func36, Try.ntmps36
  go_wp2_with (first | (go_at_call 49; (with_reducible refine (Bits_no _ hS _).mono ?_); rintro e w' ⟨rfl, rfl⟩))
  refine bodyPost_ret (v := wrongV) (by simp [results, Try.results36, go_sem, *]) rfl ?_
  exact ⟨rfl, by (repeat' (first | (with_reducible exact Below.refl _ _) | (with_reducible assumption) | (with_reducible refine Below.alloc ?_ ?_ _) | (with_reducible refine Below.drew ?_) | (with_reducible refine below_drewN ?_ _) | (with_reducible refine Below.setCell ?_ ?_ _) | (first | (with_reducible exact Nat.le_refl _) | (with_reducible assumption) | omega | (simp; omega) | (simp; done))))⟩

theorem Logic_no_op (op size : Int) (n : Nat) (hS : SZ size n) (a b : Nat) (hv : logV op a b = none) (w : World) :
    Calls Try.prog 36 #[.int .i64 op, .int .u64 (a : Int), .int .u64 (b : Int), .int .i64 size] w fun e w' => e = .returned wrongV ∧ Below w.heap.size w w' := by
  have h1 : ¬ (op = 7 ∨ op = 11) := by intro h1; unfold logV at hv; rw [if_pos h1] at hv; cases hv
  have h2 : ¬ op = 4 := by intro h2; unfold logV at hv; rw [if_neg h1, if_pos h2] at hv; cases hv
  have h3 : ¬ op = 9 := by intro h3; unfold logV at hv; rw [if_neg h1, if_neg h2, if_pos h3] at hv; cases hv
  have hn0 : ((n : Int) == 0) = false := by have := hS.cases; simp; omega
  have k1 : (op == 7) = false := by simp; omega
  have k2 : (op == 11) = false := by simp; omega
  have k3 : (op == 4) = false := by simp; omega
  have k4 : (op == 9) = false := by simp; omega
  clear h1 h2 h3 hv
  go_enter Try.func36, Try.ntmps36
  go_wp2_with (first | (go_at_call 49; (with_reducible refine (Bits_ok _ n hS _).mono ?_); rintro e w' ⟨rfl, rfl⟩))
  refine bodyPost_ret (v := wrongV) (by simp [results, Try.results36, go_sem, *]) rfl ?_
  exact ⟨rfl, by (repeat' (first | (with_reducible exact Below.refl _ _) | (with_reducible assumption) | (with_reducible refine Below.alloc ?_ ?_ _) | (with_reducible refine Below.drew ?_) | (with_reducible refine below_drewN ?_ _) | (with_reducible refine Below.setCell ?_ ?_ _) | (first | (with_reducible exact Nat.le_refl _) | (with_reducible assumption) | omega | (simp; omega) | (simp; done))))⟩
end Go.Proofs.Ytknopookopfoeaa.AluR
