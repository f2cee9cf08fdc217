/- What the reference's shift comes to: Shr, Sar; and Shift. -/
import Derived.Test.YtknopookopfoeaaAluRE
import Derived.Deep.RegionWith
namespace Go.Proofs.Ytknopookopfoeaa.AluR
open Go.RowKit Go.Proofs.Ytknopookopfoeaa.AluMath

set_option maxHeartbeats 4000000 in
theorem shr_calls (n : Nat) (hn : n = 8 ∨ n = 32 ∨ n = 64) (a : Nat) (ha : a < M64) (k : Nat) (hk0 : k ≠ 0) (hk : k < 64) (C P Z S O : Bool) (w : World) :
    Calls Try.prog 54 #[.int .i64 18, .int .u64 (a : Int), .int .i64 (k : Int), fl C P Z S O, .int .i64 (n : Int)] w fun e w' =>
      e = .returned (.tuple #[.int .u64 (shrR (a % 2 ^ n) k : Nat), flagsV n (shrR (a % 2 ^ n) k) (shrC (a % 2 ^ n) k) (shrO n (a % 2 ^ n) k), .int .i64 0]) ∧ Below w.heap.size w w' := by
  have hn1 : (1 : Int) ≤ n := by omega
  have hn2 : ((n : Int) - 1) = ((n - 1 : Nat) : Int) := by omega
  have hn64 : n ≤ 64 := by omega
  have hp := pow_le_M64 hn64
  have hA : a % 2 ^ n < 2 ^ n := Nat.mod_lt _ (Nat.two_pow_pos n)
  have l0 := low_calls a ha n hn64
  have hk2 : ((k : Int) == 0) = false := by simp; omega
  have hr : ∀ i, shrR (a % 2 ^ n) i < M64 := fun i => Nat.lt_of_le_of_lt (Nat.div_le_self _ _) (Nat.lt_of_lt_of_le hA hp)
  have fc := flags_calls n hn (shrR (a % 2 ^ n) k) (hr k)
  have b0 : ∀ x, x < M64 → ∀ w : World, Calls Try.prog 48 #[.int .u64 (x : Int), .int .i64 ((n : Int) - 1)] w fun e w' => e = .returned (.int .i64 ((x / 2 ^ (n - 1) % 2 : Nat) : Int)) ∧ w = w' := by
    intro x hx; rw [hn2]; exact bit_calls x hx (n - 1) (by omega)
  have bA := b0 a ha
  have htop : (((a / 2 ^ (n - 1) % 2 : Nat) : Int) == 1) = topB n (a % 2 ^ n) := by
    unfold topB
    have e : a % 2 ^ n / 2 ^ (n - 1) % 2 = a / 2 ^ (n - 1) % 2 := by
      obtain ⟨m, rfl⟩ : ∃ m, n = m + 1 := ⟨n - 1, by omega⟩
      rw [Nat.add_sub_cancel, Nat.pow_succ, Nat.mod_mul_right_div_self, Nat.mod_mod]
    rw [e]
    have h2 : a / 2 ^ (n - 1) % 2 = 0 ∨ a / 2 ^ (n - 1) % 2 = 1 := by omega
    rcases h2 with h | h <;> rw [h] <;> rfl
  have Hb := hid b0
  have Hr := hid hr
  clear b0 hn2 hp hr
  generalize a / 2 ^ (n - 1) % 2 = ta at *
  generalize hAA : a % 2 ^ n = A at *
  obtain ⟨kb, hk1⟩ : ∃ kb, ((k : Int) == 1) = kb := ⟨_, rfl⟩
  unfold shrO
  rw [hk1]
  generalize hcc : shrC A k = c
  generalize hR0 : shrR A k = R0 at fc ⊢
  have Hc := hid hcc
  have HR0 := hid hR0
  clear hcc hR0 hAA hA ha
  go_enter Try.func54, Try.ntmps54
  go_wp2_with (go_at_call 52; (with_reducible refine (l0 _).mono ?_); rintro e w' ⟨rfl, rfl⟩)
  go_loop [13, 14, 15] (fun r o i => ∃ j : Nat, j ≤ k ∧ i = .int .i64 (j : Int) ∧ ∃ R q : Nat, r = .int .u64 (R : Int) ∧ o = .int .i64 (q : Int) ∧ Hid (R = shrR A j ∧ (j = 0 ∨ ((q : Int) == 1) = shrC A j))) (fun _ _ i => (k - intOf i).toNat)
  case atStart => exact ⟨0, Nat.zero_le _, rfl, A, 0, rfl, rfl, hid ⟨by simp [shrR], .inl rfl⟩⟩
  case round =>
    obtain ⟨j, hj, rfl, R, q, rfl, rfl, hR⟩ := hrel
    by_cases hlt : j < k
    · have hR64 : R < M64 := by rw [hR.out.1]; exact Hr.out j
      have b1 := Hb.out R hR64
      have b2 := bit_calls R hR64 0 (by decide)
      obtain ⟨tb, htb⟩ : ∃ tb, tb = R / 2 ^ (n - 1) % 2 := ⟨_, rfl⟩
      rw [← htb] at b1
      obtain ⟨q', hq'⟩ : ∃ q', q' = R / 2 ^ 0 % 2 := ⟨_, rfl⟩
      rw [← hq', show ((0 : Nat) : Int) = 0 from rfl] at b2
      obtain ⟨R', hR'⟩ : ∃ R', R' = R / 2 := ⟨_, rfl⟩
      have hd : (R : Int) / 2 = (R' : Int) := by rw [hR']; rfl
      have HQ := hid hq'
      have HD := hid hR'
      clear hq' hR' htb
      go_wp2_with (first | (go_at_call 48; (with_reducible refine (b1 _).mono ?_); rintro e w' ⟨rfl, rfl⟩) | (go_at_call 48; (with_reducible refine (b2 _).mono ?_); rintro e w' ⟨rfl, rfl⟩))
      go_round
      case rel => exact ⟨j + 1, by omega, by go_num, R', q', rfl, rfl, hid ⟨by rw [HD.out, hR.out.1]; unfold shrR; rw [Nat.div_div_eq_div_mul, Nat.pow_succ], .inr (by rw [HQ.out, hR.out.1]; unfold shrR shrC bitB; rw [Nat.pow_zero, Nat.div_one]; rfl)⟩⟩
      case measure => simp [intOf]; omega
    · obtain rfl : j = k := by omega
      have hq : ((q : Int) == 1) = c := by rw [← Hc.out]; exact hR.out.2.resolve_left hk0
      obtain rfl : R = R0 := by rw [hR.out.1, HR0.out]
      clear hlt
      cases kb
      · go_wp2_with (first | (go_at_call 48; (with_reducible refine (bA _).mono ?_); rintro e w' ⟨rfl, rfl⟩) | (go_at_call 51; (with_reducible refine (fc _).mono ?_); rintro e w' ⟨rfl, hb⟩; obtain ⟨hc, hf, hz⟩ := bcell hb; (try simp at hz); (try have hzz : w.heap.size < w'.heap.size := by omega); (try have hzz1 : w.heap.size + 1 < w'.heap.size := by omega); (try have hzz2 : w.heap.size + 2 < w'.heap.size := by omega); have hB := Below.trans (B := w.heap.size) (a := w) (by (repeat' (first | (with_reducible exact Below.refl _ _) | (with_reducible assumption) | (with_reducible refine Below.alloc ?_ ?_ _) | (with_reducible refine Below.drew ?_) | (with_reducible refine below_drewN ?_ _) | (with_reducible refine Below.setCell ?_ ?_ _) | (first | (with_reducible exact Nat.le_refl _) | (with_reducible assumption) | omega | (simp; omega) | (simp; done))))) (hb.mono (by (first | (with_reducible exact Nat.le_refl _) | (with_reducible assumption) | omega | (simp; omega) | (simp; done))))))
        go_region
        go_wp2
        refine bodyPost_ret (v := .tuple #[.int .u64 (R : Nat), flagsV n R c false, .int .i64 0]) (by simp [results, Try.results54, go_sem, *]) rfl ?_
        exact ⟨rfl, by (repeat' (first | (with_reducible exact Below.refl _ _) | (with_reducible assumption) | (with_reducible refine Below.alloc ?_ ?_ _) | (with_reducible refine Below.drew ?_) | (with_reducible refine below_drewN ?_ _) | (with_reducible refine Below.setCell ?_ ?_ _) | (first | (with_reducible exact Nat.le_refl _) | (with_reducible assumption) | omega | (simp; omega) | (simp; done))))⟩
      · go_wp2_with (first | (go_at_call 48; (with_reducible refine (bA _).mono ?_); rintro e w' ⟨rfl, rfl⟩) | (go_at_call 51; (with_reducible refine (fc _).mono ?_); rintro e w' ⟨rfl, hb⟩; obtain ⟨hc, hf, hz⟩ := bcell hb; (try simp at hz); (try have hzz : w.heap.size < w'.heap.size := by omega); (try have hzz1 : w.heap.size + 1 < w'.heap.size := by omega); (try have hzz2 : w.heap.size + 2 < w'.heap.size := by omega); have hB := Below.trans (B := w.heap.size) (a := w) (by (repeat' (first | (with_reducible exact Below.refl _ _) | (with_reducible assumption) | (with_reducible refine Below.alloc ?_ ?_ _) | (with_reducible refine Below.drew ?_) | (with_reducible refine below_drewN ?_ _) | (with_reducible refine Below.setCell ?_ ?_ _) | (first | (with_reducible exact Nat.le_refl _) | (with_reducible assumption) | omega | (simp; omega) | (simp; done))))) (hb.mono (by (first | (with_reducible exact Nat.le_refl _) | (with_reducible assumption) | omega | (simp; omega) | (simp; done))))))
        go_region
        go_wp2
        refine bodyPost_ret (v := .tuple #[.int .u64 (R : Nat), flagsV n R c (topB n A), .int .i64 0]) (by simp [results, Try.results54, go_sem, *]) rfl ?_
        exact ⟨rfl, by (repeat' (first | (with_reducible exact Below.refl _ _) | (with_reducible assumption) | (with_reducible refine Below.alloc ?_ ?_ _) | (with_reducible refine Below.drew ?_) | (with_reducible refine below_drewN ?_ _) | (with_reducible refine Below.setCell ?_ ?_ _) | (first | (with_reducible exact Nat.le_refl _) | (with_reducible assumption) | omega | (simp; omega) | (simp; done))))⟩

theorem sI_b (n x : Nat) (hn : n = 8 ∨ n = 32 ∨ n = 64) (hx : x < 2 ^ n) : -(2 ^ (n - 1) : Nat) ≤ sI n x ∧ sI n x < (2 ^ (n - 1) : Nat) := by
  unfold sI topB
  rcases hn with rfl | rfl | rfl
  all_goals
    simp only [beq_iff_eq]
    split <;> simp at * <;> omega

theorem sar_step (n A i : Nat) (hn : n = 8 ∨ n = 32 ∨ n = 64) (hA : A < 2 ^ n) :
    sarR n A i < 2 ^ n ∧ sarR n A i / 2 + sarR n A i / 2 ^ (n - 1) % 2 * 2 ^ (n - 1) = sarR n A (i + 1) ∧ (((sarR n A i % 2 : Nat) : Int) == 1) = sarC n A (i + 1) := by
  unfold sarR sarC
  have h := sI_b n A hn hA
  have hb : -(2 ^ (n - 1) : Nat) ≤ sI n A / 2 ^ i ∧ sI n A / 2 ^ i < (2 ^ (n - 1) : Nat) := by
    have hp : (0 : Int) < 2 ^ i := Int.pow_pos (by decide)
    have h1 : (1 : Int) ≤ 2 ^ i := hp
    have hm : ((2 ^ (n - 1) : Nat) : Int) ≤ ((2 ^ (n - 1) : Nat) : Int) * 2 ^ i := by
      have h2 := Int.mul_le_mul_of_nonneg_left h1 (show (0 : Int) ≤ ((2 ^ (n - 1) : Nat) : Int) by omega)
      rw [Int.mul_one] at h2
      exact h2
    constructor
    · apply Int.le_ediv_of_mul_le hp
      rw [Int.neg_mul]
      omega
    · apply Int.ediv_lt_of_lt_mul hp
      omega
  have e : sI n A / 2 ^ (i + 1) = sI n A / 2 ^ i / 2 := by
    rw [Int.pow_succ, Int.ediv_ediv_of_nonneg (Int.le_of_lt (Int.pow_pos (by decide)))]
  rw [e, Nat.add_sub_cancel]
  generalize sI n A / 2 ^ i = s at *
  have k2 : ((((s % 2 ^ n).toNat % 2 : Nat) : Int) == 1) = (s % 2 == 1) := by
    rw [Bool.eq_iff_iff, beq_iff_eq, beq_iff_eq]
    rcases hn with rfl | rfl | rfl <;> simp <;> omega
  refine ⟨?_, ?_, k2⟩
  · rcases hn with rfl | rfl | rfl <;> simp <;> omega
  · rcases hn with rfl | rfl | rfl <;> simp at * <;> omega

set_option maxHeartbeats 4000000 in
theorem sar_calls (n : Nat) (hn : n = 8 ∨ n = 32 ∨ n = 64) (a : Nat) (ha : a < M64) (k : Nat) (hk0 : k ≠ 0) (hk : k < 64) (C P Z S O : Bool) (w : World) :
    Calls Try.prog 54 #[.int .i64 19, .int .u64 (a : Int), .int .i64 (k : Int), fl C P Z S O, .int .i64 (n : Int)] w fun e w' =>
      e = .returned (.tuple #[.int .u64 (sarR n (a % 2 ^ n) k : Nat), flagsV n (sarR n (a % 2 ^ n) k) (sarC n (a % 2 ^ n) k) false, .int .i64 0]) ∧ Below w.heap.size w w' := by
  have hn1 : (1 : Int) ≤ n := by omega
  have hnm : (n : Int) - 1 ≤ 63 := by omega
  have hn2 : ((n : Int) - 1) = ((n - 1 : Nat) : Int) := by omega
  have hn64 : n ≤ 64 := by omega
  have hp := pow_le_M64 hn64
  have hA : a % 2 ^ n < 2 ^ n := Nat.mod_lt _ (Nat.two_pow_pos n)
  have l0 := low_calls a ha n hn64
  have hk2 : ((k : Int) == 0) = false := by simp; omega
  have hst := fun i => sar_step n (a % 2 ^ n) i hn hA
  have hr : ∀ i, sarR n (a % 2 ^ n) i < M64 := fun i => Nat.lt_of_lt_of_le (hst i).1 hp
  have fc := flags_calls n hn (sarR n (a % 2 ^ n) k) (hr k)
  have b0 : ∀ x, x < M64 → ∀ w : World, Calls Try.prog 48 #[.int .u64 (x : Int), .int .i64 ((n : Int) - 1)] w fun e w' => e = .returned (.int .i64 ((x / 2 ^ (n - 1) % 2 : Nat) : Int)) ∧ w = w' := by
    intro x hx; rw [hn2]; exact bit_calls x hx (n - 1) (by omega)
  have h0 : a % 2 ^ n = sarR n (a % 2 ^ n) 0 := by
    unfold sarR sI
    generalize a % 2 ^ n = A at *
    rcases hn with rfl | rfl | rfl <;> simp <;> split <;> omega
  have hor : ∀ R t : Nat, R < 2 ^ n → t < 2 → bits .or .u64 ((R / 2 : Nat) : Int) (IntKind.u64.wrap ((t : Int) * 2 ^ (n - 1))) = ((R / 2 + t * 2 ^ (n - 1) : Nat) : Int) := by
    intro R t hR ht
    have e2 : 2 ^ n = 2 ^ (n - 1) * 2 := by rw [← Nat.pow_succ]; congr 1; omega
    exact or_bit (R / 2) t (n - 1) (by omega) ht (by omega)
  have Hb := hid b0
  have Hr := hid hr
  have Hs := hid hst
  have H0 := hid h0
  have Ho := hid hor
  clear b0 hn2 hp hr hst h0 hA ha hor
  generalize a % 2 ^ n = A at *
  generalize hcc : sarC n A k = c
  generalize hR0 : sarR n A k = R0 at fc ⊢
  have Hc := hid hcc
  have HR0 := hid hR0
  clear hcc hR0
  go_enter Try.func54, Try.ntmps54
  go_wp2_with (go_at_call 52; (with_reducible refine (l0 _).mono ?_); rintro e w' ⟨rfl, rfl⟩)
  go_loop [13, 14, 15] (fun r o i => ∃ j : Nat, j ≤ k ∧ i = .int .i64 (j : Int) ∧ ∃ R q : Nat, r = .int .u64 (R : Int) ∧ o = .int .i64 (q : Int) ∧ Hid (R = sarR n A j ∧ (j = 0 ∨ ((q : Int) == 1) = sarC n A j))) (fun _ _ i => (k - intOf i).toNat)
  case atStart => exact ⟨0, Nat.zero_le _, rfl, A, 0, rfl, rfl, hid ⟨H0.out, .inl rfl⟩⟩
  case round =>
    obtain ⟨j, hj, rfl, R, q, rfl, rfl, hR⟩ := hrel
    by_cases hlt : j < k
    · have hR64 : R < M64 := by rw [hR.out.1]; exact Hr.out j
      have b1 := Hb.out R hR64
      have b2 := bit_calls R hR64 0 (by decide)
      obtain ⟨tb, htb⟩ : ∃ tb, tb = R / 2 ^ (n - 1) % 2 := ⟨_, rfl⟩
      rw [← htb] at b1
      have htb2 : tb < 2 := by rw [htb]; exact Nat.mod_lt _ (by decide)
      obtain ⟨q', hq'⟩ : ∃ q', q' = R / 2 ^ 0 % 2 := ⟨_, rfl⟩
      rw [← hq', show ((0 : Nat) : Int) = 0 from rfl] at b2
      obtain ⟨R', hR'⟩ : ∃ R', R' = R / 2 := ⟨_, rfl⟩
      have hd : (R : Int) / 2 = (R' : Int) := by rw [hR']; rfl
      have ho2 := Ho.out R tb (by rw [hR.out.1]; exact (Hs.out j).1) htb2
      rw [← hR'] at ho2
      have HQ := hid hq'
      have HD := hid hR'
      have HT := hid htb
      clear hq' hR' htb
      go_wp2_with (first | (go_at_call 48; (with_reducible refine (b1 _).mono ?_); rintro e w' ⟨rfl, rfl⟩) | (go_at_call 48; (with_reducible refine (b2 _).mono ?_); rintro e w' ⟨rfl, rfl⟩))
      go_round
      case rel =>
        refine ⟨j + 1, by omega, by go_num, R' + tb * 2 ^ (n - 1), q', ?_, rfl, hid ⟨by rw [HD.out, HT.out, hR.out.1]; exact (Hs.out j).2.1, .inr (by rw [HQ.out, hR.out.1, Nat.pow_zero, Nat.div_one]; exact (Hs.out j).2.2)⟩⟩
        simp
      case measure => simp [intOf]; omega
    · obtain rfl : j = k := by omega
      have hq : ((q : Int) == 1) = c := by rw [← Hc.out]; exact hR.out.2.resolve_left hk0
      obtain rfl : R = R0 := by rw [hR.out.1, HR0.out]
      clear hlt
      obtain ⟨kb, hk1⟩ : ∃ kb, ((j : Int) == 1) = kb := ⟨_, rfl⟩
      cases kb
      · go_wp2_with (first | (go_at_call 51; (with_reducible refine (fc _).mono ?_); rintro e w' ⟨rfl, hb⟩; obtain ⟨hc, hf, hz⟩ := bcell hb; (try simp at hz); (try have hzz : w.heap.size < w'.heap.size := by omega); (try have hzz1 : w.heap.size + 1 < w'.heap.size := by omega); (try have hzz2 : w.heap.size + 2 < w'.heap.size := by omega); have hB := Below.trans (B := w.heap.size) (a := w) (by (repeat' (first | (with_reducible exact Below.refl _ _) | (with_reducible assumption) | (with_reducible refine Below.alloc ?_ ?_ _) | (with_reducible refine Below.drew ?_) | (with_reducible refine below_drewN ?_ _) | (with_reducible refine Below.setCell ?_ ?_ _) | (first | (with_reducible exact Nat.le_refl _) | (with_reducible assumption) | omega | (simp; omega) | (simp; done))))) (hb.mono (by (first | (with_reducible exact Nat.le_refl _) | (with_reducible assumption) | omega | (simp; omega) | (simp; done))))))
        go_region
        go_wp2
        refine bodyPost_ret (v := .tuple #[.int .u64 (R : Nat), flagsV n R c false, .int .i64 0]) (by simp [results, Try.results54, go_sem, *]) rfl ?_
        exact ⟨rfl, by (repeat' (first | (with_reducible exact Below.refl _ _) | (with_reducible assumption) | (with_reducible refine Below.alloc ?_ ?_ _) | (with_reducible refine Below.drew ?_) | (with_reducible refine below_drewN ?_ _) | (with_reducible refine Below.setCell ?_ ?_ _) | (first | (with_reducible exact Nat.le_refl _) | (with_reducible assumption) | omega | (simp; omega) | (simp; done))))⟩
      · go_wp2_with (first | (go_at_call 51; (with_reducible refine (fc _).mono ?_); rintro e w' ⟨rfl, hb⟩; obtain ⟨hc, hf, hz⟩ := bcell hb; (try simp at hz); (try have hzz : w.heap.size < w'.heap.size := by omega); (try have hzz1 : w.heap.size + 1 < w'.heap.size := by omega); (try have hzz2 : w.heap.size + 2 < w'.heap.size := by omega); have hB := Below.trans (B := w.heap.size) (a := w) (by (repeat' (first | (with_reducible exact Below.refl _ _) | (with_reducible assumption) | (with_reducible refine Below.alloc ?_ ?_ _) | (with_reducible refine Below.drew ?_) | (with_reducible refine below_drewN ?_ _) | (with_reducible refine Below.setCell ?_ ?_ _) | (first | (with_reducible exact Nat.le_refl _) | (with_reducible assumption) | omega | (simp; omega) | (simp; done))))) (hb.mono (by (first | (with_reducible exact Nat.le_refl _) | (with_reducible assumption) | omega | (simp; omega) | (simp; done))))))
        go_region
        go_wp2
        refine bodyPost_ret (v := .tuple #[.int .u64 (R : Nat), flagsV n R c false, .int .i64 0]) (by simp [results, Try.results54, go_sem, *]) rfl ?_
        exact ⟨rfl, by (repeat' (first | (with_reducible exact Below.refl _ _) | (with_reducible assumption) | (with_reducible refine Below.alloc ?_ ?_ _) | (with_reducible refine Below.drew ?_) | (with_reducible refine below_drewN ?_ _) | (with_reducible refine Below.setCell ?_ ?_ _) | (first | (with_reducible exact Nat.le_refl _) | (with_reducible assumption) | omega | (simp; omega) | (simp; done))))⟩

theorem Shift_no_size (op size : Int) (hS : NoSZ size) (a c : Int) (C P Z S O : Bool) (w : World) :
    Calls Try.prog 31 #[.int .i64 op, .int .u64 a, .int .i64 c, fl C P Z S O, .int .i64 size] w fun e w' => e = .returned wrongV ∧ Below w.heap.size w w' := by
  go_enter Try.func31, Try.ntmps31
  go_wp2_with (first | (go_at_call 49; (with_reducible refine (Bits_no _ hS _).mono ?_); rintro e w' ⟨rfl, rfl⟩))
  refine bodyPost_ret (v := wrongV) (by simp [results, Try.results31, go_sem, *]) rfl ?_
  exact ⟨rfl, by (repeat' (first | (with_reducible exact Below.refl _ _) | (with_reducible assumption) | (with_reducible refine Below.alloc ?_ ?_ _) | (with_reducible refine Below.drew ?_) | (with_reducible refine below_drewN ?_ _) | (with_reducible refine Below.setCell ?_ ?_ _) | (first | (with_reducible exact Nat.le_refl _) | (with_reducible assumption) | omega | (simp; omega) | (simp; done))))⟩

theorem Shift_no_op (op size : Int) (n : Nat) (hS : SZ size n) (hop : ¬ (op = 17 ∨ op = 18 ∨ op = 19)) (a c : Int) (C P Z S O : Bool) (w : World) :
    Calls Try.prog 31 #[.int .i64 op, .int .u64 a, .int .i64 c, fl C P Z S O, .int .i64 size] w fun e w' => e = .returned wrongV ∧ Below w.heap.size w w' := by
  have hn0 : ((n : Int) == 0) = false := by have := hS.cases; simp; omega
  have k1 : (op == 17) = false := by simp; omega
  have k2 : (op == 18) = false := by simp; omega
  have k3 : (op == 19) = false := by simp; omega
  have l1 : (op != 17) = true := by simp; omega
  have l2 : (op != 18) = true := by simp; omega
  have l3 : (op != 19) = true := by simp; omega
  clear hop
  go_enter Try.func31, Try.ntmps31
  go_wp2_with (first | (go_at_call 49; (with_reducible refine (Bits_ok _ n hS _).mono ?_); rintro e w' ⟨rfl, rfl⟩))
  refine bodyPost_ret (v := wrongV) (by simp [results, Try.results31, go_sem, *]) rfl ?_
  exact ⟨rfl, by (repeat' (first | (with_reducible exact Below.refl _ _) | (with_reducible assumption) | (with_reducible refine Below.alloc ?_ ?_ _) | (with_reducible refine Below.drew ?_) | (with_reducible refine below_drewN ?_ _) | (with_reducible refine Below.setCell ?_ ?_ _) | (first | (with_reducible exact Nat.le_refl _) | (with_reducible assumption) | omega | (simp; omega) | (simp; done))))⟩

theorem Shift_no_count (op size : Int) (n : Nat) (hS : SZ size n) (hop : op = 17 ∨ op = 18 ∨ op = 19) (a c : Int) (hc : c < 0 ∨ 255 < c) (C P Z S O : Bool) (w : World) :
    Calls Try.prog 31 #[.int .i64 op, .int .u64 a, .int .i64 c, fl C P Z S O, .int .i64 size] w fun e w' => e = .returned wrongV ∧ Below w.heap.size w w' := by
  have hn0 : ((n : Int) == 0) = false := by have := hS.cases; simp; omega
  rcases hc with hc | hc
  · rcases hop with rfl | rfl | rfl
    all_goals
      go_enter Try.func31, Try.ntmps31
      go_wp2_with (first | (go_at_call 49; (with_reducible refine (Bits_ok _ n hS _).mono ?_); rintro e w' ⟨rfl, rfl⟩))
      refine bodyPost_ret (v := wrongV) (by simp [results, Try.results31, go_sem, *]) rfl ?_
      exact ⟨rfl, by (repeat' (first | (with_reducible exact Below.refl _ _) | (with_reducible assumption) | (with_reducible refine Below.alloc ?_ ?_ _) | (with_reducible refine Below.drew ?_) | (with_reducible refine below_drewN ?_ _) | (with_reducible refine Below.setCell ?_ ?_ _) | (first | (with_reducible exact Nat.le_refl _) | (with_reducible assumption) | omega | (simp; omega) | (simp; done))))⟩
  · have hc' : 0 ≤ c := by omega
    rcases hop with rfl | rfl | rfl
    all_goals
      go_enter Try.func31, Try.ntmps31
      go_wp2_with (first | (go_at_call 49; (with_reducible refine (Bits_ok _ n hS _).mono ?_); rintro e w' ⟨rfl, rfl⟩))
      refine bodyPost_ret (v := wrongV) (by simp [results, Try.results31, go_sem, *]) rfl ?_
      exact ⟨rfl, by (repeat' (first | (with_reducible exact Below.refl _ _) | (with_reducible assumption) | (with_reducible refine Below.alloc ?_ ?_ _) | (with_reducible refine Below.drew ?_) | (with_reducible refine below_drewN ?_ _) | (with_reducible refine Below.setCell ?_ ?_ _) | (first | (with_reducible exact Nat.le_refl _) | (with_reducible assumption) | omega | (simp; omega) | (simp; done))))⟩

/-- Nothing is shifted. -/
theorem sh0_calls (op : Int) (n : Nat) (hn : n ≤ 64) (a : Nat) (ha : a < M64) (C P Z S O : Bool) (w : World) :
    Calls Try.prog 54 #[.int .i64 op, .int .u64 (a : Int), .int .i64 0, fl C P Z S O, .int .i64 (n : Int)] w fun e w' =>
      e = .returned (.tuple #[.int .u64 (a % 2 ^ n : Nat), fl C P Z S O, .int .i64 0]) ∧ Below w.heap.size w w' := by
  have l0 := low_calls a ha n hn
  generalize a % 2 ^ n = A at *
  go_enter Try.func54, Try.ntmps54
  go_wp2_with (go_at_call 52; (with_reducible refine (l0 _).mono ?_); rintro e w' ⟨rfl, rfl⟩)
  go_region
  go_wp2
  refine bodyPost_ret (v := .tuple #[.int .u64 (A : Nat), fl C P Z S O, .int .i64 0]) (by simp [results, Try.results54, go_sem, *]) rfl ?_
  exact ⟨rfl, by (repeat' (first | (with_reducible exact Below.refl _ _) | (with_reducible assumption) | (with_reducible refine Below.alloc ?_ ?_ _) | (with_reducible refine Below.drew ?_) | (with_reducible refine below_drewN ?_ _) | (with_reducible refine Below.setCell ?_ ?_ _) | (first | (with_reducible exact Nat.le_refl _) | (with_reducible assumption) | omega | (simp; omega) | (simp; done))))⟩

set_option maxHeartbeats 1000000 in
/- Shift by what shift comes to. -/
theorem Shift_by (op size : Int) (n : Nat) (hS : SZ size n) (hop : op = 17 ∨ op = 18 ∨ op = 19) (a : Nat) (c : Nat) (hc : c < 256) (C P Z S O : Bool) (v : Nat) (c' p' z' s' o' : Bool) (w : World)
    (h : ∀ w : World, Calls Try.prog 54 #[.int .i64 op, .int .u64 (a : Int), .int .i64 (shK n c : Int), fl C P Z S O, .int .i64 (n : Int)] w fun e w' => e = .returned (.tuple #[.int .u64 (v : Int), fl c' p' z' s' o', .int .i64 0]) ∧ Below w.heap.size w w') :
    Calls Try.prog 31 #[.int .i64 op, .int .u64 (a : Int), .int .i64 (c : Int), fl C P Z S O, .int .i64 size] w fun e w' => e = .returned (.tuple #[.int .u64 (v : Int), fl c' p' z' s' o', .int .i64 0]) ∧ Below w.heap.size w w' := by
  have hn0 : ((n : Int) == 0) = false := by have := hS.cases; simp; omega
  have c0 : (0 : Int) ≤ c := by omega
  have c1 : (c : Int) ≤ 255 := by omega
  have hk : (c : Int).tmod (if (size == 8) then 64 else 32) = (shK n c : Int) := by
    rw [Int.tmod_eq_emod_of_nonneg c0]
    unfold SZ at hS
    rcases hS with ⟨rfl, rfl⟩ | ⟨rfl, rfl⟩ | ⟨rfl, rfl⟩ <;> simp [shK]
  obtain ⟨s8, hs8⟩ : ∃ s8, (size == 8) = s8 := ⟨_, rfl⟩
  rw [hs8] at hk
  generalize shK n c = k at *
  cases s8 <;> rcases hop with rfl | rfl | rfl
  all_goals
    simp only [Bool.false_eq_true, if_false, if_true] at hk
    go_enter Try.func31, Try.ntmps31
    go_wp2_with (first | (go_at_call 49; (with_reducible refine (Bits_ok _ n hS _).mono ?_); rintro e w' ⟨rfl, rfl⟩))
    go_region_with (go_at_call 54; (with_reducible refine (h _).mono ?_); rintro e w' ⟨rfl, hb⟩; obtain ⟨hc, hf, hz⟩ := bcell hb; (try simp at hz); (try have hzz : w.heap.size < w'.heap.size := by omega); (try have hzz1 : w.heap.size + 1 < w'.heap.size := by omega); (try have hzz2 : w.heap.size + 2 < w'.heap.size := by omega); have hB := Below.trans (B := w.heap.size) (a := w) (by (repeat' (first | (with_reducible exact Below.refl _ _) | (with_reducible assumption) | (with_reducible refine Below.alloc ?_ ?_ _) | (with_reducible refine Below.drew ?_) | (with_reducible refine below_drewN ?_ _) | (with_reducible refine Below.setCell ?_ ?_ _) | (first | (with_reducible exact Nat.le_refl _) | (with_reducible assumption) | omega | (simp; omega) | (simp; done))))) (hb.mono (by (first | (with_reducible exact Nat.le_refl _) | (with_reducible assumption) | omega | (simp; omega) | (simp; done)))))
    all_goals go_wp2
    refine bodyPost_ret (v := .tuple #[.int .u64 (v : Int), fl c' p' z' s' o', .int .i64 0]) (by simp [results, Try.results31, go_sem, *]) rfl ?_
    exact ⟨rfl, by (repeat' (first | (with_reducible exact Below.refl _ _) | (with_reducible assumption) | (with_reducible refine Below.alloc ?_ ?_ _) | (with_reducible refine Below.drew ?_) | (with_reducible refine below_drewN ?_ _) | (with_reducible refine Below.setCell ?_ ?_ _) | (first | (with_reducible exact Nat.le_refl _) | (with_reducible assumption) | omega | (simp; omega) | (simp; done))))⟩
end Go.Proofs.Ytknopookopfoeaa.AluR
