/- What the reference's shift comes to, one place at a time. -/
import Derived.Test.YtknopookopfoeaaAluRB
namespace Go.Proofs.Ytknopookopfoeaa.AluR
open Go.RowKit Go.Proofs.Ytknopookopfoeaa.AluMath

theorem shl_step (n A i : Nat) : shlR n A i * 2 % 2 ^ n = shlR n A (i + 1) := by
  unfold shlR
  rw [Nat.mul_mod, Nat.mod_mod, ← Nat.mul_mod, Nat.pow_succ, ← Nat.mul_assoc]

theorem shl_out (n A k : Nat) (hn : 1 ≤ n) (hA : A < 2 ^ n) : (((shlR n A k / 2 ^ (n - 1) % 2 : Nat) : Int) == 1) = shlC n A (k + 1) := by
  unfold shlR shlC bitB
  by_cases h : k + 1 ≤ n
  · rw [decide_eq_true h, Bool.true_and]
    obtain ⟨j, rfl⟩ : ∃ j, n = k + 1 + j := ⟨n - (k + 1), by omega⟩
    rw [show k + 1 + j - 1 = j + k by omega, show k + 1 + j - (k + 1) = j by omega]
    have e : A * 2 ^ k % 2 ^ (k + 1 + j) / 2 ^ (j + k) % 2 = A / 2 ^ j % 2 := by
      rw [show 2 ^ (k + 1 + j) = 2 ^ (j + k) * 2 by rw [← Nat.pow_succ]; congr 1; omega, Nat.mod_mul_right_div_self, Nat.mod_mod, Nat.pow_add, Nat.mul_div_mul_right _ _ (Nat.two_pow_pos k)]
    rw [e]
  · rw [decide_eq_false h, Bool.false_and]
    have e : A * 2 ^ k % 2 ^ n = 0 := by
      apply Nat.mod_eq_zero_of_dvd
      exact Nat.dvd_trans (Nat.pow_dvd_pow 2 (show n ≤ k by omega)) (Nat.dvd_mul_left _ _)
    rw [e]; simp

set_option maxHeartbeats 4000000 in
theorem shl_calls (n : Nat) (hn : n = 8 ∨ n = 32 ∨ n = 64) (a : Nat) (ha : a < M64) (k : Nat) (hk0 : k ≠ 0) (hk : k < 64) (C P Z S O : Bool) (w : World) :
    Calls Try.prog 54 #[.int .i64 17, .int .u64 (a : Int), .int .i64 (k : Int), fl C P Z S O, .int .i64 (n : Int)] w fun e w' =>
      e = .returned (.tuple #[.int .u64 (shlR n (a % 2 ^ n) k : Nat), flagsV n (shlR n (a % 2 ^ n) k) (shlC n (a % 2 ^ n) k) (shlO n (a % 2 ^ n) k), .int .i64 0]) ∧ Below w.heap.size w w' := by
  have hn1 : (1 : Int) ≤ n := by omega
  have hn2 : ((n : Int) - 1) = ((n - 1 : Nat) : Int) := by omega
  have hn64 : n ≤ 64 := by omega
  have hp := pow_le_M64 hn64
  have hA : a % 2 ^ n < 2 ^ n := Nat.mod_lt _ (Nat.two_pow_pos n)
  have l0 := low_calls a ha n hn64
  have hk2 : ((k : Int) == 0) = false := by simp; omega
  have hr : ∀ i, shlR n (a % 2 ^ n) i < M64 := fun i => Nat.lt_of_lt_of_le (Nat.mod_lt _ (Nat.two_pow_pos n)) hp
  have fc := flags_calls n hn (shlR n (a % 2 ^ n) k) (hr k)
  have b0 : ∀ i (w : World), Calls Try.prog 48 #[.int .u64 (shlR n (a % 2 ^ n) i : Int), .int .i64 ((n : Int) - 1)] w fun e w' => e = .returned (.int .i64 ((shlR n (a % 2 ^ n) i / 2 ^ (n - 1) % 2 : Nat) : Int)) ∧ w = w' := by
    intro i; rw [hn2]; exact bit_calls _ (hr i) (n - 1) (by omega)
  have hout := fun i => shl_out n (a % 2 ^ n) i (by omega) hA
  have hst := fun i => shl_step n (a % 2 ^ n) i
  have h0 : a % 2 ^ n = shlR n (a % 2 ^ n) 0 := by unfold shlR; rw [Nat.pow_zero, Nat.mul_one, Nat.mod_mod]
  have Hr := hid hr
  have Hb := hid b0
  have Ho := hid hout
  have Hs := hid hst
  have H0 := hid h0
  clear hr b0 hout hst h0 hn2 hp hA ha
  generalize a % 2 ^ n = A at *
  obtain ⟨kb, hk1⟩ : ∃ kb, ((k : Int) == 1) = kb := ⟨_, rfl⟩
  unfold shlO
  rw [hk1]
  generalize hcc : shlC n A k = c
  generalize hR0 : shlR n A k = R0 at fc ⊢
  have Hc := hid hcc
  have HR0 := hid hR0
  clear hcc hR0
  go_enter Try.func54, Try.ntmps54
  go_wp2_with (go_at_call 52; (with_reducible refine (l0 _).mono ?_); rintro e w' ⟨rfl, rfl⟩)
  go_loop [13, 14, 15] (fun r o i => ∃ j : Nat, j ≤ k ∧ i = .int .i64 (j : Int) ∧ ∃ R q : Nat, r = .int .u64 (R : Int) ∧ o = .int .i64 (q : Int) ∧ Hid (R = shlR n A j ∧ (j = 0 ∨ ((q : Int) == 1) = shlC n A j))) (fun _ _ i => (k - intOf i).toNat)
  case atStart => exact ⟨0, Nat.zero_le _, rfl, A, 0, rfl, rfl, hid ⟨H0.out, .inl rfl⟩⟩
  case round =>
    obtain ⟨j, hj, rfl, R, q, rfl, rfl, hR⟩ := hrel
    by_cases hlt : j < k
    · obtain ⟨q', hq'⟩ : ∃ q', q' = R / 2 ^ (n - 1) % 2 := ⟨_, rfl⟩
      have b1 := Hb.out j
      rw [← hR.out.1, ← hq'] at b1
      have hR64 : R < M64 := by rw [hR.out.1]; exact Hr.out j
      have hw : (IntKind.u64.wrap ((R : Int) * 2)) = ((R * 2 % M64 : Nat) : Int) := by rw [IntKind.wrap_u64, Int.natCast_emod, Int.natCast_mul]; rfl
      have l1 := low_calls (R * 2 % M64) (Nat.mod_lt _ (by decide)) n hn64
      have hv : R * 2 % M64 % 2 ^ n = shlR n A (j + 1) := by rw [Nat.mod_mod_of_dvd _ (Nat.pow_dvd_pow 2 hn64 : 2 ^ n ∣ 2 ^ 64), hR.out.1]; exact Hs.out j
      rw [hv] at l1
      generalize R * 2 % M64 = z at *
      have hq2 := hid hq'
      clear hq' hv
      go_wp2_with (first | (go_at_call 48; (with_reducible refine (b1 _).mono ?_); rintro e w' ⟨rfl, rfl⟩) | (go_at_call 52; (with_reducible refine (l1 _).mono ?_); rintro e w' ⟨rfl, rfl⟩))
      go_round
      case rel => exact ⟨j + 1, by omega, by go_num, _, q', rfl, rfl, hid ⟨rfl, .inr (by rw [hq2.out, hR.out.1]; exact Ho.out j)⟩⟩
      case measure => simp [intOf]; omega
    · obtain rfl : j = k := by omega
      have hq : ((q : Int) == 1) = c := by rw [← Hc.out]; exact hR.out.2.resolve_left hk0
      obtain rfl : R = R0 := by rw [hR.out.1, HR0.out]
      clear hlt
      cases kb
      · go_wp2_with (go_at_call 51; (with_reducible refine (fc _).mono ?_); rintro e w' ⟨rfl, hb⟩; obtain ⟨hc, hf, hz⟩ := bcell hb; (try simp at hz); (try have hzz : w.heap.size < w'.heap.size := by omega); (try have hzz1 : w.heap.size + 1 < w'.heap.size := by omega); (try have hzz2 : w.heap.size + 2 < w'.heap.size := by omega); have hB := Below.trans (B := w.heap.size) (a := w) (by (repeat' (first | (with_reducible exact Below.refl _ _) | (with_reducible assumption) | (with_reducible refine Below.alloc ?_ ?_ _) | (with_reducible refine Below.drew ?_) | (with_reducible refine below_drewN ?_ _) | (with_reducible refine Below.setCell ?_ ?_ _) | (first | (with_reducible exact Nat.le_refl _) | (with_reducible assumption) | omega | (simp; omega) | (simp; done))))) (hb.mono (by (first | (with_reducible exact Nat.le_refl _) | (with_reducible assumption) | omega | (simp; omega) | (simp; done)))))
        go_region
        go_wp2
        refine bodyPost_ret (v := .tuple #[.int .u64 (R : Nat), flagsV n R c (false && (topB n R != c)), .int .i64 0]) (by simp [results, Try.results54, go_sem, *]) rfl ?_
        exact ⟨rfl, by (repeat' (first | (with_reducible exact Below.refl _ _) | (with_reducible assumption) | (with_reducible refine Below.alloc ?_ ?_ _) | (with_reducible refine Below.drew ?_) | (with_reducible refine below_drewN ?_ _) | (with_reducible refine Below.setCell ?_ ?_ _) | (first | (with_reducible exact Nat.le_refl _) | (with_reducible assumption) | omega | (simp; omega) | (simp; done))))⟩
      · go_wp2_with (go_at_call 51; (with_reducible refine (fc _).mono ?_); rintro e w' ⟨rfl, hb⟩; obtain ⟨hc, hf, hz⟩ := bcell hb; (try simp at hz); (try have hzz : w.heap.size < w'.heap.size := by omega); (try have hzz1 : w.heap.size + 1 < w'.heap.size := by omega); (try have hzz2 : w.heap.size + 2 < w'.heap.size := by omega); have hB := Below.trans (B := w.heap.size) (a := w) (by (repeat' (first | (with_reducible exact Below.refl _ _) | (with_reducible assumption) | (with_reducible refine Below.alloc ?_ ?_ _) | (with_reducible refine Below.drew ?_) | (with_reducible refine below_drewN ?_ _) | (with_reducible refine Below.setCell ?_ ?_ _) | (first | (with_reducible exact Nat.le_refl _) | (with_reducible assumption) | omega | (simp; omega) | (simp; done))))) (hb.mono (by (first | (with_reducible exact Nat.le_refl _) | (with_reducible assumption) | omega | (simp; omega) | (simp; done)))))
        go_region
        go_wp2
        refine bodyPost_ret (v := .tuple #[.int .u64 (R : Nat), flagsV n R c (!(topB n R == c)), .int .i64 0]) (by simp [results, Try.results54, go_sem, *]) rfl ?_
        exact ⟨rfl, by (repeat' (first | (with_reducible exact Below.refl _ _) | (with_reducible assumption) | (with_reducible refine Below.alloc ?_ ?_ _) | (with_reducible refine Below.drew ?_) | (with_reducible refine below_drewN ?_ _) | (with_reducible refine Below.setCell ?_ ?_ _) | (first | (with_reducible exact Nat.le_refl _) | (with_reducible assumption) | omega | (simp; omega) | (simp; done))))⟩
end Go.Proofs.Ytknopookopfoeaa.AluR
