/- What Logic, One, Cond, Pack and Unpack of package alu come to. -/
import Derived.Test.YtknopookopfoeaaAluB
namespace Go.Proofs.Ytknopookopfoeaa.Alu
open Go.RowKit Go.Proofs.Ytknopookopfoeaa.AluMath

theorem logic_ok (op size : Int) (n : Nat) (h : SZ size n) (a b v : Nat) (ha : a < M64) (hb : b < M64) (hv : logV op a b = some v) (w : World) :
    Calls Try.prog 35 #[.int .i64 op, .int .u64 (a : Int), .int .u64 (b : Int), .int .i64 size] w fun e w' =>
      e = .returned (.tuple #[.int .u64 (v % 2 ^ n : Nat), flagsV n (v % 2 ^ n) false false, .int .i64 0]) ∧ Below w.heap.size w w' := by
  have hn := h.cases
  have hv64 : v < M64 := by
    unfold logV at hv
    split at hv
    · cases hv; exact Nat.and_lt_two_pow (n := 64) a hb
    split at hv
    · cases hv; exact Nat.or_lt_two_pow (n := 64) ha hb
    split at hv
    · cases hv; exact Nat.xor_lt_two_pow (n := 64) ha hb
    · cases hv
  by_cases h1 : op = 7 ∨ op = 11
  · have e1 := u64_and_nat a b ha hb
    have hv2 : a &&& b = v := by unfold logV at hv; rw [if_pos h1] at hv; exact Option.some.inj hv
    rw [hv2] at e1
    clear hv hv2
    rcases h1 with rfl | rfl
    all_goals
      go_enter Try.func35, Try.ntmps35
      go_wp2_with (first | (go_at_call 38; (with_reducible refine (of_ok _ n h _).mono ?_); rintro e w' ⟨rfl, hb⟩; obtain ⟨hc, hf, hz⟩ := bcell hb; (try simp at hz); (try have hzz : w.heap.size < w'.heap.size := by omega); (try have hzz1 : w.heap.size + 1 < w'.heap.size := by omega); (try have hzz2 : w.heap.size + 2 < w'.heap.size := by omega); have hB := Below.trans (B := w.heap.size) (a := w) (by (repeat' (first | (with_reducible exact Below.refl _ _) | (with_reducible assumption) | (with_reducible refine Below.alloc ?_ ?_ _) | (with_reducible refine Below.drew ?_) | (with_reducible refine below_drewN ?_ _) | (with_reducible refine Below.setCell ?_ ?_ _) | (first | (with_reducible exact Nat.le_refl _) | (with_reducible assumption) | omega | (simp; omega) | (simp; done))))) (hb.mono (by (first | (with_reducible exact Nat.le_refl _) | (with_reducible assumption) | omega | (simp; omega) | (simp; done))))) | (go_at_call 43; (with_reducible refine (told_calls n hn v _ hv64 rfl _ _ _).mono ?_); rintro e w' ⟨rfl, hb⟩; obtain ⟨hc, hf, hz⟩ := bcell hb; (try simp at hz); (try have hzz : w.heap.size < w'.heap.size := by omega); (try have hzz1 : w.heap.size + 1 < w'.heap.size := by omega); (try have hzz2 : w.heap.size + 2 < w'.heap.size := by omega); have hB := Below.trans (B := w.heap.size) (a := w) (by (repeat' (first | (with_reducible exact Below.refl _ _) | (with_reducible assumption) | (with_reducible refine Below.alloc ?_ ?_ _) | (with_reducible refine Below.drew ?_) | (with_reducible refine below_drewN ?_ _) | (with_reducible refine Below.setCell ?_ ?_ _) | (first | (with_reducible exact Nat.le_refl _) | (with_reducible assumption) | omega | (simp; omega) | (simp; done))))) (hb.mono (by (first | (with_reducible exact Nat.le_refl _) | (with_reducible assumption) | omega | (simp; omega) | (simp; done))))))
      refine bodyPost_ret (v := .tuple #[.int .u64 (v % 2 ^ n : Nat), flagsV n (v % 2 ^ n) false false, .int .i64 0]) (by simp [results, Try.results35, go_sem, *]) rfl ?_
      exact ⟨rfl, by (repeat' (first | (with_reducible exact Below.refl _ _) | (with_reducible assumption) | (with_reducible refine Below.alloc ?_ ?_ _) | (with_reducible refine Below.drew ?_) | (with_reducible refine below_drewN ?_ _) | (with_reducible refine Below.setCell ?_ ?_ _) | (first | (with_reducible exact Nat.le_refl _) | (with_reducible assumption) | omega | (simp; omega) | (simp; done))))⟩
  by_cases h2 : op = 4
  · have e1 := u64_or_nat a b ha hb
    have hv2 : a ||| b = v := by unfold logV at hv; rw [if_neg h1, if_pos h2] at hv; exact Option.some.inj hv
    rw [hv2] at e1
    clear hv hv2 h1
    subst h2
    go_enter Try.func35, Try.ntmps35
    go_wp2_with (first | (go_at_call 38; (with_reducible refine (of_ok _ n h _).mono ?_); rintro e w' ⟨rfl, hb⟩; obtain ⟨hc, hf, hz⟩ := bcell hb; (try simp at hz); (try have hzz : w.heap.size < w'.heap.size := by omega); (try have hzz1 : w.heap.size + 1 < w'.heap.size := by omega); (try have hzz2 : w.heap.size + 2 < w'.heap.size := by omega); have hB := Below.trans (B := w.heap.size) (a := w) (by (repeat' (first | (with_reducible exact Below.refl _ _) | (with_reducible assumption) | (with_reducible refine Below.alloc ?_ ?_ _) | (with_reducible refine Below.drew ?_) | (with_reducible refine below_drewN ?_ _) | (with_reducible refine Below.setCell ?_ ?_ _) | (first | (with_reducible exact Nat.le_refl _) | (with_reducible assumption) | omega | (simp; omega) | (simp; done))))) (hb.mono (by (first | (with_reducible exact Nat.le_refl _) | (with_reducible assumption) | omega | (simp; omega) | (simp; done))))) | (go_at_call 43; (with_reducible refine (told_calls n hn v _ hv64 rfl _ _ _).mono ?_); rintro e w' ⟨rfl, hb⟩; obtain ⟨hc, hf, hz⟩ := bcell hb; (try simp at hz); (try have hzz : w.heap.size < w'.heap.size := by omega); (try have hzz1 : w.heap.size + 1 < w'.heap.size := by omega); (try have hzz2 : w.heap.size + 2 < w'.heap.size := by omega); have hB := Below.trans (B := w.heap.size) (a := w) (by (repeat' (first | (with_reducible exact Below.refl _ _) | (with_reducible assumption) | (with_reducible refine Below.alloc ?_ ?_ _) | (with_reducible refine Below.drew ?_) | (with_reducible refine below_drewN ?_ _) | (with_reducible refine Below.setCell ?_ ?_ _) | (first | (with_reducible exact Nat.le_refl _) | (with_reducible assumption) | omega | (simp; omega) | (simp; done))))) (hb.mono (by (first | (with_reducible exact Nat.le_refl _) | (with_reducible assumption) | omega | (simp; omega) | (simp; done))))))
    refine bodyPost_ret (v := .tuple #[.int .u64 (v % 2 ^ n : Nat), flagsV n (v % 2 ^ n) false false, .int .i64 0]) (by simp [results, Try.results35, go_sem, *]) rfl ?_
    exact ⟨rfl, by (repeat' (first | (with_reducible exact Below.refl _ _) | (with_reducible assumption) | (with_reducible refine Below.alloc ?_ ?_ _) | (with_reducible refine Below.drew ?_) | (with_reducible refine below_drewN ?_ _) | (with_reducible refine Below.setCell ?_ ?_ _) | (first | (with_reducible exact Nat.le_refl _) | (with_reducible assumption) | omega | (simp; omega) | (simp; done))))⟩
  by_cases h3 : op = 9
  · have e1 := u64_xor_nat a b ha hb
    have hv2 : a ^^^ b = v := by unfold logV at hv; rw [if_neg h1, if_neg h2, if_pos h3] at hv; exact Option.some.inj hv
    rw [hv2] at e1
    clear hv hv2 h1 h2
    subst h3
    go_enter Try.func35, Try.ntmps35
    go_wp2_with (first | (go_at_call 38; (with_reducible refine (of_ok _ n h _).mono ?_); rintro e w' ⟨rfl, hb⟩; obtain ⟨hc, hf, hz⟩ := bcell hb; (try simp at hz); (try have hzz : w.heap.size < w'.heap.size := by omega); (try have hzz1 : w.heap.size + 1 < w'.heap.size := by omega); (try have hzz2 : w.heap.size + 2 < w'.heap.size := by omega); have hB := Below.trans (B := w.heap.size) (a := w) (by (repeat' (first | (with_reducible exact Below.refl _ _) | (with_reducible assumption) | (with_reducible refine Below.alloc ?_ ?_ _) | (with_reducible refine Below.drew ?_) | (with_reducible refine below_drewN ?_ _) | (with_reducible refine Below.setCell ?_ ?_ _) | (first | (with_reducible exact Nat.le_refl _) | (with_reducible assumption) | omega | (simp; omega) | (simp; done))))) (hb.mono (by (first | (with_reducible exact Nat.le_refl _) | (with_reducible assumption) | omega | (simp; omega) | (simp; done))))) | (go_at_call 43; (with_reducible refine (told_calls n hn v _ hv64 rfl _ _ _).mono ?_); rintro e w' ⟨rfl, hb⟩; obtain ⟨hc, hf, hz⟩ := bcell hb; (try simp at hz); (try have hzz : w.heap.size < w'.heap.size := by omega); (try have hzz1 : w.heap.size + 1 < w'.heap.size := by omega); (try have hzz2 : w.heap.size + 2 < w'.heap.size := by omega); have hB := Below.trans (B := w.heap.size) (a := w) (by (repeat' (first | (with_reducible exact Below.refl _ _) | (with_reducible assumption) | (with_reducible refine Below.alloc ?_ ?_ _) | (with_reducible refine Below.drew ?_) | (with_reducible refine below_drewN ?_ _) | (with_reducible refine Below.setCell ?_ ?_ _) | (first | (with_reducible exact Nat.le_refl _) | (with_reducible assumption) | omega | (simp; omega) | (simp; done))))) (hb.mono (by (first | (with_reducible exact Nat.le_refl _) | (with_reducible assumption) | omega | (simp; omega) | (simp; done))))))
    refine bodyPost_ret (v := .tuple #[.int .u64 (v % 2 ^ n : Nat), flagsV n (v % 2 ^ n) false false, .int .i64 0]) (by simp [results, Try.results35, go_sem, *]) rfl ?_
    exact ⟨rfl, by (repeat' (first | (with_reducible exact Below.refl _ _) | (with_reducible assumption) | (with_reducible refine Below.alloc ?_ ?_ _) | (with_reducible refine Below.drew ?_) | (with_reducible refine below_drewN ?_ _) | (with_reducible refine Below.setCell ?_ ?_ _) | (first | (with_reducible exact Nat.le_refl _) | (with_reducible assumption) | omega | (simp; omega) | (simp; done))))⟩
  · exact absurd hv (by unfold logV; rw [if_neg h1, if_neg h2, if_neg h3]; simp)


theorem logic_no_size (op size : Int) (h : NoSZ size) (a b : Int) (w : World) :
    Calls Try.prog 35 #[.int .i64 op, .int .u64 a, .int .u64 b, .int .i64 size] w fun e w' => e = .returned wrongV ∧ Below w.heap.size w w' := by
  go_enter Try.func35, Try.ntmps35
  go_wp2_with (first | (go_at_call 38; (with_reducible refine (of_no _ h _).mono ?_); rintro e w' ⟨rfl, hb⟩; obtain ⟨hc, hf, hz⟩ := bcell hb; (try simp at hz); (try have hzz : w.heap.size < w'.heap.size := by omega); (try have hzz1 : w.heap.size + 1 < w'.heap.size := by omega); (try have hzz2 : w.heap.size + 2 < w'.heap.size := by omega); have hB := Below.trans (B := w.heap.size) (a := w) (by (repeat' (first | (with_reducible exact Below.refl _ _) | (with_reducible assumption) | (with_reducible refine Below.alloc ?_ ?_ _) | (with_reducible refine Below.drew ?_) | (with_reducible refine below_drewN ?_ _) | (with_reducible refine Below.setCell ?_ ?_ _) | (first | (with_reducible exact Nat.le_refl _) | (with_reducible assumption) | omega | (simp; omega) | (simp; done))))) (hb.mono (by (first | (with_reducible exact Nat.le_refl _) | (with_reducible assumption) | omega | (simp; omega) | (simp; done))))) | (go_at_call 39; (with_reducible refine (wrong_calls _).mono ?_); rintro e w' ⟨rfl, hb⟩; obtain ⟨hc, hf, hz⟩ := bcell hb; (try simp at hz); (try have hzz : w.heap.size < w'.heap.size := by omega); (try have hzz1 : w.heap.size + 1 < w'.heap.size := by omega); (try have hzz2 : w.heap.size + 2 < w'.heap.size := by omega); have hB := Below.trans (B := w.heap.size) (a := w) (by (repeat' (first | (with_reducible exact Below.refl _ _) | (with_reducible assumption) | (with_reducible refine Below.alloc ?_ ?_ _) | (with_reducible refine Below.drew ?_) | (with_reducible refine below_drewN ?_ _) | (with_reducible refine Below.setCell ?_ ?_ _) | (first | (with_reducible exact Nat.le_refl _) | (with_reducible assumption) | omega | (simp; omega) | (simp; done))))) (hb.mono (by (first | (with_reducible exact Nat.le_refl _) | (with_reducible assumption) | omega | (simp; omega) | (simp; done))))))
  refine bodyPost_ret (v := wrongV) (by simp [results, Try.results35, go_sem, *]) rfl ?_
  exact ⟨rfl, by (repeat' (first | (with_reducible exact Below.refl _ _) | (with_reducible assumption) | (with_reducible refine Below.alloc ?_ ?_ _) | (with_reducible refine Below.drew ?_) | (with_reducible refine below_drewN ?_ _) | (with_reducible refine Below.setCell ?_ ?_ _) | (first | (with_reducible exact Nat.le_refl _) | (with_reducible assumption) | omega | (simp; omega) | (simp; done))))⟩

theorem logic_no_op (op size : Int) (n : Nat) (h : SZ size n) (a b : Nat) (hv : logV op a b = none) (w : World) :
    Calls Try.prog 35 #[.int .i64 op, .int .u64 (a : Int), .int .u64 (b : Int), .int .i64 size] w fun e w' => e = .returned wrongV ∧ Below w.heap.size w w' := by
  have h1 : ¬ (op = 7 ∨ op = 11) := by intro h1; unfold logV at hv; rw [if_pos h1] at hv; cases hv
  have h2 : ¬ op = 4 := by intro h2; unfold logV at hv; rw [if_neg h1, if_pos h2] at hv; cases hv
  have h3 : ¬ op = 9 := by intro h3; unfold logV at hv; rw [if_neg h1, if_neg h2, if_pos h3] at hv; cases hv
  have k1 : (op == 7) = false := by simp; omega
  have k2 : (op == 11) = false := by simp; omega
  have k3 : (op == 4) = false := by simp; omega
  have k4 : (op == 9) = false := by simp; omega
  clear h1 h2 h3 hv
  go_enter Try.func35, Try.ntmps35
  go_wp2_with (first | (go_at_call 38; (with_reducible refine (of_ok _ n h _).mono ?_); rintro e w' ⟨rfl, hb⟩; obtain ⟨hc, hf, hz⟩ := bcell hb; (try simp at hz); (try have hzz : w.heap.size < w'.heap.size := by omega); (try have hzz1 : w.heap.size + 1 < w'.heap.size := by omega); (try have hzz2 : w.heap.size + 2 < w'.heap.size := by omega); have hB := Below.trans (B := w.heap.size) (a := w) (by (repeat' (first | (with_reducible exact Below.refl _ _) | (with_reducible assumption) | (with_reducible refine Below.alloc ?_ ?_ _) | (with_reducible refine Below.drew ?_) | (with_reducible refine below_drewN ?_ _) | (with_reducible refine Below.setCell ?_ ?_ _) | (first | (with_reducible exact Nat.le_refl _) | (with_reducible assumption) | omega | (simp; omega) | (simp; done))))) (hb.mono (by (first | (with_reducible exact Nat.le_refl _) | (with_reducible assumption) | omega | (simp; omega) | (simp; done))))) | (go_at_call 39; (with_reducible refine (wrong_calls _).mono ?_); rintro e w' ⟨rfl, hb⟩; obtain ⟨hc, hf, hz⟩ := bcell hb; (try simp at hz); (try have hzz : w.heap.size < w'.heap.size := by omega); (try have hzz1 : w.heap.size + 1 < w'.heap.size := by omega); (try have hzz2 : w.heap.size + 2 < w'.heap.size := by omega); have hB := Below.trans (B := w.heap.size) (a := w) (by (repeat' (first | (with_reducible exact Below.refl _ _) | (with_reducible assumption) | (with_reducible refine Below.alloc ?_ ?_ _) | (with_reducible refine Below.drew ?_) | (with_reducible refine below_drewN ?_ _) | (with_reducible refine Below.setCell ?_ ?_ _) | (first | (with_reducible exact Nat.le_refl _) | (with_reducible assumption) | omega | (simp; omega) | (simp; done))))) (hb.mono (by (first | (with_reducible exact Nat.le_refl _) | (with_reducible assumption) | omega | (simp; omega) | (simp; done))))))
  refine bodyPost_ret (v := wrongV) (by simp [results, Try.results35, go_sem, *]) rfl ?_
  exact ⟨rfl, by (repeat' (first | (with_reducible exact Below.refl _ _) | (with_reducible assumption) | (with_reducible refine Below.alloc ?_ ?_ _) | (with_reducible refine Below.drew ?_) | (with_reducible refine below_drewN ?_ _) | (with_reducible refine Below.setCell ?_ ?_ _) | (first | (with_reducible exact Nat.le_refl _) | (with_reducible assumption) | omega | (simp; omega) | (simp; done))))⟩

theorem add_ok0 (size : Int) (n : Nat) (h : SZ size n) (a b : Nat) (ha : a < M64) (hb : b < M64) (w : World) :
    Calls Try.prog 13 #[.int .u64 (a : Int), .int .u64 (b : Int), .bool false, .int .i64 size] w fun e w' =>
      e = .returned (.tuple #[.int .u64 (sumR n a b 0 : Nat), flagsV n (sumR n a b 0) (sumC n a b 0) (sumO n a b 0), .int .i64 0]) ∧ Below w.heap.size w w' := add_ok size n h a b ha hb false w
theorem sub_ok0 (size : Int) (n : Nat) (h : SZ size n) (a b : Nat) (ha : a < M64) (hb : b < M64) (w : World) :
    Calls Try.prog 15 #[.int .u64 (a : Int), .int .u64 (b : Int), .bool false, .int .i64 size] w fun e w' =>
      e = .returned (.tuple #[.int .u64 (difR n a b 0 : Nat), flagsV n (difR n a b 0) (difC n a b 0) (difO n a b 0), .int .i64 0]) ∧ Below w.heap.size w w' := sub_ok size n h a b ha hb false w


set_option maxHeartbeats 1000000 in
theorem inc_ok (size : Int) (n : Nat) (h : SZ size n) (a : Nat) (ha : a < M64) (c p z s o : Bool) (w : World) :
    Calls Try.prog 56 #[fl c p z s o, .int .u64 (a : Int), .int .i64 size] w fun e w' =>
      e = .returned (.tuple #[.int .u64 (sumR n a 1 0 : Nat), flagsV n (sumR n a 1 0) c (sumO n a 1 0), .int .i64 0]) ∧ Below w.heap.size w w' := by
  go_enter Try.func56, Try.ntmps56
  go_wp2_with (first | (go_at_call 13; (refine (add_ok0 _ n h a 1 ha (by decide) _).mono ?_); rintro e w' ⟨rfl, hb⟩; obtain ⟨hc, hf, hz⟩ := bcell hb; (try simp at hz); (try have hzz : w.heap.size < w'.heap.size := by omega); (try have hzz1 : w.heap.size + 1 < w'.heap.size := by omega); (try have hzz2 : w.heap.size + 2 < w'.heap.size := by omega); have hB := Below.trans (B := w.heap.size) (a := w) (by (repeat' (first | (with_reducible exact Below.refl _ _) | (with_reducible assumption) | (with_reducible refine Below.alloc ?_ ?_ _) | (with_reducible refine Below.drew ?_) | (with_reducible refine below_drewN ?_ _) | (with_reducible refine Below.setCell ?_ ?_ _) | (first | (with_reducible exact Nat.le_refl _) | (with_reducible assumption) | omega | (simp; omega) | (simp; done))))) (hb.mono (by (first | (with_reducible exact Nat.le_refl _) | (with_reducible assumption) | omega | (simp; omega) | (simp; done))))))
  go_region
  go_wp2
  refine bodyPost_ret (v := .tuple #[.int .u64 (sumR n a 1 0 : Nat), flagsV n (sumR n a 1 0) c (sumO n a 1 0), .int .i64 0]) (by simp [results, Try.results56, go_sem, *]) rfl ?_
  exact ⟨rfl, by (repeat' (first | (with_reducible exact Below.refl _ _) | (with_reducible assumption) | (with_reducible refine Below.alloc ?_ ?_ _) | (with_reducible refine Below.drew ?_) | (with_reducible refine below_drewN ?_ _) | (with_reducible refine Below.setCell ?_ ?_ _) | (first | (with_reducible exact Nat.le_refl _) | (with_reducible assumption) | omega | (simp; omega) | (simp; done))))⟩

set_option maxHeartbeats 1000000 in
theorem dec_ok (size : Int) (n : Nat) (h : SZ size n) (a : Nat) (ha : a < M64) (c p z s o : Bool) (w : World) :
    Calls Try.prog 57 #[fl c p z s o, .int .u64 (a : Int), .int .i64 size] w fun e w' =>
      e = .returned (.tuple #[.int .u64 (difR n a 1 0 : Nat), flagsV n (difR n a 1 0) c (difO n a 1 0), .int .i64 0]) ∧ Below w.heap.size w w' := by
  go_enter Try.func57, Try.ntmps57
  go_wp2_with (first | (go_at_call 15; (refine (sub_ok0 _ n h a 1 ha (by decide) _).mono ?_); rintro e w' ⟨rfl, hb⟩; obtain ⟨hc, hf, hz⟩ := bcell hb; (try simp at hz); (try have hzz : w.heap.size < w'.heap.size := by omega); (try have hzz1 : w.heap.size + 1 < w'.heap.size := by omega); (try have hzz2 : w.heap.size + 2 < w'.heap.size := by omega); have hB := Below.trans (B := w.heap.size) (a := w) (by (repeat' (first | (with_reducible exact Below.refl _ _) | (with_reducible assumption) | (with_reducible refine Below.alloc ?_ ?_ _) | (with_reducible refine Below.drew ?_) | (with_reducible refine below_drewN ?_ _) | (with_reducible refine Below.setCell ?_ ?_ _) | (first | (with_reducible exact Nat.le_refl _) | (with_reducible assumption) | omega | (simp; omega) | (simp; done))))) (hb.mono (by (first | (with_reducible exact Nat.le_refl _) | (with_reducible assumption) | omega | (simp; omega) | (simp; done))))))
  go_region
  go_wp2
  refine bodyPost_ret (v := .tuple #[.int .u64 (difR n a 1 0 : Nat), flagsV n (difR n a 1 0) c (difO n a 1 0), .int .i64 0]) (by simp [results, Try.results57, go_sem, *]) rfl ?_
  exact ⟨rfl, by (repeat' (first | (with_reducible exact Below.refl _ _) | (with_reducible assumption) | (with_reducible refine Below.alloc ?_ ?_ _) | (with_reducible refine Below.drew ?_) | (with_reducible refine below_drewN ?_ _) | (with_reducible refine Below.setCell ?_ ?_ _) | (first | (with_reducible exact Nat.le_refl _) | (with_reducible assumption) | omega | (simp; omega) | (simp; done))))⟩

set_option maxHeartbeats 1000000 in
theorem neg_ok (size : Int) (n : Nat) (h : SZ size n) (a : Nat) (ha : a < M64) (c p z s o : Bool) (w : World) :
    Calls Try.prog 58 #[fl c p z s o, .int .u64 (a : Int), .int .i64 size] w fun e w' =>
      e = .returned (.tuple #[.int .u64 (difR n 0 a 0 : Nat), flagsV n (difR n 0 a 0) (difC n 0 a 0) (difO n 0 a 0), .int .i64 0]) ∧ Below w.heap.size w w' := by
  go_enter Try.func58, Try.ntmps58
  go_wp2_with (first | (go_at_call 15; (refine (sub_ok0 _ n h 0 a (by decide) ha _).mono ?_); rintro e w' ⟨rfl, hb⟩; obtain ⟨hc, hf, hz⟩ := bcell hb; (try simp at hz); (try have hzz : w.heap.size < w'.heap.size := by omega); (try have hzz1 : w.heap.size + 1 < w'.heap.size := by omega); (try have hzz2 : w.heap.size + 2 < w'.heap.size := by omega); have hB := Below.trans (B := w.heap.size) (a := w) (by (repeat' (first | (with_reducible exact Below.refl _ _) | (with_reducible assumption) | (with_reducible refine Below.alloc ?_ ?_ _) | (with_reducible refine Below.drew ?_) | (with_reducible refine below_drewN ?_ _) | (with_reducible refine Below.setCell ?_ ?_ _) | (first | (with_reducible exact Nat.le_refl _) | (with_reducible assumption) | omega | (simp; omega) | (simp; done))))) (hb.mono (by (first | (with_reducible exact Nat.le_refl _) | (with_reducible assumption) | omega | (simp; omega) | (simp; done))))))
  refine bodyPost_ret (v := .tuple #[.int .u64 (difR n 0 a 0 : Nat), flagsV n (difR n 0 a 0) (difC n 0 a 0) (difO n 0 a 0), .int .i64 0]) (by simp [results, Try.results58, go_sem, *]) rfl ?_
  exact ⟨rfl, by (repeat' (first | (with_reducible exact Below.refl _ _) | (with_reducible assumption) | (with_reducible refine Below.alloc ?_ ?_ _) | (with_reducible refine Below.drew ?_) | (with_reducible refine below_drewN ?_ _) | (with_reducible refine Below.setCell ?_ ?_ _) | (first | (with_reducible exact Nat.le_refl _) | (with_reducible assumption) | omega | (simp; omega) | (simp; done))))⟩

theorem not_u64 (a : Nat) (ha : a < M64) : bits .xor .u64 IntKind.u64.max (a : Int) = ((M64 - 1 - a : Nat) : Int) := by
  show bits .xor .u64 18446744073709551615 (a : Int) = _
  have e := u64_xor_nat 18446744073709551615 a (by decide) ha
  rw [show ((18446744073709551615 : Nat) : Int) = 18446744073709551615 from rfl] at e
  rw [e]
  congr 1
  have h3 : (BitVec.ofNat 64 a).toNat = a := by rw [BitVec.toNat_ofNat]; exact Nat.mod_eq_of_lt ha
  have h4 := BitVec.toNat_not (x := BitVec.ofNat 64 a)
  rw [h3, ← BitVec.xor_allOnes, BitVec.toNat_xor, h3, BitVec.toNat_allOnes, Nat.xor_comm] at h4
  exact h4

end Go.Proofs.Ytknopookopfoeaa.Alu
