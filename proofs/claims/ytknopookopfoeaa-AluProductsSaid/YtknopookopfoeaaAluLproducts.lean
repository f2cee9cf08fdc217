/- The walk of AluProducts. -/
import Derived.Test.YtknopookopfoeaaAluLa
import Derived.Test.YtknopookopfoeaaAluLpowers
import Derived.Test.YtknopookopfoeaaAluRG
namespace Go.Proofs.Ytknopookopfoeaa.AluL
open Go.RowKit Go.Proofs.Ytknopookopfoeaa.AluMath Go.Proofs.Ytknopookopfoeaa.Alu

theorem mul_no (size : Int) (hS : NoSZ size) (a b : Int) (w : World) :
    Calls Try.prog 32 #[.int .u64 a, .int .u64 b, .int .i64 size] w fun e w' => e = .returned wrongV ∧ Below w.heap.size w w' := by
  go_enter Try.func32, Try.ntmps32
  go_wp2_with (first | (go_at_call 38; (with_reducible refine (of_no _ hS _).mono ?_); rintro e w' ⟨rfl, hb⟩; obtain ⟨hc, hf, hz⟩ := bcell hb; (try simp at hz); (try have hzz : w.heap.size < w'.heap.size := by omega); (try have hzz1 : w.heap.size + 1 < w'.heap.size := by omega); (try have hzz2 : w.heap.size + 2 < w'.heap.size := by omega); have hB := Below.trans (B := w.heap.size) (a := w) (by (repeat' (first | (with_reducible exact Below.refl _ _) | (with_reducible assumption) | (with_reducible refine Below.alloc ?_ ?_ _) | (with_reducible refine Below.drew ?_) | (with_reducible refine below_drewN ?_ _) | (with_reducible refine Below.setCell ?_ ?_ _) | (first | (with_reducible exact Nat.le_refl _) | (with_reducible assumption) | omega | (simp; omega) | (simp; done))))) (hb.mono (by (first | (with_reducible exact Nat.le_refl _) | (with_reducible assumption) | omega | (simp; omega) | (simp; done))))) | (go_at_call 39; (with_reducible refine (wrong_calls _).mono ?_); rintro e w' ⟨rfl, hb⟩; obtain ⟨hc, hf, hz⟩ := bcell hb; (try simp at hz); (try have hzz : w.heap.size < w'.heap.size := by omega); (try have hzz1 : w.heap.size + 1 < w'.heap.size := by omega); (try have hzz2 : w.heap.size + 2 < w'.heap.size := by omega); have hB := Below.trans (B := w.heap.size) (a := w) (by (repeat' (first | (with_reducible exact Below.refl _ _) | (with_reducible assumption) | (with_reducible refine Below.alloc ?_ ?_ _) | (with_reducible refine Below.drew ?_) | (with_reducible refine below_drewN ?_ _) | (with_reducible refine Below.setCell ?_ ?_ _) | (first | (with_reducible exact Nat.le_refl _) | (with_reducible assumption) | omega | (simp; omega) | (simp; done))))) (hb.mono (by (first | (with_reducible exact Nat.le_refl _) | (with_reducible assumption) | omega | (simp; omega) | (simp; done))))))
  refine bodyPost_ret (v := wrongV) (by simp [results, Try.results32, go_sem, *]) rfl ?_
  exact ⟨rfl, by (repeat' (first | (with_reducible exact Below.refl _ _) | (with_reducible assumption) | (with_reducible refine Below.alloc ?_ ?_ _) | (with_reducible refine Below.drew ?_) | (with_reducible refine below_drewN ?_ _) | (with_reducible refine Below.setCell ?_ ?_ _) | (first | (with_reducible exact Nat.le_refl _) | (with_reducible assumption) | omega | (simp; omega) | (simp; done))))⟩

theorem mulLo_comm (n A B : Nat) : mulLo n A B = mulLo n B A := by unfold mulLo; rw [Int.mul_comm]
theorem mulHi_comm (n A B : Nat) : mulHi n A B = mulHi n B A := by unfold mulHi; rw [Int.mul_comm]
theorem mulR_comm (n A B : Nat) : mulR n A B = mulR n B A := by unfold mulR; rw [mulLo_comm]
theorem mulO_comm (n A B : Nat) : mulO n A B = mulO n B A := by unfold mulO; rw [mulLo_comm, mulHi_comm, mulR_comm]

set_option maxHeartbeats 4000000 in
set_option maxRecDepth 100000 in
theorem products_core (a b size : Int) (x e : Int) (f0 f1 f2 f3 f4 : Bool) (w : World)
    (c1 : ∀ w : World, Calls Try.prog 32 #[.int .u64 a, .int .u64 b, .int .i64 size] w fun r w' => r = .returned (.tuple #[.int .u64 x, fl f0 f1 f2 f3 f4, .int .i64 e]) ∧ Below w.heap.size w w')
    (c2 : ∀ w : World, Calls Try.prog 33 #[.int .u64 a, .int .u64 b, .int .i64 size] w fun r w' => r = .returned (.tuple #[.int .u64 x, fl f0 f1 f2 f3 f4, .int .i64 e]) ∧ Below w.heap.size w w')
    (c3 : ∀ w : World, Calls Try.prog 32 #[.int .u64 b, .int .u64 a, .int .i64 size] w fun r w' => r = .returned (.tuple #[.int .u64 x, fl f0 f1 f2 f3 f4, .int .i64 e]) ∧ Below w.heap.size w w') :
    Calls Try.prog 8 #[.int .u64 a, .int .u64 b, .int .i64 size] w fun e w' => e = .returned (.bool true) ∧ Below w.heap.size w w' := by
  go_enter Try.func8, Try.ntmps8
  go_wp2_with fail
  (with_reducible refine (c1 _).mono ?_)
  rintro e w1 ⟨rfl, hb1⟩
  obtain ⟨hc1, hf1, hz1⟩ := bcell hb1
  try simp at hz1
  try have hl0_1 : w.heap.size < w1.heap.size := by omega
  try have hn0_1 : ¬ w.heap.size = w1.heap.size := by omega
  try have ho0_1 : ¬ w1.heap.size = w.heap.size := by omega
  try have hm0_1 : w.heap.size + 1 < w1.heap.size := by omega
  have hB1 := Below.trans (B := w.heap.size) (a := w) (by (repeat' (first | (with_reducible exact Below.refl _ _) | (with_reducible assumption) | (with_reducible refine Below.alloc ?_ ?_ _) | (with_reducible refine Below.drew ?_) | (with_reducible refine below_drewN ?_ _) | (with_reducible refine Below.setCell ?_ ?_ _) | (first | (with_reducible exact Nat.le_refl _) | (with_reducible assumption) | omega | (simp; omega) | (simp; done))))) (hb1.mono (by (first | (with_reducible exact Nat.le_refl _) | (with_reducible assumption) | omega | (simp; omega) | (simp; done))))
  clear hb1
  go_wp2_with fail
  (with_reducible refine (c2 _).mono ?_)
  rintro e w2 ⟨rfl, hb2⟩
  obtain ⟨hc2, hf2, hz2⟩ := bcell hb2
  try simp at hz2
  try have hl0_2 : w.heap.size < w2.heap.size := by omega
  try have hn0_2 : ¬ w.heap.size = w2.heap.size := by omega
  try have ho0_2 : ¬ w2.heap.size = w.heap.size := by omega
  try have hm0_2 : w.heap.size + 1 < w2.heap.size := by omega
  try have hl1_2 : w1.heap.size < w2.heap.size := by omega
  try have hn1_2 : ¬ w1.heap.size = w2.heap.size := by omega
  try have ho1_2 : ¬ w2.heap.size = w1.heap.size := by omega
  have hB2 := Below.trans (B := w.heap.size) (a := w) (by (repeat' (first | (with_reducible exact Below.refl _ _) | (with_reducible assumption) | (with_reducible refine Below.alloc ?_ ?_ _) | (with_reducible refine Below.drew ?_) | (with_reducible refine below_drewN ?_ _) | (with_reducible refine Below.setCell ?_ ?_ _) | (first | (with_reducible exact Nat.le_refl _) | (with_reducible assumption) | omega | (simp; omega) | (simp; done))))) (hb2.mono (by (first | (with_reducible exact Nat.le_refl _) | (with_reducible assumption) | omega | (simp; omega) | (simp; done))))
  clear hb2
  go_wp2_with fail
  (with_reducible refine (c3 _).mono ?_)
  rintro e w3 ⟨rfl, hb3⟩
  obtain ⟨hc3, hf3, hz3⟩ := bcell hb3
  try simp at hz3
  try have hl0_3 : w.heap.size < w3.heap.size := by omega
  try have hn0_3 : ¬ w.heap.size = w3.heap.size := by omega
  try have ho0_3 : ¬ w3.heap.size = w.heap.size := by omega
  try have hm0_3 : w.heap.size + 1 < w3.heap.size := by omega
  try have hl1_3 : w1.heap.size < w3.heap.size := by omega
  try have hn1_3 : ¬ w1.heap.size = w3.heap.size := by omega
  try have ho1_3 : ¬ w3.heap.size = w1.heap.size := by omega
  try have hl2_3 : w2.heap.size < w3.heap.size := by omega
  try have hn2_3 : ¬ w2.heap.size = w3.heap.size := by omega
  try have ho2_3 : ¬ w3.heap.size = w2.heap.size := by omega
  have hB3 := Below.trans (B := w.heap.size) (a := w) (by (repeat' (first | (with_reducible exact Below.refl _ _) | (with_reducible assumption) | (with_reducible refine Below.alloc ?_ ?_ _) | (with_reducible refine Below.drew ?_) | (with_reducible refine below_drewN ?_ _) | (with_reducible refine Below.setCell ?_ ?_ _) | (first | (with_reducible exact Nat.le_refl _) | (with_reducible assumption) | omega | (simp; omega) | (simp; done))))) (hb3.mono (by (first | (with_reducible exact Nat.le_refl _) | (with_reducible assumption) | omega | (simp; omega) | (simp; done))))
  clear hb3
  go_wp2_with (first | (go_at_call 14; (with_reducible refine (num_calls _ _).mono ?_); rintro e w' ⟨rfl, rfl⟩) | (go_at_call 16; (with_reducible refine (live_calls _).mono ?_); rintro e w' ⟨rfl, hb⟩; obtain ⟨hc, hf, hz⟩ := bcell hb; (try simp at hz); (try have hzz : w.heap.size < w'.heap.size := by omega); (try have hzz1 : w.heap.size + 1 < w'.heap.size := by omega); (try have hzz2 : w.heap.size + 2 < w'.heap.size := by omega); have hB := Below.trans (B := w.heap.size) (a := w) (by (repeat' (first | (with_reducible exact Below.refl _ _) | (with_reducible assumption) | (with_reducible refine Below.alloc ?_ ?_ _) | (with_reducible refine Below.drew ?_) | (with_reducible refine below_drewN ?_ _) | (with_reducible refine Below.setCell ?_ ?_ _) | (first | (with_reducible exact Nat.le_refl _) | (with_reducible assumption) | omega | (simp; omega) | (simp; done))))) (hb.mono (by (first | (with_reducible exact Nat.le_refl _) | (with_reducible assumption) | omega | (simp; omega) | (simp; done))))))
  (first | (refine bodyPost_ret (results_tmp rfl _ _ _) rfl ?_) | (refine bodyPost_ret (results_none rfl _ _ _) rfl ?_) | (refine bodyPost_end (results_none rfl _ _ _) rfl ?_) | go_ret2 | go_ret3)
  exact ⟨rfl, by (repeat' (first | (with_reducible exact Below.refl _ _) | (with_reducible assumption) | (with_reducible refine Below.alloc ?_ ?_ _) | (with_reducible refine Below.drew ?_) | (with_reducible refine below_drewN ?_ _) | (with_reducible refine Below.setCell ?_ ?_ _) | (first | (with_reducible exact Nat.le_refl _) | (with_reducible assumption) | omega | (simp; omega) | (simp; done))))⟩

theorem products_walk (a1 : Int) (w1 : (Lit.int .u64 a1).wf = true) (b1 : Int) (w2 : (Lit.int .u64 b1).wf = true) (size : Int) (_w4 : (Lit.int .i64 size).wf = true) (w : World) :
    Calls Try.prog 8 #[.int .u64 a1, .int .u64 b1, .int .i64 size] w fun e w' => e = .returned (.bool true) ∧ Below w.heap.size w w' := by
  obtain ⟨a, rfl, ha⟩ := nat_u64 w1
  obtain ⟨b, rfl, hb⟩ := nat_u64 w2
  rcases sz_or size with h | ⟨n, h⟩
  · exact products_core a b size _ _ _ _ _ _ _ w (mul_no size h a b) (AluR.Mul_no size h a b) (mul_no size h b a)
  · refine products_core a b size _ _ _ _ _ _ _ w (mul_ok size n h a b ha hb) (AluR.Mul_ok size n h a b ha hb) ?_
    have := mul_ok size n h b a hb ha
    rw [mulR_comm n (b % 2 ^ n), mulO_comm n (b % 2 ^ n)] at this
    exact this
end Go.Proofs.Ytknopookopfoeaa.AluL
