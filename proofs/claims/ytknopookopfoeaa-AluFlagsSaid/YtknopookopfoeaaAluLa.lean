/- The statements of chapter 02: what they share. -/
import Derived.OpenShut
import Derived.Test.YtknopookopfoeaaAluB
import Derived.Test.YtknopookopfoeaaAluC
namespace Go.Proofs.Ytknopookopfoeaa.AluL
open Go.RowKit Go.Proofs.Ytknopookopfoeaa.AluMath Go.Proofs.Ytknopookopfoeaa.Alu

theorem nat_u64 {x : Int} (h : (Lit.int .u64 x).wf = true) : ∃ a : Nat, x = a ∧ a < M64 := by
  have h2 := bounds_u64 h
  exact ⟨x.toNat, by omega, by unfold M64; omega⟩

theorem num_calls (x : Int) (w : World) : Calls Try.prog 14 #[.int .i64 x] w fun e w' => e = .returned (.int .i64 x) ∧ w = w' := by
  go_enter Try.func14, Try.ntmps14
  go_wp2
  (first | (refine bodyPost_ret (results_tmp rfl _ _ _) rfl ?_) | (refine bodyPost_ret (results_none rfl _ _ _) rfl ?_) | (refine bodyPost_end (results_none rfl _ _ _) rfl ?_) | go_ret2 | go_ret3)
  exact ⟨rfl, rfl⟩

theorem live_add (w : World) : Calls Try.prog 13 #[.int .u64 255, .int .u64 1, .bool false, .int .i64 1] w fun e w' =>
      e = .returned (.tuple #[.int .u64 0, fl true true true false false, .int .i64 0]) ∧ Below w.heap.size w w' :=
  add_ok0 1 8 (by unfold SZ; omega) 255 1 (by decide) (by decide) w
theorem live_sub (w : World) : Calls Try.prog 15 #[.int .u64 0, .int .u64 1, .bool false, .int .i64 4] w fun e w' =>
      e = .returned (.tuple #[.int .u64 4294967295, fl true true false true false, .int .i64 0]) ∧ Below w.heap.size w w' :=
  sub_ok0 4 32 (by unfold SZ; omega) 0 1 (by decide) (by decide) w

set_option maxHeartbeats 1000000 in
theorem live_calls (w : World) : Calls Try.prog 16 #[] w fun e w' => e = .returned (.bool true) ∧ Below w.heap.size w w' := by
  go_enter Try.func16, Try.ntmps16
  go_wp2_with fail
  (with_reducible refine (live_add _).mono ?_)
  rintro e w1 ⟨rfl, hb1⟩
  obtain ⟨hc1, hf1, hz1⟩ := bcell hb1
  try simp at hz1
  try have hl0_1 : w.heap.size < w1.heap.size := by omega
  try have hm0_1 : w.heap.size + 1 < w1.heap.size := by omega
  have hB1 := Below.trans (B := w.heap.size) (a := w) (by (repeat' (first | (with_reducible exact Below.refl _ _) | (with_reducible assumption) | (with_reducible refine Below.alloc ?_ ?_ _) | (with_reducible refine Below.drew ?_) | (with_reducible refine below_drewN ?_ _) | (with_reducible refine Below.setCell ?_ ?_ _) | (first | (with_reducible exact Nat.le_refl _) | (with_reducible assumption) | omega | (simp; omega) | (simp; done))))) (hb1.mono (by (first | (with_reducible exact Nat.le_refl _) | (with_reducible assumption) | omega | (simp; omega) | (simp; done))))
  clear hb1
  go_wp2_with fail
  (with_reducible refine (live_sub _).mono ?_)
  rintro e w2 ⟨rfl, hb2⟩
  obtain ⟨hc2, hf2, hz2⟩ := bcell hb2
  try simp at hz2
  try have hl0_2 : w.heap.size < w2.heap.size := by omega
  try have hm0_2 : w.heap.size + 1 < w2.heap.size := by omega
  try have hl1_2 : w1.heap.size < w2.heap.size := by omega
  have hB2 := Below.trans (B := w.heap.size) (a := w) (by (repeat' (first | (with_reducible exact Below.refl _ _) | (with_reducible assumption) | (with_reducible refine Below.alloc ?_ ?_ _) | (with_reducible refine Below.drew ?_) | (with_reducible refine below_drewN ?_ _) | (with_reducible refine Below.setCell ?_ ?_ _) | (first | (with_reducible exact Nat.le_refl _) | (with_reducible assumption) | omega | (simp; omega) | (simp; done))))) (hb2.mono (by (first | (with_reducible exact Nat.le_refl _) | (with_reducible assumption) | omega | (simp; omega) | (simp; done))))
  clear hb2
  go_wp2_with ((go_at_call 14; (with_reducible refine (num_calls _ _).mono ?_); rintro e w' ⟨rfl, rfl⟩))
  (first | (refine bodyPost_ret (results_tmp rfl _ _ _) rfl ?_) | (refine bodyPost_ret (results_none rfl _ _ _) rfl ?_) | (refine bodyPost_end (results_none rfl _ _ _) rfl ?_) | go_ret2 | go_ret3)
  exact ⟨rfl, by (repeat' (first | (with_reducible exact Below.refl _ _) | (with_reducible assumption) | (with_reducible refine Below.alloc ?_ ?_ _) | (with_reducible refine Below.drew ?_) | (with_reducible refine below_drewN ?_ _) | (with_reducible refine Below.setCell ?_ ?_ _) | (first | (with_reducible exact Nat.le_refl _) | (with_reducible assumption) | omega | (simp; omega) | (simp; done))))⟩
end Go.Proofs.Ytknopookopfoeaa.AluL
