/- The reference's Cond, where it refuses. -/
import Derived.Test.YtknopookopfoeaaAluRC
namespace Go.Proofs.Ytknopookopfoeaa.AluR
open Go.RowKit Go.Proofs.Ytknopookopfoeaa.AluMath

set_option maxHeartbeats 1000000 in
theorem Cond_no (c : Int) (hlo : -9223372036854775808 ≤ c) (hhi : c < 9223372036854775808) (h : c < 0 ∨ 15 < c) (C P Z S O : Bool) (w : World) :
    Calls Try.prog 18 #[.int .i64 c, fl C P Z S O] w fun e w' => e = .returned (.tuple #[.bool false, .int .i64 1]) ∧ Below w.heap.size w w' := by
  by_cases h1 : c = -1
  · subst h1
    go_enter Try.func18, Try.ntmps18
    go_wp2
    (first | (refine bodyPost_ret (results_tmp rfl _ _ _) rfl ?_) | (refine bodyPost_ret (results_none rfl _ _ _) rfl ?_) | (refine bodyPost_end (results_none rfl _ _ _) rfl ?_) | go_ret2 | go_ret3)
    exact ⟨rfl, by (repeat' (first | (with_reducible exact Below.refl _ _) | (with_reducible assumption) | (with_reducible refine Below.alloc ?_ ?_ _) | (with_reducible refine Below.drew ?_) | (with_reducible refine below_drewN ?_ _) | (with_reducible refine Below.setCell ?_ ?_ _) | (first | (with_reducible exact Nat.le_refl _) | (with_reducible assumption) | omega | (simp; omega) | (simp; done))))⟩
  have ht : (c < 0 ∧ Int.tdiv c 2 = -((-c) / 2)) ∨ (15 < c ∧ Int.tdiv c 2 = c / 2) := by
    rcases h with h | h
    · refine .inl ⟨h, ?_⟩
      have e : c = -(-c) := by omega
      rw [← Int.tdiv_eq_ediv_of_nonneg (by omega), ← Int.neg_tdiv, ← e]
    · exact .inr ⟨h, Int.tdiv_eq_ediv_of_nonneg (by omega)⟩
  obtain ⟨q, hq, hq'⟩ : ∃ q : Int, wrap64 (Int.tdiv c 2) = q ∧ (q < 0 ∨ 7 < q) := ⟨_, rfl, by unfold wrap64; omega⟩
  clear ht
  have q0 : (q == 0) = false := by simp; omega
  have q1 : (q == 1) = false := by simp; omega
  have q2 : (q == 2) = false := by simp; omega
  have q3 : (q == 3) = false := by simp; omega
  have q4 : (q == 4) = false := by simp; omega
  have q5 : (q == 5) = false := by simp; omega
  have q6 : (q == 6) = false := by simp; omega
  have q7 : (q == 7) = false := by simp; omega
  clear hq' hlo hhi
  rcases h with h | h
  · go_enter Try.func18, Try.ntmps18
    go_wp2
    (first | (refine bodyPost_ret (results_tmp rfl _ _ _) rfl ?_) | (refine bodyPost_ret (results_none rfl _ _ _) rfl ?_) | (refine bodyPost_end (results_none rfl _ _ _) rfl ?_) | go_ret2 | go_ret3)
    exact ⟨rfl, by (repeat' (first | (with_reducible exact Below.refl _ _) | (with_reducible assumption) | (with_reducible refine Below.alloc ?_ ?_ _) | (with_reducible refine Below.drew ?_) | (with_reducible refine below_drewN ?_ _) | (with_reducible refine Below.setCell ?_ ?_ _) | (first | (with_reducible exact Nat.le_refl _) | (with_reducible assumption) | omega | (simp; omega) | (simp; done))))⟩
  · have h' : (0 : Int) ≤ c := by omega
    go_enter Try.func18, Try.ntmps18
    go_wp2
    all_goals
      (first | (refine bodyPost_ret (results_tmp rfl _ _ _) rfl ?_) | (refine bodyPost_ret (results_none rfl _ _ _) rfl ?_) | (refine bodyPost_end (results_none rfl _ _ _) rfl ?_) | go_ret2 | go_ret3)
      exact ⟨rfl, by (repeat' (first | (with_reducible exact Below.refl _ _) | (with_reducible assumption) | (with_reducible refine Below.alloc ?_ ?_ _) | (with_reducible refine Below.drew ?_) | (with_reducible refine below_drewN ?_ _) | (with_reducible refine Below.setCell ?_ ?_ _) | (first | (with_reducible exact Nat.le_refl _) | (with_reducible assumption) | omega | (simp; omega) | (simp; done))))⟩
end Go.Proofs.Ytknopookopfoeaa.AluR
