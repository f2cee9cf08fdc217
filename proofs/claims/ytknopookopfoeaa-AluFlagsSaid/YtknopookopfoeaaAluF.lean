/- What Pack and Unpack of package alu come to. -/
import Derived.Test.YtknopookopfoeaaAluC
namespace Go.Proofs.Ytknopookopfoeaa.Alu
open Go.RowKit Go.Proofs.Ytknopookopfoeaa.AluMath

theorem one_same (b : Bool) (w : World) : Calls Try.prog 42 #[.bool b] w fun e w' => e = .returned (.int .u64 (b2n b : Int)) ∧ w' = w := (one_calls b w).mono fun _ _ h => ⟨h.1, h.2.symm⟩

theorem pack_calls (C P Z S O : Bool) (w : World) :
    Calls Try.prog 19 #[fl C P Z S O] w fun e w' =>
      e = .returned (.int .u64 ((2 + b2n C + 4 * b2n P + 64 * b2n Z + 128 * b2n S + 2048 * b2n O : Nat) : Int)) ∧ Below w.heap.size w w' := by
  go_enter Try.func19, Try.ntmps19
  go_wp2
  go_quiet ((go_at_call 42; exact Calls.quiet_of_same (one_same _ _)))
  go_wp2
  (first | (refine bodyPost_ret (results_tmp rfl _ _ _) rfl ?_) | (refine bodyPost_ret (results_none rfl _ _ _) rfl ?_) | (refine bodyPost_end (results_none rfl _ _ _) rfl ?_) | go_ret2 | go_ret3)
  refine ⟨?_, by (repeat' (first | (with_reducible exact Below.refl _ _) | (with_reducible assumption) | (with_reducible refine Below.alloc ?_ ?_ _) | (with_reducible refine Below.drew ?_) | (with_reducible refine below_drewN ?_ _) | (with_reducible refine Below.setCell ?_ ?_ _) | (first | (with_reducible exact Nat.le_refl _) | (with_reducible assumption) | omega | (simp; omega) | (simp; done))))⟩
  cases C <;> cases P <;> cases Z <;> cases S <;> cases O <;> rfl


theorem unpack_calls (x : Nat) (hx : x < M64) (w : World) :
    Calls Try.prog 21 #[.int .u64 (x : Int)] w fun e w' =>
      e = .returned (fl (bitB x 0) (bitB x 2) (bitB x 6) (bitB x 7) (bitB x 11)) ∧ Below w.heap.size w w' := by
  have h0 : (bits .and .u64 (x : Int) 1 == 1) = bitB x 0 := by rw [and1_u64 x hx]; simp [bitB]
  have h2 : (bits .and .u64 ((x : Int) / 4) 1 == 1) = bitB x 2 := by rw [bit_eq x 4 4 rfl hx]; rfl
  have h6 : (bits .and .u64 ((x : Int) / 64) 1 == 1) = bitB x 6 := by rw [bit_eq x 64 64 rfl hx]; rfl
  have h7 : (bits .and .u64 ((x : Int) / 128) 1 == 1) = bitB x 7 := by rw [bit_eq x 128 128 rfl hx]; rfl
  have h11 : (bits .and .u64 ((x : Int) / 2048) 1 == 1) = bitB x 11 := by rw [bit_eq x 2048 2048 rfl hx]; rfl
  go_enter Try.func21, Try.ntmps21
  go_wp2
  refine bodyPost_ret (v := fl (bitB x 0) (bitB x 2) (bitB x 6) (bitB x 7) (bitB x 11)) (by simp [results, Try.results21, go_sem, *]) rfl ?_
  exact ⟨rfl, by (repeat' (first | (with_reducible exact Below.refl _ _) | (with_reducible assumption) | (with_reducible refine Below.alloc ?_ ?_ _) | (with_reducible refine Below.drew ?_) | (with_reducible refine below_drewN ?_ _) | (with_reducible refine Below.setCell ?_ ?_ _) | (first | (with_reducible exact Nat.le_refl _) | (with_reducible assumption) | omega | (simp; omega) | (simp; done))))⟩
end Go.Proofs.Ytknopookopfoeaa.Alu
