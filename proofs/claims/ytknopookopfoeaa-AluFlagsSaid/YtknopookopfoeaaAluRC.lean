/- What the reference's Cond, Pack, Unpack, One come to. -/
import Derived.Test.YtknopookopfoeaaAluRB
namespace Go.Proofs.Ytknopookopfoeaa.AluR
open Go.RowKit Go.Proofs.Ytknopookopfoeaa.AluMath

theorem one_calls (b : Bool) (x : Int) (w : World) :
    Calls Try.prog 46 #[.bool b, .int .u64 x] w fun e w' => e = .returned (.int .u64 (if b then x else 0)) ∧ w = w' := by
  cases b
  all_goals
    go_enter Try.func46, Try.ntmps46
    go_wp2
    (first | (refine bodyPost_ret (results_tmp rfl _ _ _) rfl ?_) | (refine bodyPost_ret (results_none rfl _ _ _) rfl ?_) | (refine bodyPost_end (results_none rfl _ _ _) rfl ?_) | go_ret2 | go_ret3)
    exact ⟨rfl, rfl⟩

theorem one_same (b : Bool) (x : Int) (w : World) : Calls Try.prog 46 #[.bool b, .int .u64 x] w fun e w' => e = .returned (.int .u64 (if b then x else 0)) ∧ w' = w := (one_calls b x w).mono fun _ _ h => ⟨h.1, h.2.symm⟩

theorem Pack_calls (C P Z S O : Bool) (w : World) :
    Calls Try.prog 20 #[fl C P Z S O] w fun e w' =>
      e = .returned (.int .u64 ((2 + b2n C + 4 * b2n P + 64 * b2n Z + 128 * b2n S + 2048 * b2n O : Nat) : Int)) ∧ Below w.heap.size w w' := by
  go_enter Try.func20, Try.ntmps20
  go_wp2
  go_quiet ((go_at_call 46; exact Calls.quiet_of_same (one_same _ _ _)))
  go_wp2
  all_goals
    (first | (refine bodyPost_ret (results_tmp rfl _ _ _) rfl ?_) | (refine bodyPost_ret (results_none rfl _ _ _) rfl ?_) | (refine bodyPost_end (results_none rfl _ _ _) rfl ?_) | go_ret2 | go_ret3)
    exact ⟨by simp [*, b2n], by (repeat' (first | (with_reducible exact Below.refl _ _) | (with_reducible assumption) | (with_reducible refine Below.alloc ?_ ?_ _) | (with_reducible refine Below.drew ?_) | (with_reducible refine below_drewN ?_ _) | (with_reducible refine Below.setCell ?_ ?_ _) | (first | (with_reducible exact Nat.le_refl _) | (with_reducible assumption) | omega | (simp; omega) | (simp; done))))⟩

theorem bit_same (x : Nat) (hx : x < M64) (i : Nat) (hi : i < 64) (I : Int) (hI : I = i) (w : World) :
    Calls Try.prog 48 #[.int .u64 (x : Int), .int .i64 I] w fun e w' => e = .returned (.int .i64 ((x / 2 ^ i % 2 : Nat) : Int)) ∧ w = w' := by
  subst hI; exact bit_calls x hx i hi w

theorem Unpack_calls (x : Nat) (hx : x < M64) (w : World) :
    Calls Try.prog 22 #[.int .u64 (x : Int)] w fun e w' =>
      e = .returned (fl (bitB x 0) (bitB x 2) (bitB x 6) (bitB x 7) (bitB x 11)) ∧ Below w.heap.size w w' := by
  have c0 := bit_same x hx 0 (by decide) 0 rfl
  have c2 := bit_same x hx 2 (by decide) 2 rfl
  have c6 := bit_same x hx 6 (by decide) 6 rfl
  have c7 := bit_same x hx 7 (by decide) 7 rfl
  have c11 := bit_same x hx 11 (by decide) 11 rfl
  unfold bitB
  generalize x / 2 ^ 0 % 2 = b0 at *
  generalize x / 2 ^ 2 % 2 = b2 at *
  generalize x / 2 ^ 6 % 2 = b6 at *
  generalize x / 2 ^ 7 % 2 = b7 at *
  generalize x / 2 ^ 11 % 2 = b11 at *
  go_enter Try.func22, Try.ntmps22
  go_wp2_with (first | (go_at_call 48; (with_reducible refine (c0 _).mono ?_); rintro e w' ⟨rfl, rfl⟩) | (go_at_call 48; (with_reducible refine (c2 _).mono ?_); rintro e w' ⟨rfl, rfl⟩) | (go_at_call 48; (with_reducible refine (c6 _).mono ?_); rintro e w' ⟨rfl, rfl⟩) | (go_at_call 48; (with_reducible refine (c7 _).mono ?_); rintro e w' ⟨rfl, rfl⟩) | (go_at_call 48; (with_reducible refine (c11 _).mono ?_); rintro e w' ⟨rfl, rfl⟩))
  refine bodyPost_ret (v := fl ((b0 : Int) == 1) ((b2 : Int) == 1) ((b6 : Int) == 1) ((b7 : Int) == 1) ((b11 : Int) == 1)) (by simp [results, Try.results22, go_sem, *]) rfl ?_
  exact ⟨rfl, by (repeat' (first | (with_reducible exact Below.refl _ _) | (with_reducible assumption) | (with_reducible refine Below.alloc ?_ ?_ _) | (with_reducible refine Below.drew ?_) | (with_reducible refine below_drewN ?_ _) | (with_reducible refine Below.setCell ?_ ?_ _) | (first | (with_reducible exact Nat.le_refl _) | (with_reducible assumption) | omega | (simp; omega) | (simp; done))))⟩

set_option maxHeartbeats 4000000 in
theorem Cond_ok (c : Nat) (hc : c < 16) (C P Z S O : Bool) (w : World) :
    Calls Try.prog 18 #[.int .i64 (c : Int), fl C P Z S O] w fun e w' =>
      e = .returned (.tuple #[.bool (condV c C P Z S O), .int .i64 0]) ∧ Below w.heap.size w w' := by
  have h : c = 0 ∨ c = 1 ∨ c = 2 ∨ c = 3 ∨ c = 4 ∨ c = 5 ∨ c = 6 ∨ c = 7 ∨ c = 8 ∨ c = 9 ∨ c = 10 ∨ c = 11 ∨ c = 12 ∨ c = 13 ∨ c = 14 ∨ c = 15 := by omega
  rcases h with rfl | rfl | rfl | rfl | rfl | rfl | rfl | rfl | rfl | rfl | rfl | rfl | rfl | rfl | rfl | rfl
  all_goals
    go_enter Try.func18, Try.ntmps18
    go_wp2
    all_goals
      (first | (refine bodyPost_ret (results_tmp rfl _ _ _) rfl ?_) | (refine bodyPost_ret (results_none rfl _ _ _) rfl ?_) | (refine bodyPost_end (results_none rfl _ _ _) rfl ?_) | go_ret2 | go_ret3)
      exact ⟨by simp [*, condV, condB] <;> (cases S <;> cases O <;> rfl), by (repeat' (first | (with_reducible exact Below.refl _ _) | (with_reducible assumption) | (with_reducible refine Below.alloc ?_ ?_ _) | (with_reducible refine Below.drew ?_) | (with_reducible refine below_drewN ?_ _) | (with_reducible refine Below.setCell ?_ ?_ _) | (first | (with_reducible exact Nat.le_refl _) | (with_reducible assumption) | omega | (simp; omega) | (simp; done))))⟩
end Go.Proofs.Ytknopookopfoeaa.AluR
