/- What Mul of package alu comes to. -/
import Derived.Test.YtknopookopfoeaaAluC
import Derived.Laws.MathBits
namespace Go.Proofs.Ytknopookopfoeaa.Alu
open Go.RowKit Go.Proofs.Ytknopookopfoeaa.AluMath

theorem mul64_calls (x y h l : Nat) (hx : x < M64) (hy : y < M64) (hh : h = x * y / M64) (hl : l = x * y % M64) (w : World) :
    Calls Try.prog 55 #[.int .u64 (x : Int), .int .u64 (y : Int)] w fun e w' =>
      e = .returned (.tuple #[.int .u64 (h : Int), .int .u64 (l : Int)]) ∧ w = w' := by
  have ex := and_low32 (x : Int) (by omega) (by unfold M64 at hx; omega)
  have ey := and_low32 (y : Int) (by omega) (by unfold M64 at hy; omega)
  have key := mul64_arith (x : Int) (y : Int) (by omega) (by unfold M64 at hx; omega) (by omega) (by unfold M64 at hy; omega)
  have H := hid key
  clear key
  go_enter Try.func55, Try.ntmps55
  go_wp2
  (first | (refine bodyPost_ret (results_tmp rfl _ _ _) rfl ?_) | (refine bodyPost_ret (results_none rfl _ _ _) rfl ?_) | (refine bodyPost_end (results_none rfl _ _ _) rfl ?_) | go_ret2 | go_ret3)
  refine ⟨?_, rfl⟩
  have e1 : (h : Int) = (x : Int) * (y : Int) / 18446744073709551616 := by rw [hh, Int.natCast_ediv, Int.natCast_mul]; rfl
  have e2 : (l : Int) = (x : Int) * (y : Int) % 18446744073709551616 := by rw [hl, Int.natCast_emod, Int.natCast_mul]; rfl
  rw [e1, e2]
  show Ending.returned (Value.tuple #[Value.int .u64 _, Value.int .u64 _]) = _
  congr 4
  · simp only [IntKind.wrap_u64]
    rw [and_low32 _ (by omega) (by omega)]
    exact congrArg _ H.out

set_option maxHeartbeats 1000000 in
theorem mul_core (size : Int) (n : Nat) (hS : SZ size n) (a b : Nat) (w : World) (hn : n = 8 ∨ n = 32 ∨ n = 64) (A B X Y h0 h1 lo R : Nat) (bx by_ q o : Bool)
    (hma : bits .and .u64 (a : Int) ((2 ^ n - 1 : Nat) : Int) = (A : Int)) (hmb : bits .and .u64 (b : Int) ((2 ^ n - 1 : Nat) : Int) = (B : Int))
    (hX : ∀ w : World, Calls Try.prog 53 #[.int .u64 (A : Int), .int .i64 (n : Int)] w fun e w' => e = .returned (.int .u64 (X : Int)) ∧ w = w') (hY : ∀ w : World, Calls Try.prog 53 #[.int .u64 (B : Int), .int .i64 (n : Int)] w fun e w' => e = .returned (.int .u64 (Y : Int)) ∧ w = w')
    (hM : ∀ w : World, Calls Try.prog 55 #[.int .u64 (X : Int), .int .u64 (Y : Int)] w fun e w' => e = .returned (.tuple #[.int .u64 (h0 : Int), .int .u64 (lo : Int)]) ∧ w = w')
    (hbx : decide (wrap64 (X : Int) < 0) = bx) (hby : decide (wrap64 (Y : Int) < 0) = by_)
    (hh : (if by_ then IntKind.u64.wrap ((if bx then IntKind.u64.wrap ((h0 : Int) - (Y : Int)) else (h0 : Int)) - (X : Int)) else (if bx then IntKind.u64.wrap ((h0 : Int) - (Y : Int)) else (h0 : Int))) = (h1 : Int))
    (hml : bits .and .u64 (lo : Int) ((2 ^ n - 1 : Nat) : Int) = (R : Int)) (hR : R < 2 ^ n) (hlo : lo < M64) (hRl : Hid (R = lo % 2 ^ n))
    (hq : ((sext n R : Int) != (lo : Int)) = q) (ho : ((h1 : Int) != IntKind.u64.wrap (wrap64 (lo : Int) / 9223372036854775808)) = o) :
    Calls Try.prog 32 #[.int .u64 (a : Int), .int .u64 (b : Int), .int .i64 size] w fun e w' =>
      e = .returned (.tuple #[.int .u64 (R : Int), flagsV n R (q || o) (q || o), .int .i64 0]) ∧ Below w.heap.size w w' := by
  cases bx <;> cases by_ <;> cases q
  all_goals
    simp only [Bool.false_eq_true, if_false, if_true] at hh
    simp only [Bool.false_or, Bool.true_or]
    go_enter Try.func32, Try.ntmps32
    go_wp2_with (first | (go_at_call 38; (with_reducible refine (of_ok _ n hS _).mono ?_); rintro e w' ⟨rfl, hb⟩; obtain ⟨hc, hf, hz⟩ := bcell hb; (try simp at hz); (try have hzz : w.heap.size < w'.heap.size := by omega); (try have hzz1 : w.heap.size + 1 < w'.heap.size := by omega); (try have hzz2 : w.heap.size + 2 < w'.heap.size := by omega); have hB := Below.trans (B := w.heap.size) (a := w) (by (repeat' (first | (with_reducible exact Below.refl _ _) | (with_reducible assumption) | (with_reducible refine Below.alloc ?_ ?_ _) | (with_reducible refine Below.drew ?_) | (with_reducible refine below_drewN ?_ _) | (with_reducible refine Below.setCell ?_ ?_ _) | (first | (with_reducible exact Nat.le_refl _) | (with_reducible assumption) | omega | (simp; omega) | (simp; done))))) (hb.mono (by (first | (with_reducible exact Nat.le_refl _) | (with_reducible assumption) | omega | (simp; omega) | (simp; done))))) | (go_at_call 40; (with_reducible refine (mask_calls n hn _).mono ?_); rintro e w' ⟨rfl, rfl⟩) | (go_at_call 53; (with_reducible refine (hX _).mono ?_); rintro e w' ⟨rfl, rfl⟩) | (go_at_call 53; (with_reducible refine (hY _).mono ?_); rintro e w' ⟨rfl, rfl⟩) | (go_at_call 53; (with_reducible refine (signed_calls n hn R hR _).mono ?_); rintro e w' ⟨rfl, rfl⟩) | (go_at_call 55; (with_reducible refine (hM _).mono ?_); rintro e w' ⟨rfl, rfl⟩) | (go_at_call 43; (with_reducible refine (told_calls n hn lo R hlo hRl.out _ _ _).mono ?_); rintro e w' ⟨rfl, hb⟩; obtain ⟨hc, hf, hz⟩ := bcell hb; (try simp at hz); (try have hzz : w.heap.size < w'.heap.size := by omega); (try have hzz1 : w.heap.size + 1 < w'.heap.size := by omega); (try have hzz2 : w.heap.size + 2 < w'.heap.size := by omega); have hB := Below.trans (B := w.heap.size) (a := w) (by (repeat' (first | (with_reducible exact Below.refl _ _) | (with_reducible assumption) | (with_reducible refine Below.alloc ?_ ?_ _) | (with_reducible refine Below.drew ?_) | (with_reducible refine below_drewN ?_ _) | (with_reducible refine Below.setCell ?_ ?_ _) | (first | (with_reducible exact Nat.le_refl _) | (with_reducible assumption) | omega | (simp; omega) | (simp; done))))) (hb.mono (by (first | (with_reducible exact Nat.le_refl _) | (with_reducible assumption) | omega | (simp; omega) | (simp; done))))))
    go_outline
    first
      | (refine bodyPost_ret (v := .tuple #[.int .u64 (R : Nat), flagsV n R o o, .int .i64 0]) (by simp [results, Try.results32, go_sem, *]) rfl ?_
         exact ⟨rfl, by (repeat' (first | (with_reducible exact Below.refl _ _) | (with_reducible assumption) | (with_reducible refine Below.alloc ?_ ?_ _) | (with_reducible refine Below.drew ?_) | (with_reducible refine below_drewN ?_ _) | (with_reducible refine Below.setCell ?_ ?_ _) | (first | (with_reducible exact Nat.le_refl _) | (with_reducible assumption) | omega | (simp; omega) | (simp; done))))⟩)
      | (refine bodyPost_ret (v := .tuple #[.int .u64 (R : Nat), flagsV n R true true, .int .i64 0]) (by simp [results, Try.results32, go_sem, *]) rfl ?_
         exact ⟨rfl, by (repeat' (first | (with_reducible exact Below.refl _ _) | (with_reducible assumption) | (with_reducible refine Below.alloc ?_ ?_ _) | (with_reducible refine Below.drew ?_) | (with_reducible refine below_drewN ?_ _) | (with_reducible refine Below.setCell ?_ ?_ _) | (first | (with_reducible exact Nat.le_refl _) | (with_reducible assumption) | omega | (simp; omega) | (simp; done))))⟩)
end Go.Proofs.Ytknopookopfoeaa.Alu
