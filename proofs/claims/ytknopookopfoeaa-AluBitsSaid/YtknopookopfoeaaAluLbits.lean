/- The walk of AluBits. -/
import Derived.Test.YtknopookopfoeaaAluLa
import Derived.Test.YtknopookopfoeaaAluD
import Derived.Test.YtknopookopfoeaaAluRD
namespace Go.Proofs.Ytknopookopfoeaa.AluL
open Go.RowKit Go.Proofs.Ytknopookopfoeaa.AluMath Go.Proofs.Ytknopookopfoeaa.Alu

set_option maxHeartbeats 4000000 in
set_option maxRecDepth 100000 in
theorem bits_core (op a b size : Int) (C P Z S O : Bool) (x u e j : Int) (f0 f1 f2 f3 f4 g0 g1 g2 g3 g4 : Bool) (w : World)
    (c1 : ∀ w : World, Calls Try.prog 35 #[.int .i64 op, .int .u64 a, .int .u64 b, .int .i64 size] w fun r w' => r = .returned (.tuple #[.int .u64 x, fl f0 f1 f2 f3 f4, .int .i64 e]) ∧ Below w.heap.size w w')
    (c2 : ∀ w : World, Calls Try.prog 36 #[.int .i64 op, .int .u64 a, .int .u64 b, .int .i64 size] w fun r w' => r = .returned (.tuple #[.int .u64 x, fl f0 f1 f2 f3 f4, .int .i64 e]) ∧ Below w.heap.size w w')
    (c3 : ∀ w : World, Calls Try.prog 34 #[.int .i64 op, .int .u64 a, fl C P Z S O, .int .i64 size] w fun r w' => r = .returned (.tuple #[.int .u64 u, fl g0 g1 g2 g3 g4, .int .i64 j]) ∧ Below w.heap.size w w')
    (c4 : ∀ w : World, Calls Try.prog 37 #[.int .i64 op, .int .u64 a, fl C P Z S O, .int .i64 size] w fun r w' => r = .returned (.tuple #[.int .u64 u, fl g0 g1 g2 g3 g4, .int .i64 j]) ∧ Below w.heap.size w w') :
    Calls Try.prog 10 #[.int .i64 op, .int .u64 a, .int .u64 b, fl C P Z S O, .int .i64 size] w fun e w' => e = .returned (.bool true) ∧ Below w.heap.size w w' := by
  go_enter Try.func10, Try.ntmps10
  go_wp2_with fail
  (with_reducible refine (c1 _).mono ?_)
  rintro e w1 ⟨rfl, hb1⟩
  obtain ⟨hc1, hf1, hz1⟩ := bcell hb1
  try simp at hz1
  try have hl0_1 : w.heap.size < w1.heap.size := by omega
  try have hn0_1 : ¬ w.heap.size = w1.heap.size := by omega
  try have ho0_1 : ¬ w1.heap.size = w.heap.size := by omega
  try have hm0_1 : w.heap.size + 1 < w1.heap.size := by omega
  have hB1 := Below.trans (B := w.heap.size) (a := w) (by (repeat' (first | (with_reducible exact Below.refl _ _) | (with_reducible assumption) | (with_reducible refine Below.alloc ?_ ?_ _) | (with_reducible refine Below.drew ?_) | (with_reducible refine below_drewN ?_ _) | (with_reducible refine Below.setCell ?_ ?_ _) | (first | (with_reducible exact Nat.le_refl _) | (with_reducible assumption) | omega | (simp; omega) | (simp; done))))) (hb1.mono (by (first | (with_reducible exact Nat.le_refl _) | (with_reducible assumption) | omega | (simp; omega) | (simp; done))))
  clear hb1
  go_wp2_with fail
  (with_reducible refine (c2 _).mono ?_)
  rintro e w2 ⟨rfl, hb2⟩
  obtain ⟨hc2, hf2, hz2⟩ := bcell hb2
  try simp at hz2
  try have hl0_2 : w.heap.size < w2.heap.size := by omega
  try have hn0_2 : ¬ w.heap.size = w2.heap.size := by omega
  try have ho0_2 : ¬ w2.heap.size = w.heap.size := by omega
  try have hm0_2 : w.heap.size + 1 < w2.heap.size := by omega
  try have hl1_2 : w1.heap.size < w2.heap.size := by omega
  try have hn1_2 : ¬ w1.heap.size = w2.heap.size := by omega
  try have ho1_2 : ¬ w2.heap.size = w1.heap.size := by omega
  have hB2 := Below.trans (B := w.heap.size) (a := w) (by (repeat' (first | (with_reducible exact Below.refl _ _) | (with_reducible assumption) | (with_reducible refine Below.alloc ?_ ?_ _) | (with_reducible refine Below.drew ?_) | (with_reducible refine below_drewN ?_ _) | (with_reducible refine Below.setCell ?_ ?_ _) | (first | (with_reducible exact Nat.le_refl _) | (with_reducible assumption) | omega | (simp; omega) | (simp; done))))) (hb2.mono (by (first | (with_reducible exact Nat.le_refl _) | (with_reducible assumption) | omega | (simp; omega) | (simp; done))))
  clear hb2
  go_wp2_with fail
  (with_reducible refine (c3 _).mono ?_)
  rintro e w3 ⟨rfl, hb3⟩
  obtain ⟨hc3, hf3, hz3⟩ := bcell hb3
  try simp at hz3
  try have hl0_3 : w.heap.size < w3.heap.size := by omega
  try have hn0_3 : ¬ w.heap.size = w3.heap.size := by omega
  try have ho0_3 : ¬ w3.heap.size = w.heap.size := by omega
  try have hm0_3 : w.heap.size + 1 < w3.heap.size := by omega
  try have hl1_3 : w1.heap.size < w3.heap.size := by omega
  try have hn1_3 : ¬ w1.heap.size = w3.heap.size := by omega
  try have ho1_3 : ¬ w3.heap.size = w1.heap.size := by omega
  try have hl2_3 : w2.heap.size < w3.heap.size := by omega
  try have hn2_3 : ¬ w2.heap.size = w3.heap.size := by omega
  try have ho2_3 : ¬ w3.heap.size = w2.heap.size := by omega
  have hB3 := Below.trans (B := w.heap.size) (a := w) (by (repeat' (first | (with_reducible exact Below.refl _ _) | (with_reducible assumption) | (with_reducible refine Below.alloc ?_ ?_ _) | (with_reducible refine Below.drew ?_) | (with_reducible refine below_drewN ?_ _) | (with_reducible refine Below.setCell ?_ ?_ _) | (first | (with_reducible exact Nat.le_refl _) | (with_reducible assumption) | omega | (simp; omega) | (simp; done))))) (hb3.mono (by (first | (with_reducible exact Nat.le_refl _) | (with_reducible assumption) | omega | (simp; omega) | (simp; done))))
  clear hb3
  go_wp2_with fail
  (with_reducible refine (c4 _).mono ?_)
  rintro e w4 ⟨rfl, hb4⟩
  obtain ⟨hc4, hf4, hz4⟩ := bcell hb4
  try simp at hz4
  try have hl0_4 : w.heap.size < w4.heap.size := by omega
  try have hn0_4 : ¬ w.heap.size = w4.heap.size := by omega
  try have ho0_4 : ¬ w4.heap.size = w.heap.size := by omega
  try have hm0_4 : w.heap.size + 1 < w4.heap.size := by omega
  try have hl1_4 : w1.heap.size < w4.heap.size := by omega
  try have hn1_4 : ¬ w1.heap.size = w4.heap.size := by omega
  try have ho1_4 : ¬ w4.heap.size = w1.heap.size := by omega
  try have hl2_4 : w2.heap.size < w4.heap.size := by omega
  try have hn2_4 : ¬ w2.heap.size = w4.heap.size := by omega
  try have ho2_4 : ¬ w4.heap.size = w2.heap.size := by omega
  try have hl3_4 : w3.heap.size < w4.heap.size := by omega
  try have hn3_4 : ¬ w3.heap.size = w4.heap.size := by omega
  try have ho3_4 : ¬ w4.heap.size = w3.heap.size := by omega
  have hB4 := Below.trans (B := w.heap.size) (a := w) (by (repeat' (first | (with_reducible exact Below.refl _ _) | (with_reducible assumption) | (with_reducible refine Below.alloc ?_ ?_ _) | (with_reducible refine Below.drew ?_) | (with_reducible refine below_drewN ?_ _) | (with_reducible refine Below.setCell ?_ ?_ _) | (first | (with_reducible exact Nat.le_refl _) | (with_reducible assumption) | omega | (simp; omega) | (simp; done))))) (hb4.mono (by (first | (with_reducible exact Nat.le_refl _) | (with_reducible assumption) | omega | (simp; omega) | (simp; done))))
  clear hb4
  go_wp2_with (first | (go_at_call 14; (with_reducible refine (num_calls _ _).mono ?_); rintro e w' ⟨rfl, rfl⟩) | (go_at_call 16; (with_reducible refine (live_calls _).mono ?_); rintro e w' ⟨rfl, hb⟩; obtain ⟨hc, hf, hz⟩ := bcell hb; (try simp at hz); (try have hzz : w.heap.size < w'.heap.size := by omega); (try have hzz1 : w.heap.size + 1 < w'.heap.size := by omega); (try have hzz2 : w.heap.size + 2 < w'.heap.size := by omega); have hB := Below.trans (B := w.heap.size) (a := w) (by (repeat' (first | (with_reducible exact Below.refl _ _) | (with_reducible assumption) | (with_reducible refine Below.alloc ?_ ?_ _) | (with_reducible refine Below.drew ?_) | (with_reducible refine below_drewN ?_ _) | (with_reducible refine Below.setCell ?_ ?_ _) | (first | (with_reducible exact Nat.le_refl _) | (with_reducible assumption) | omega | (simp; omega) | (simp; done))))) (hb.mono (by (first | (with_reducible exact Nat.le_refl _) | (with_reducible assumption) | omega | (simp; omega) | (simp; done))))))
  (first | (refine bodyPost_ret (results_tmp rfl _ _ _) rfl ?_) | (refine bodyPost_ret (results_none rfl _ _ _) rfl ?_) | (refine bodyPost_end (results_none rfl _ _ _) rfl ?_) | go_ret2 | go_ret3)
  exact ⟨rfl, by (repeat' (first | (with_reducible exact Below.refl _ _) | (with_reducible assumption) | (with_reducible refine Below.alloc ?_ ?_ _) | (with_reducible refine Below.drew ?_) | (with_reducible refine below_drewN ?_ _) | (with_reducible refine Below.setCell ?_ ?_ _) | (first | (with_reducible exact Nat.le_refl _) | (with_reducible assumption) | omega | (simp; omega) | (simp; done))))⟩

theorem bits_walk (op : Int) (_w0 : (Lit.int .i64 op).wf = true) (a1 : Int) (w1 : (Lit.int .u64 a1).wf = true) (a2 : Int) (w2 : (Lit.int .u64 a2).wf = true) (C P Z S O : Bool) (size : Int) (_w4 : (Lit.int .i64 size).wf = true) (w : World) :
    Calls Try.prog 10 #[.int .i64 op, .int .u64 a1, .int .u64 a2, fl C P Z S O, .int .i64 size] w fun e w' => e = .returned (.bool true) ∧ Below w.heap.size w w' := by
  obtain ⟨a, rfl, ha⟩ := nat_u64 w1
  obtain ⟨b, rfl, hb⟩ := nat_u64 w2
  rcases sz_or size with h | ⟨n, h⟩
  · exact bits_core op a b size C P Z S O _ _ _ _ _ _ _ _ _ _ _ _ _ _ w (logic_no_size op size h a b) (AluR.Logic_no_size op size h a b) (one_no_size op size h a C P Z S O) (AluR.One_no_size op size h a C P Z S O)
  · have one : ∃ (u j : Int) (g0 g1 g2 g3 g4 : Bool),
        (∀ w : World, Calls Try.prog 34 #[.int .i64 op, .int .u64 (a : Int), fl C P Z S O, .int .i64 size] w fun r w' => r = .returned (.tuple #[.int .u64 u, fl g0 g1 g2 g3 g4, .int .i64 j]) ∧ Below w.heap.size w w') ∧
        (∀ w : World, Calls Try.prog 37 #[.int .i64 op, .int .u64 (a : Int), fl C P Z S O, .int .i64 size] w fun r w' => r = .returned (.tuple #[.int .u64 u, fl g0 g1 g2 g3 g4, .int .i64 j]) ∧ Below w.heap.size w w') := by
      by_cases ho : OneOp op
      · rcases ho with rfl | rfl | rfl | rfl
        · exact ⟨_, _, _, _, _, _, _, one_neg size n h a ha C P Z S O, AluR.One_neg size n h a ha C P Z S O⟩
        · exact ⟨_, _, _, _, _, _, _, one_not size n h a ha C P Z S O, AluR.One_not size n h a ha C P Z S O⟩
        · exact ⟨_, _, _, _, _, _, _, one_inc size n h a ha C P Z S O, AluR.One_inc size n h a ha C P Z S O⟩
        · exact ⟨_, _, _, _, _, _, _, one_dec size n h a ha C P Z S O, AluR.One_dec size n h a ha C P Z S O⟩
      · exact ⟨_, _, _, _, _, _, _, one_no_op op size n h ho a C P Z S O, AluR.One_no_op op size n h ho a C P Z S O⟩
    obtain ⟨u, j, g0, g1, g2, g3, g4, o1, o2⟩ := one
    cases hv : logV op a b with
    | none => exact bits_core op a b size C P Z S O _ u _ j _ _ _ _ _ g0 g1 g2 g3 g4 w (logic_no_op op size n h a b hv) (AluR.Logic_no_op op size n h a b hv) o1 o2
    | some v => exact bits_core op a b size C P Z S O _ u _ j _ _ _ _ _ g0 g1 g2 g3 g4 w (logic_ok op size n h a b v ha hb hv) (AluR.Logic_ok op size n h a b v ha hb hv) o1 o2
end Go.Proofs.Ytknopookopfoeaa.AluL
