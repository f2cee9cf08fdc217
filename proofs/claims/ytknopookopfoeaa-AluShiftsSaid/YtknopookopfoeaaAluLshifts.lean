/- The walk of AluShifts. -/
import Derived.Test.YtknopookopfoeaaAluLa
import Derived.Test.YtknopookopfoeaaAluI
import Derived.Test.YtknopookopfoeaaAluRF
namespace Go.Proofs.Ytknopookopfoeaa.AluL
open Go.RowKit Go.Proofs.Ytknopookopfoeaa.AluMath Go.Proofs.Ytknopookopfoeaa.Alu

set_option maxHeartbeats 4000000 in
set_option maxRecDepth 100000 in
theorem shifts_core (op a c size : Int) (C P Z S O : Bool) (x e : Int) (f0 f1 f2 f3 f4 : Bool) (w : World)
    (c1 : ∀ w : World, Calls Try.prog 30 #[.int .i64 op, .int .u64 a, .int .i64 c, fl C P Z S O, .int .i64 size] w fun r w' => r = .returned (.tuple #[.int .u64 x, fl f0 f1 f2 f3 f4, .int .i64 e]) ∧ Below w.heap.size w w')
    (c2 : ∀ w : World, Calls Try.prog 31 #[.int .i64 op, .int .u64 a, .int .i64 c, fl C P Z S O, .int .i64 size] w fun r w' => r = .returned (.tuple #[.int .u64 x, fl f0 f1 f2 f3 f4, .int .i64 e]) ∧ Below w.heap.size w w') :
    Calls Try.prog 7 #[.int .i64 op, .int .u64 a, .int .i64 c, fl C P Z S O, .int .i64 size] w fun e w' => e = .returned (.bool true) ∧ Below w.heap.size w w' := by
  go_enter Try.func7, Try.ntmps7
  go_wp2_with fail
  (with_reducible refine (c1 _).mono ?_)
  rintro e w1 ⟨rfl, hb1⟩
  obtain ⟨hc1, hf1, hz1⟩ := bcell hb1
  try simp at hz1
  try have hl0_1 : w.heap.size < w1.heap.size := by omega
  try have hn0_1 : ¬ w.heap.size = w1.heap.size := by omega
  try have ho0_1 : ¬ w1.heap.size = w.heap.size := by omega
  try have hm0_1 : w.heap.size + 1 < w1.heap.size := by omega
  have hB1 := Below.trans (B := w.heap.size) (a := w) (by (repeat' (first | (with_reducible exact Below.refl _ _) | (with_reducible assumption) | (with_reducible refine Below.alloc ?_ ?_ _) | (with_reducible refine Below.drew ?_) | (with_reducible refine below_drewN ?_ _) | (with_reducible refine Below.setCell ?_ ?_ _) | (first | (with_reducible exact Nat.le_refl _) | (with_reducible assumption) | omega | (simp; omega) | (simp; done))))) (hb1.mono (by (first | (with_reducible exact Nat.le_refl _) | (with_reducible assumption) | omega | (simp; omega) | (simp; done))))
  clear hb1
  go_wp2_with fail
  (with_reducible refine (c2 _).mono ?_)
  rintro e w2 ⟨rfl, hb2⟩
  obtain ⟨hc2, hf2, hz2⟩ := bcell hb2
  try simp at hz2
  try have hl0_2 : w.heap.size < w2.heap.size := by omega
  try have hn0_2 : ¬ w.heap.size = w2.heap.size := by omega
  try have ho0_2 : ¬ w2.heap.size = w.heap.size := by omega
  try have hm0_2 : w.heap.size + 1 < w2.heap.size := by omega
  try have hl1_2 : w1.heap.size < w2.heap.size := by omega
  try have hn1_2 : ¬ w1.heap.size = w2.heap.size := by omega
  try have ho1_2 : ¬ w2.heap.size = w1.heap.size := by omega
  have hB2 := Below.trans (B := w.heap.size) (a := w) (by (repeat' (first | (with_reducible exact Below.refl _ _) | (with_reducible assumption) | (with_reducible refine Below.alloc ?_ ?_ _) | (with_reducible refine Below.drew ?_) | (with_reducible refine below_drewN ?_ _) | (with_reducible refine Below.setCell ?_ ?_ _) | (first | (with_reducible exact Nat.le_refl _) | (with_reducible assumption) | omega | (simp; omega) | (simp; done))))) (hb2.mono (by (first | (with_reducible exact Nat.le_refl _) | (with_reducible assumption) | omega | (simp; omega) | (simp; done))))
  clear hb2
  go_wp2_with (first | (go_at_call 14; (with_reducible refine (num_calls _ _).mono ?_); rintro e w' ⟨rfl, rfl⟩) | (go_at_call 16; (with_reducible refine (live_calls _).mono ?_); rintro e w' ⟨rfl, hb⟩; obtain ⟨hc, hf, hz⟩ := bcell hb; (try simp at hz); (try have hzz : w.heap.size < w'.heap.size := by omega); (try have hzz1 : w.heap.size + 1 < w'.heap.size := by omega); (try have hzz2 : w.heap.size + 2 < w'.heap.size := by omega); have hB := Below.trans (B := w.heap.size) (a := w) (by (repeat' (first | (with_reducible exact Below.refl _ _) | (with_reducible assumption) | (with_reducible refine Below.alloc ?_ ?_ _) | (with_reducible refine Below.drew ?_) | (with_reducible refine below_drewN ?_ _) | (with_reducible refine Below.setCell ?_ ?_ _) | (first | (with_reducible exact Nat.le_refl _) | (with_reducible assumption) | omega | (simp; omega) | (simp; done))))) (hb.mono (by (first | (with_reducible exact Nat.le_refl _) | (with_reducible assumption) | omega | (simp; omega) | (simp; done))))))
  (first | (refine bodyPost_ret (results_tmp rfl _ _ _) rfl ?_) | (refine bodyPost_ret (results_none rfl _ _ _) rfl ?_) | (refine bodyPost_end (results_none rfl _ _ _) rfl ?_) | go_ret2 | go_ret3)
  exact ⟨rfl, by (repeat' (first | (with_reducible exact Below.refl _ _) | (with_reducible assumption) | (with_reducible refine Below.alloc ?_ ?_ _) | (with_reducible refine Below.drew ?_) | (with_reducible refine below_drewN ?_ _) | (with_reducible refine Below.setCell ?_ ?_ _) | (first | (with_reducible exact Nat.le_refl _) | (with_reducible assumption) | omega | (simp; omega) | (simp; done))))⟩

theorem shifts_walk (op : Int) (_w0 : (Lit.int .i64 op).wf = true) (a1 : Int) (w1 : (Lit.int .u64 a1).wf = true) (c : Int) (_w2 : (Lit.int .i64 c).wf = true) (C P Z S O : Bool) (size : Int) (_w4 : (Lit.int .i64 size).wf = true) (w : World) :
    Calls Try.prog 7 #[.int .i64 op, .int .u64 a1, .int .i64 c, fl C P Z S O, .int .i64 size] w fun e w' => e = .returned (.bool true) ∧ Below w.heap.size w w' := by
  obtain ⟨a, rfl, ha⟩ := nat_u64 w1
  rcases sz_or size with h | ⟨n, h⟩
  · exact shifts_core op a c size C P Z S O _ _ _ _ _ _ _ w (sh_no_size op size h a c C P Z S O) (AluR.Shift_no_size op size h a c C P Z S O)
  by_cases hop : op = 17 ∨ op = 18 ∨ op = 19
  · by_cases hc : c < 0 ∨ 255 < c
    · exact shifts_core op a c size C P Z S O _ _ _ _ _ _ _ w (sh_no_count op size n h hop a c hc C P Z S O) (AluR.Shift_no_count op size n h hop a c hc C P Z S O)
    · obtain ⟨k, rfl⟩ : ∃ k : Nat, c = k := ⟨c.toNat, by omega⟩
      have hk : k < 256 := by omega
      have hn := h.cases
      by_cases h0 : shK n k = 0
      · exact shifts_core op a k size C P Z S O _ _ _ _ _ _ _ w (sh0_ok op hop size n h a ha k hk h0 C P Z S O) (fun w => AluR.Shift_by op size n h hop a k hk C P Z S O _ _ _ _ _ _ w (by rw [h0]; exact AluR.sh0_calls op n (by omega) a ha C P Z S O))
      · have hl := shK_lt n k
        rcases hop with rfl | rfl | rfl
        · exact shifts_core 17 a k size C P Z S O _ _ _ _ _ _ _ w (shl_ok size n h a ha k hk h0 C P Z S O) (fun w => AluR.Shift_by 17 size n h (by omega) a k hk C P Z S O _ _ _ _ _ _ w (AluR.shl_calls n hn a ha _ h0 hl C P Z S O))
        · exact shifts_core 18 a k size C P Z S O _ _ _ _ _ _ _ w (shr_ok size n h a ha k hk h0 C P Z S O) (fun w => AluR.Shift_by 18 size n h (by omega) a k hk C P Z S O _ _ _ _ _ _ w (AluR.shr_calls n hn a ha _ h0 hl C P Z S O))
        · exact shifts_core 19 a k size C P Z S O _ _ _ _ _ _ _ w (sar_ok size n h a ha k hk h0 C P Z S O) (fun w => AluR.Shift_by 19 size n h (by omega) a k hk C P Z S O _ _ _ _ _ _ w (AluR.sar_calls n hn a ha _ h0 hl C P Z S O))
  · exact shifts_core op a c size C P Z S O _ _ _ _ _ _ _ w (sh_no_op op size n h hop a c C P Z S O) (AluR.Shift_no_op op size n h hop a c C P Z S O)
end Go.Proofs.Ytknopookopfoeaa.AluL
