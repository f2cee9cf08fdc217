/- The walk of AluOrder: behind a comparison the conditions say the order. -/
import Derived.Test.YtknopookopfoeaaAluLa
import Derived.Test.YtknopookopfoeaaAluE
namespace Go.Proofs.Ytknopookopfoeaa.AluL
open Go.RowKit Go.Proofs.Ytknopookopfoeaa.AluMath Go.Proofs.Ytknopookopfoeaa.Alu

theorem condV_even (k : Nat) (C P Z S O : Bool) : condV (2 * k) C P Z S O = condB k C P Z S O := by
  unfold condV
  rw [show 2 * k / 2 = k by omega, show 2 * k % 2 = 0 by omega]
  cases condB k C P Z S O <;> rfl
theorem condV_odd (k : Nat) (C P Z S O : Bool) : condV (2 * k + 1) C P Z S O = !condB k C P Z S O := by
  unfold condV
  rw [show (2 * k + 1) / 2 = k by omega, show (2 * k + 1) % 2 = 1 by omega]
  cases condB k C P Z S O <;> rfl

set_option maxHeartbeats 1000000 in
theorem holds_calls (k : Nat) (hk : k < 8) (K : Int) (hK : K = ((2 * k : Nat) : Int)) (C P Z S O V : Bool) (hV : V = condB k C P Z S O) (w : World) :
    Calls Try.prog 29 #[.int .i64 K, fl C P Z S O] w fun e w' => e = .returned (.bool V) ∧ Below w.heap.size w w' := by
  have c1 := cond_ok (2 * k) (by omega) C P Z S O
  have c2 := cond_ok (2 * k + 1) (by omega) C P Z S O
  rw [condV_even, ← hV, ← hK] at c1
  rw [condV_odd, ← hV, show (((2 * k + 1 : Nat)) : Int) = K + 1 by rw [hK]; rfl] at c2
  have b1 : 0 ≤ K := by omega
  have b2 : K ≤ 14 := by omega
  clear hK hV
  cases V
  all_goals
    go_enter Try.func29, Try.ntmps29
    go_wp2_with fail
    (with_reducible refine (c1 _).mono ?_)
    rintro e w1 ⟨rfl, hb1⟩
    obtain ⟨hc1, hf1, hz1⟩ := bcell hb1
    try simp at hz1
    try have hl0_1 : w.heap.size < w1.heap.size := by omega
    try have hn0_1 : ¬ w.heap.size = w1.heap.size := by omega
    try have ho0_1 : ¬ w1.heap.size = w.heap.size := by omega
    try have hm0_1 : w.heap.size + 1 < w1.heap.size := by omega
    have hB1 := Below.trans (B := w.heap.size) (a := w) (by (repeat' (first | (with_reducible exact Below.refl _ _) | (with_reducible assumption) | (with_reducible refine Below.alloc ?_ ?_ _) | (with_reducible refine Below.drew ?_) | (with_reducible refine below_drewN ?_ _) | (with_reducible refine Below.setCell ?_ ?_ _) | (first | (with_reducible exact Nat.le_refl _) | (with_reducible assumption) | omega | (simp; omega) | (simp; done))))) (hb1.mono (by (first | (with_reducible exact Nat.le_refl _) | (with_reducible assumption) | omega | (simp; omega) | (simp; done))))
    clear hb1
    go_wp2_with fail
    (with_reducible refine (c2 _).mono ?_)
    rintro e w2 ⟨rfl, hb2⟩
    obtain ⟨hc2, hf2, hz2⟩ := bcell hb2
    try simp at hz2
    try have hl0_2 : w.heap.size < w2.heap.size := by omega
    try have hn0_2 : ¬ w.heap.size = w2.heap.size := by omega
    try have ho0_2 : ¬ w2.heap.size = w.heap.size := by omega
    try have hm0_2 : w.heap.size + 1 < w2.heap.size := by omega
    try have hl1_2 : w1.heap.size < w2.heap.size := by omega
    try have hn1_2 : ¬ w1.heap.size = w2.heap.size := by omega
    try have ho1_2 : ¬ w2.heap.size = w1.heap.size := by omega
    have hB2 := Below.trans (B := w.heap.size) (a := w) (by (repeat' (first | (with_reducible exact Below.refl _ _) | (with_reducible assumption) | (with_reducible refine Below.alloc ?_ ?_ _) | (with_reducible refine Below.drew ?_) | (with_reducible refine below_drewN ?_ _) | (with_reducible refine Below.setCell ?_ ?_ _) | (first | (with_reducible exact Nat.le_refl _) | (with_reducible assumption) | omega | (simp; omega) | (simp; done))))) (hb2.mono (by (first | (with_reducible exact Nat.le_refl _) | (with_reducible assumption) | omega | (simp; omega) | (simp; done))))
    clear hb2
    go_wp2_with ((go_at_call 14; (with_reducible refine (num_calls _ _).mono ?_); rintro e w' ⟨rfl, rfl⟩))
    (first | (refine bodyPost_ret (results_tmp rfl _ _ _) rfl ?_) | (refine bodyPost_ret (results_none rfl _ _ _) rfl ?_) | (refine bodyPost_end (results_none rfl _ _ _) rfl ?_) | go_ret2 | go_ret3)
    exact ⟨rfl, by (repeat' (first | (with_reducible exact Below.refl _ _) | (with_reducible assumption) | (with_reducible refine Below.alloc ?_ ?_ _) | (with_reducible refine Below.drew ?_) | (with_reducible refine below_drewN ?_ _) | (with_reducible refine Below.setCell ?_ ?_ _) | (first | (with_reducible exact Nat.le_refl _) | (with_reducible assumption) | omega | (simp; omega) | (simp; done))))⟩

/-- A trimmed number with its sign. -/
def sI (n x : Nat) : Int := if topB n x then (x : Int) - 2 ^ n else x
theorem sI_eq (n x : Nat) (hn : n = 8 ∨ n = 32 ∨ n = 64) (hx : x < 2 ^ n) : wrap64 (sext n x : Int) = sI n x := by
  unfold wrap64 sext sI topB M64
  rcases hn with rfl | rfl | rfl
  all_goals
    simp only [beq_iff_eq]
    split <;> simp at * <;> omega

theorem order_lt (n A B : Nat) (_hn : n = 8 ∨ n = 32 ∨ n = 64) (hA : A < 2 ^ n) (hB : B < 2 ^ n) (r : Nat) (hr : r = (A + 2 ^ n - B) % 2 ^ n) :
    (zB r = decide (A = B)) ∧ (condB 3 (decide (A < B)) false (zB r) false false = decide (A ≤ B)) := by
  have h : r = 0 ↔ A = B := by
    rcases Nat.lt_or_ge A B with h | h
    · rw [Nat.mod_eq_of_lt (by omega)] at hr; omega
    · rw [show A + 2 ^ n - B = (A - B) + 2 ^ n by omega, Nat.add_mod_right, Nat.mod_eq_of_lt (by omega)] at hr; omega
  have hz : zB r = decide (A = B) := by
    unfold zB
    rw [Bool.eq_iff_iff, beq_iff_eq, decide_eq_true_eq, ← h]
    omega
  refine ⟨hz, ?_⟩
  rw [hz]
  show (decide (A < B) || decide (A = B)) = _
  rw [Bool.eq_iff_iff]
  simp
  omega

theorem order_signed (n A B : Nat) (hn : n = 8 ∨ n = 32 ∨ n = 64) (hA : A < 2 ^ n) (hB : B < 2 ^ n) (r : Nat) (hr : r = (A + 2 ^ n - B) % 2 ^ n) :
    (topB n r != oSub n A B r) = decide (sI n A < sI n B) := by
  unfold oSub sI topB
  rw [Bool.eq_iff_iff]
  have hx : A / 2 ^ (n - 1) % 2 = 0 ∨ A / 2 ^ (n - 1) % 2 = 1 := by omega
  have hy : B / 2 ^ (n - 1) % 2 = 0 ∨ B / 2 ^ (n - 1) % 2 = 1 := by omega
  have hz : r / 2 ^ (n - 1) % 2 = 0 ∨ r / 2 ^ (n - 1) % 2 = 1 := by omega
  rcases hn with rfl | rfl | rfl
  all_goals
    simp only [Nat.add_one_sub_one, Nat.reducePow] at *
    rcases hx with hx | hx <;> rcases hy with hy | hy <;> rcases hz with hz | hz <;> simp [hx, hy, hz] <;> omega

set_option maxHeartbeats 4000000 in
set_option maxRecDepth 100000 in
theorem order_ok (size : Int) (n : Nat) (hS : SZ size n) (a b : Nat) (ha : a < M64) (hb : b < M64) (w : World) :
    Calls Try.prog 6 #[.int .u64 (a : Int), .int .u64 (b : Int), .int .i64 size] w fun e w' => e = .returned (.bool true) ∧ Below w.heap.size w w' := by
  have hn := hS.cases
  have c1 := sub_ok0 size n hS a b ha hb
  have c2 := trim_ok size n hS a ha
  have c3 := trim_ok size n hS b hb
  have c4 := extend_ok size n hS a ha
  have c5 := extend_ok size n hS b hb
  have hA : a % 2 ^ n < 2 ^ n := Nat.mod_lt _ (Nat.two_pow_pos n)
  have hB : b % 2 ^ n < 2 ^ n := Nat.mod_lt _ (Nat.two_pow_pos n)
  have sA := sI_eq n _ hn hA
  have sB := sI_eq n _ hn hB
  have hC : difC n a b 0 = decide (a % 2 ^ n < b % 2 ^ n) := by unfold difC; rw [Nat.add_zero]
  have hO : difO n a b 0 = oSub n (a % 2 ^ n) (b % 2 ^ n) (difR n a b 0) := rfl
  have hr : difR n a b 0 = (a % 2 ^ n + 2 ^ n - b % 2 ^ n) % 2 ^ n := by unfold difR; rw [Nat.sub_zero]
  unfold flagsV at c1
  rw [hC, hO] at c1
  generalize difR n a b 0 = r at *
  generalize a % 2 ^ n = A at *
  generalize b % 2 ^ n = B at *
  obtain ⟨z1, z2⟩ := order_lt n A B hn hA hB r hr
  have z3 := order_signed n A B hn hA hB r hr
  have z4 : condB 7 (decide (A < B)) false (zB r) (topB n r) (oSub n A B r) = decide (sI n A ≤ sI n B) := by
    show (zB r || (topB n r != oSub n A B r)) = _
    rw [z1, z3, Bool.eq_iff_iff]
    have inj : A = B ↔ sI n A = sI n B := by
      have e1 : (sI n A = A ∨ sI n A = A - 2 ^ n) := by unfold sI; split <;> simp
      have e2 : (sI n B = B ∨ sI n B = B - 2 ^ n) := by unfold sI; split <;> simp
      have e3 : ((2 ^ n : Nat) : Int) = 2 ^ n := by simp
      constructor
      · rintro rfl; rfl
      · intro h; omega
    simp
    omega
  have z5 : condB 3 (decide (A < B)) (parB (r % 256)) (zB r) (topB n r) (oSub n A B r) = decide (A ≤ B) := z2
  obtain ⟨p1, e1⟩ : ∃ p, p = parB (r % 256) := ⟨_, rfl⟩
  obtain ⟨O, e3⟩ : ∃ p, p = oSub n A B r := ⟨_, rfl⟩
  obtain ⟨S, e4⟩ : ∃ p, p = topB n r := ⟨_, rfl⟩
  obtain ⟨Z, e5⟩ : ∃ p, p = zB r := ⟨_, rfl⟩
  obtain ⟨L, e6⟩ : ∃ p, p = decide (A < B) := ⟨_, rfl⟩
  rw [← e1, ← e3, ← e4, ← e5, ← e6] at c1
  rw [← e3, ← e4] at z3
  rw [← e1, ← e3, ← e4, ← e5, ← e6] at z5
  rw [← e3, ← e4, ← e5, ← e6] at z4
  rw [← e5] at z1
  have k1 := holds_calls 1 (by decide) 2 rfl L p1 Z S O (decide (A < B)) e6.symm
  have k3 := holds_calls 3 (by decide) 6 rfl L p1 Z S O (decide (A ≤ B)) z5.symm
  obtain ⟨E, hE⟩ : ∃ E, E = decide (A = B) := ⟨_, rfl⟩
  have hE1 : ((A : Int) == (B : Int)) = E := by rw [hE, Bool.eq_iff_iff, beq_iff_eq, decide_eq_true_eq]; omega
  have hE2 : (A == B) = E := by rw [hE, Bool.eq_iff_iff, beq_iff_eq, decide_eq_true_eq]
  have k2 := holds_calls 2 (by decide) 4 rfl L p1 Z S O E (hE.trans z1.symm)
  clear hE
  have k6 := holds_calls 6 (by decide) 12 rfl L p1 Z S O (decide (sI n A < sI n B)) z3.symm
  have k7 := holds_calls 7 (by decide) 14 rfl L p1 Z S O (decide (sI n A ≤ sI n B)) z4.symm
  clear z1 z2 z3 z4 z5 e1 e3 e4 e5 hr hC hO hA hB ha hb hS hn
  generalize sext n A = X at *
  generalize sext n B = Y at *
  generalize sI n A = s at *
  generalize sI n B = t at *
  clear e6
  go_enter Try.func6, Try.ntmps6
  go_wp2_with fail
  (with_reducible refine (c1 _).mono ?_)
  rintro e w1 ⟨rfl, hb1⟩
  obtain ⟨hc1, hf1, hz1⟩ := bcell hb1
  try simp at hz1
  try have hl0_1 : w.heap.size < w1.heap.size := by omega
  try have hn0_1 : ¬ w.heap.size = w1.heap.size := by omega
  try have ho0_1 : ¬ w1.heap.size = w.heap.size := by omega
  try have hm0_1 : w.heap.size + 1 < w1.heap.size := by omega
  have hB1 := Below.trans (B := w.heap.size) (a := w) (by (repeat' (first | (with_reducible exact Below.refl _ _) | (with_reducible assumption) | (with_reducible refine Below.alloc ?_ ?_ _) | (with_reducible refine Below.drew ?_) | (with_reducible refine below_drewN ?_ _) | (with_reducible refine Below.setCell ?_ ?_ _) | (first | (with_reducible exact Nat.le_refl _) | (with_reducible assumption) | omega | (simp; omega) | (simp; done))))) (hb1.mono (by (first | (with_reducible exact Nat.le_refl _) | (with_reducible assumption) | omega | (simp; omega) | (simp; done))))
  clear hb1
  go_wp2_with fail
  (with_reducible refine (c2 _).mono ?_)
  rintro e w2 ⟨rfl, hb2⟩
  obtain ⟨hc2, hf2, hz2⟩ := bcell hb2
  try simp at hz2
  try have hl0_2 : w.heap.size < w2.heap.size := by omega
  try have hn0_2 : ¬ w.heap.size = w2.heap.size := by omega
  try have ho0_2 : ¬ w2.heap.size = w.heap.size := by omega
  try have hm0_2 : w.heap.size + 1 < w2.heap.size := by omega
  try have hl1_2 : w1.heap.size < w2.heap.size := by omega
  try have hn1_2 : ¬ w1.heap.size = w2.heap.size := by omega
  try have ho1_2 : ¬ w2.heap.size = w1.heap.size := by omega
  have hB2 := Below.trans (B := w.heap.size) (a := w) (by (repeat' (first | (with_reducible exact Below.refl _ _) | (with_reducible assumption) | (with_reducible refine Below.alloc ?_ ?_ _) | (with_reducible refine Below.drew ?_) | (with_reducible refine below_drewN ?_ _) | (with_reducible refine Below.setCell ?_ ?_ _) | (first | (with_reducible exact Nat.le_refl _) | (with_reducible assumption) | omega | (simp; omega) | (simp; done))))) (hb2.mono (by (first | (with_reducible exact Nat.le_refl _) | (with_reducible assumption) | omega | (simp; omega) | (simp; done))))
  clear hb2
  go_wp2_with fail
  (with_reducible refine (c3 _).mono ?_)
  rintro e w3 ⟨rfl, hb3⟩
  obtain ⟨hc3, hf3, hz3⟩ := bcell hb3
  try simp at hz3
  try have hl0_3 : w.heap.size < w3.heap.size := by omega
  try have hn0_3 : ¬ w.heap.size = w3.heap.size := by omega
  try have ho0_3 : ¬ w3.heap.size = w.heap.size := by omega
  try have hm0_3 : w.heap.size + 1 < w3.heap.size := by omega
  try have hl1_3 : w1.heap.size < w3.heap.size := by omega
  try have hn1_3 : ¬ w1.heap.size = w3.heap.size := by omega
  try have ho1_3 : ¬ w3.heap.size = w1.heap.size := by omega
  try have hl2_3 : w2.heap.size < w3.heap.size := by omega
  try have hn2_3 : ¬ w2.heap.size = w3.heap.size := by omega
  try have ho2_3 : ¬ w3.heap.size = w2.heap.size := by omega
  have hB3 := Below.trans (B := w.heap.size) (a := w) (by (repeat' (first | (with_reducible exact Below.refl _ _) | (with_reducible assumption) | (with_reducible refine Below.alloc ?_ ?_ _) | (with_reducible refine Below.drew ?_) | (with_reducible refine below_drewN ?_ _) | (with_reducible refine Below.setCell ?_ ?_ _) | (first | (with_reducible exact Nat.le_refl _) | (with_reducible assumption) | omega | (simp; omega) | (simp; done))))) (hb3.mono (by (first | (with_reducible exact Nat.le_refl _) | (with_reducible assumption) | omega | (simp; omega) | (simp; done))))
  clear hb3
  go_wp2_with fail
  (with_reducible refine (c4 _).mono ?_)
  rintro e w4 ⟨rfl, hb4⟩
  obtain ⟨hc4, hf4, hz4⟩ := bcell hb4
  try simp at hz4
  try have hl0_4 : w.heap.size < w4.heap.size := by omega
  try have hn0_4 : ¬ w.heap.size = w4.heap.size := by omega
  try have ho0_4 : ¬ w4.heap.size = w.heap.size := by omega
  try have hm0_4 : w.heap.size + 1 < w4.heap.size := by omega
  try have hl1_4 : w1.heap.size < w4.heap.size := by omega
  try have hn1_4 : ¬ w1.heap.size = w4.heap.size := by omega
  try have ho1_4 : ¬ w4.heap.size = w1.heap.size := by omega
  try have hl2_4 : w2.heap.size < w4.heap.size := by omega
  try have hn2_4 : ¬ w2.heap.size = w4.heap.size := by omega
  try have ho2_4 : ¬ w4.heap.size = w2.heap.size := by omega
  try have hl3_4 : w3.heap.size < w4.heap.size := by omega
  try have hn3_4 : ¬ w3.heap.size = w4.heap.size := by omega
  try have ho3_4 : ¬ w4.heap.size = w3.heap.size := by omega
  have hB4 := Below.trans (B := w.heap.size) (a := w) (by (repeat' (first | (with_reducible exact Below.refl _ _) | (with_reducible assumption) | (with_reducible refine Below.alloc ?_ ?_ _) | (with_reducible refine Below.drew ?_) | (with_reducible refine below_drewN ?_ _) | (with_reducible refine Below.setCell ?_ ?_ _) | (first | (with_reducible exact Nat.le_refl _) | (with_reducible assumption) | omega | (simp; omega) | (simp; done))))) (hb4.mono (by (first | (with_reducible exact Nat.le_refl _) | (with_reducible assumption) | omega | (simp; omega) | (simp; done))))
  clear hb4
  go_wp2_with fail
  (with_reducible refine (c5 _).mono ?_)
  rintro e w5 ⟨rfl, hb5⟩
  obtain ⟨hc5, hf5, hz5⟩ := bcell hb5
  try simp at hz5
  try have hl0_5 : w.heap.size < w5.heap.size := by omega
  try have hn0_5 : ¬ w.heap.size = w5.heap.size := by omega
  try have ho0_5 : ¬ w5.heap.size = w.heap.size := by omega
  try have hm0_5 : w.heap.size + 1 < w5.heap.size := by omega
  try have hl1_5 : w1.heap.size < w5.heap.size := by omega
  try have hn1_5 : ¬ w1.heap.size = w5.heap.size := by omega
  try have ho1_5 : ¬ w5.heap.size = w1.heap.size := by omega
  try have hl2_5 : w2.heap.size < w5.heap.size := by omega
  try have hn2_5 : ¬ w2.heap.size = w5.heap.size := by omega
  try have ho2_5 : ¬ w5.heap.size = w2.heap.size := by omega
  try have hl3_5 : w3.heap.size < w5.heap.size := by omega
  try have hn3_5 : ¬ w3.heap.size = w5.heap.size := by omega
  try have ho3_5 : ¬ w5.heap.size = w3.heap.size := by omega
  try have hl4_5 : w4.heap.size < w5.heap.size := by omega
  try have hn4_5 : ¬ w4.heap.size = w5.heap.size := by omega
  try have ho4_5 : ¬ w5.heap.size = w4.heap.size := by omega
  have hB5 := Below.trans (B := w.heap.size) (a := w) (by (repeat' (first | (with_reducible exact Below.refl _ _) | (with_reducible assumption) | (with_reducible refine Below.alloc ?_ ?_ _) | (with_reducible refine Below.drew ?_) | (with_reducible refine below_drewN ?_ _) | (with_reducible refine Below.setCell ?_ ?_ _) | (first | (with_reducible exact Nat.le_refl _) | (with_reducible assumption) | omega | (simp; omega) | (simp; done))))) (hb5.mono (by (first | (with_reducible exact Nat.le_refl _) | (with_reducible assumption) | omega | (simp; omega) | (simp; done))))
  clear hb5
  go_wp2_with (first | (go_at_call 14; (with_reducible refine (num_calls _ _).mono ?_); rintro e w' ⟨rfl, rfl⟩))
  go_wp2_with fail
  (with_reducible refine (k1 _).mono ?_)
  rintro e w6 ⟨rfl, hb6⟩
  obtain ⟨hc6, hf6, hz6⟩ := bcell hb6
  try simp at hz6
  try have hl0_6 : w.heap.size < w6.heap.size := by omega
  try have hn0_6 : ¬ w.heap.size = w6.heap.size := by omega
  try have ho0_6 : ¬ w6.heap.size = w.heap.size := by omega
  try have hm0_6 : w.heap.size + 1 < w6.heap.size := by omega
  try have hl1_6 : w1.heap.size < w6.heap.size := by omega
  try have hn1_6 : ¬ w1.heap.size = w6.heap.size := by omega
  try have ho1_6 : ¬ w6.heap.size = w1.heap.size := by omega
  try have hl2_6 : w2.heap.size < w6.heap.size := by omega
  try have hn2_6 : ¬ w2.heap.size = w6.heap.size := by omega
  try have ho2_6 : ¬ w6.heap.size = w2.heap.size := by omega
  try have hl3_6 : w3.heap.size < w6.heap.size := by omega
  try have hn3_6 : ¬ w3.heap.size = w6.heap.size := by omega
  try have ho3_6 : ¬ w6.heap.size = w3.heap.size := by omega
  try have hl4_6 : w4.heap.size < w6.heap.size := by omega
  try have hn4_6 : ¬ w4.heap.size = w6.heap.size := by omega
  try have ho4_6 : ¬ w6.heap.size = w4.heap.size := by omega
  try have hl5_6 : w5.heap.size < w6.heap.size := by omega
  try have hn5_6 : ¬ w5.heap.size = w6.heap.size := by omega
  try have ho5_6 : ¬ w6.heap.size = w5.heap.size := by omega
  have hB6 := Below.trans (B := w.heap.size) (a := w) (by (repeat' (first | (with_reducible exact Below.refl _ _) | (with_reducible assumption) | (with_reducible refine Below.alloc ?_ ?_ _) | (with_reducible refine Below.drew ?_) | (with_reducible refine below_drewN ?_ _) | (with_reducible refine Below.setCell ?_ ?_ _) | (first | (with_reducible exact Nat.le_refl _) | (with_reducible assumption) | omega | (simp; omega) | (simp; done))))) (hb6.mono (by (first | (with_reducible exact Nat.le_refl _) | (with_reducible assumption) | omega | (simp; omega) | (simp; done))))
  clear hb6
  go_wp2_with fail
  (with_reducible refine (k3 _).mono ?_)
  rintro e w7 ⟨rfl, hb7⟩
  obtain ⟨hc7, hf7, hz7⟩ := bcell hb7
  try simp at hz7
  try have hl0_7 : w.heap.size < w7.heap.size := by omega
  try have hn0_7 : ¬ w.heap.size = w7.heap.size := by omega
  try have ho0_7 : ¬ w7.heap.size = w.heap.size := by omega
  try have hm0_7 : w.heap.size + 1 < w7.heap.size := by omega
  try have hl1_7 : w1.heap.size < w7.heap.size := by omega
  try have hn1_7 : ¬ w1.heap.size = w7.heap.size := by omega
  try have ho1_7 : ¬ w7.heap.size = w1.heap.size := by omega
  try have hl2_7 : w2.heap.size < w7.heap.size := by omega
  try have hn2_7 : ¬ w2.heap.size = w7.heap.size := by omega
  try have ho2_7 : ¬ w7.heap.size = w2.heap.size := by omega
  try have hl3_7 : w3.heap.size < w7.heap.size := by omega
  try have hn3_7 : ¬ w3.heap.size = w7.heap.size := by omega
  try have ho3_7 : ¬ w7.heap.size = w3.heap.size := by omega
  try have hl4_7 : w4.heap.size < w7.heap.size := by omega
  try have hn4_7 : ¬ w4.heap.size = w7.heap.size := by omega
  try have ho4_7 : ¬ w7.heap.size = w4.heap.size := by omega
  try have hl5_7 : w5.heap.size < w7.heap.size := by omega
  try have hn5_7 : ¬ w5.heap.size = w7.heap.size := by omega
  try have ho5_7 : ¬ w7.heap.size = w5.heap.size := by omega
  try have hl6_7 : w6.heap.size < w7.heap.size := by omega
  try have hn6_7 : ¬ w6.heap.size = w7.heap.size := by omega
  try have ho6_7 : ¬ w7.heap.size = w6.heap.size := by omega
  have hB7 := Below.trans (B := w.heap.size) (a := w) (by (repeat' (first | (with_reducible exact Below.refl _ _) | (with_reducible assumption) | (with_reducible refine Below.alloc ?_ ?_ _) | (with_reducible refine Below.drew ?_) | (with_reducible refine below_drewN ?_ _) | (with_reducible refine Below.setCell ?_ ?_ _) | (first | (with_reducible exact Nat.le_refl _) | (with_reducible assumption) | omega | (simp; omega) | (simp; done))))) (hb7.mono (by (first | (with_reducible exact Nat.le_refl _) | (with_reducible assumption) | omega | (simp; omega) | (simp; done))))
  clear hb7
  go_wp2_with fail
  (with_reducible refine (k2 _).mono ?_)
  rintro e w8 ⟨rfl, hb8⟩
  obtain ⟨hc8, hf8, hz8⟩ := bcell hb8
  try simp at hz8
  try have hl0_8 : w.heap.size < w8.heap.size := by omega
  try have hn0_8 : ¬ w.heap.size = w8.heap.size := by omega
  try have ho0_8 : ¬ w8.heap.size = w.heap.size := by omega
  try have hm0_8 : w.heap.size + 1 < w8.heap.size := by omega
  try have hl1_8 : w1.heap.size < w8.heap.size := by omega
  try have hn1_8 : ¬ w1.heap.size = w8.heap.size := by omega
  try have ho1_8 : ¬ w8.heap.size = w1.heap.size := by omega
  try have hl2_8 : w2.heap.size < w8.heap.size := by omega
  try have hn2_8 : ¬ w2.heap.size = w8.heap.size := by omega
  try have ho2_8 : ¬ w8.heap.size = w2.heap.size := by omega
  try have hl3_8 : w3.heap.size < w8.heap.size := by omega
  try have hn3_8 : ¬ w3.heap.size = w8.heap.size := by omega
  try have ho3_8 : ¬ w8.heap.size = w3.heap.size := by omega
  try have hl4_8 : w4.heap.size < w8.heap.size := by omega
  try have hn4_8 : ¬ w4.heap.size = w8.heap.size := by omega
  try have ho4_8 : ¬ w8.heap.size = w4.heap.size := by omega
  try have hl5_8 : w5.heap.size < w8.heap.size := by omega
  try have hn5_8 : ¬ w5.heap.size = w8.heap.size := by omega
  try have ho5_8 : ¬ w8.heap.size = w5.heap.size := by omega
  try have hl6_8 : w6.heap.size < w8.heap.size := by omega
  try have hn6_8 : ¬ w6.heap.size = w8.heap.size := by omega
  try have ho6_8 : ¬ w8.heap.size = w6.heap.size := by omega
  try have hl7_8 : w7.heap.size < w8.heap.size := by omega
  try have hn7_8 : ¬ w7.heap.size = w8.heap.size := by omega
  try have ho7_8 : ¬ w8.heap.size = w7.heap.size := by omega
  have hB8 := Below.trans (B := w.heap.size) (a := w) (by (repeat' (first | (with_reducible exact Below.refl _ _) | (with_reducible assumption) | (with_reducible refine Below.alloc ?_ ?_ _) | (with_reducible refine Below.drew ?_) | (with_reducible refine below_drewN ?_ _) | (with_reducible refine Below.setCell ?_ ?_ _) | (first | (with_reducible exact Nat.le_refl _) | (with_reducible assumption) | omega | (simp; omega) | (simp; done))))) (hb8.mono (by (first | (with_reducible exact Nat.le_refl _) | (with_reducible assumption) | omega | (simp; omega) | (simp; done))))
  clear hb8
  go_wp2_with fail
  (with_reducible refine (k6 _).mono ?_)
  rintro e w9 ⟨rfl, hb9⟩
  obtain ⟨hc9, hf9, hz9⟩ := bcell hb9
  try simp at hz9
  try have hl0_9 : w.heap.size < w9.heap.size := by omega
  try have hn0_9 : ¬ w.heap.size = w9.heap.size := by omega
  try have ho0_9 : ¬ w9.heap.size = w.heap.size := by omega
  try have hm0_9 : w.heap.size + 1 < w9.heap.size := by omega
  try have hl1_9 : w1.heap.size < w9.heap.size := by omega
  try have hn1_9 : ¬ w1.heap.size = w9.heap.size := by omega
  try have ho1_9 : ¬ w9.heap.size = w1.heap.size := by omega
  try have hl2_9 : w2.heap.size < w9.heap.size := by omega
  try have hn2_9 : ¬ w2.heap.size = w9.heap.size := by omega
  try have ho2_9 : ¬ w9.heap.size = w2.heap.size := by omega
  try have hl3_9 : w3.heap.size < w9.heap.size := by omega
  try have hn3_9 : ¬ w3.heap.size = w9.heap.size := by omega
  try have ho3_9 : ¬ w9.heap.size = w3.heap.size := by omega
  try have hl4_9 : w4.heap.size < w9.heap.size := by omega
  try have hn4_9 : ¬ w4.heap.size = w9.heap.size := by omega
  try have ho4_9 : ¬ w9.heap.size = w4.heap.size := by omega
  try have hl5_9 : w5.heap.size < w9.heap.size := by omega
  try have hn5_9 : ¬ w5.heap.size = w9.heap.size := by omega
  try have ho5_9 : ¬ w9.heap.size = w5.heap.size := by omega
  try have hl6_9 : w6.heap.size < w9.heap.size := by omega
  try have hn6_9 : ¬ w6.heap.size = w9.heap.size := by omega
  try have ho6_9 : ¬ w9.heap.size = w6.heap.size := by omega
  try have hl7_9 : w7.heap.size < w9.heap.size := by omega
  try have hn7_9 : ¬ w7.heap.size = w9.heap.size := by omega
  try have ho7_9 : ¬ w9.heap.size = w7.heap.size := by omega
  try have hl8_9 : w8.heap.size < w9.heap.size := by omega
  try have hn8_9 : ¬ w8.heap.size = w9.heap.size := by omega
  try have ho8_9 : ¬ w9.heap.size = w8.heap.size := by omega
  have hB9 := Below.trans (B := w.heap.size) (a := w) (by (repeat' (first | (with_reducible exact Below.refl _ _) | (with_reducible assumption) | (with_reducible refine Below.alloc ?_ ?_ _) | (with_reducible refine Below.drew ?_) | (with_reducible refine below_drewN ?_ _) | (with_reducible refine Below.setCell ?_ ?_ _) | (first | (with_reducible exact Nat.le_refl _) | (with_reducible assumption) | omega | (simp; omega) | (simp; done))))) (hb9.mono (by (first | (with_reducible exact Nat.le_refl _) | (with_reducible assumption) | omega | (simp; omega) | (simp; done))))
  clear hb9
  go_wp2_with fail
  (with_reducible refine (k7 _).mono ?_)
  rintro e w10 ⟨rfl, hb10⟩
  obtain ⟨hc10, hf10, hz10⟩ := bcell hb10
  try simp at hz10
  try have hl0_10 : w.heap.size < w10.heap.size := by omega
  try have hn0_10 : ¬ w.heap.size = w10.heap.size := by omega
  try have ho0_10 : ¬ w10.heap.size = w.heap.size := by omega
  try have hm0_10 : w.heap.size + 1 < w10.heap.size := by omega
  try have hl1_10 : w1.heap.size < w10.heap.size := by omega
  try have hn1_10 : ¬ w1.heap.size = w10.heap.size := by omega
  try have ho1_10 : ¬ w10.heap.size = w1.heap.size := by omega
  try have hl2_10 : w2.heap.size < w10.heap.size := by omega
  try have hn2_10 : ¬ w2.heap.size = w10.heap.size := by omega
  try have ho2_10 : ¬ w10.heap.size = w2.heap.size := by omega
  try have hl3_10 : w3.heap.size < w10.heap.size := by omega
  try have hn3_10 : ¬ w3.heap.size = w10.heap.size := by omega
  try have ho3_10 : ¬ w10.heap.size = w3.heap.size := by omega
  try have hl4_10 : w4.heap.size < w10.heap.size := by omega
  try have hn4_10 : ¬ w4.heap.size = w10.heap.size := by omega
  try have ho4_10 : ¬ w10.heap.size = w4.heap.size := by omega
  try have hl5_10 : w5.heap.size < w10.heap.size := by omega
  try have hn5_10 : ¬ w5.heap.size = w10.heap.size := by omega
  try have ho5_10 : ¬ w10.heap.size = w5.heap.size := by omega
  try have hl6_10 : w6.heap.size < w10.heap.size := by omega
  try have hn6_10 : ¬ w6.heap.size = w10.heap.size := by omega
  try have ho6_10 : ¬ w10.heap.size = w6.heap.size := by omega
  try have hl7_10 : w7.heap.size < w10.heap.size := by omega
  try have hn7_10 : ¬ w7.heap.size = w10.heap.size := by omega
  try have ho7_10 : ¬ w10.heap.size = w7.heap.size := by omega
  try have hl8_10 : w8.heap.size < w10.heap.size := by omega
  try have hn8_10 : ¬ w8.heap.size = w10.heap.size := by omega
  try have ho8_10 : ¬ w10.heap.size = w8.heap.size := by omega
  try have hl9_10 : w9.heap.size < w10.heap.size := by omega
  try have hn9_10 : ¬ w9.heap.size = w10.heap.size := by omega
  try have ho9_10 : ¬ w10.heap.size = w9.heap.size := by omega
  have hB10 := Below.trans (B := w.heap.size) (a := w) (by (repeat' (first | (with_reducible exact Below.refl _ _) | (with_reducible assumption) | (with_reducible refine Below.alloc ?_ ?_ _) | (with_reducible refine Below.drew ?_) | (with_reducible refine below_drewN ?_ _) | (with_reducible refine Below.setCell ?_ ?_ _) | (first | (with_reducible exact Nat.le_refl _) | (with_reducible assumption) | omega | (simp; omega) | (simp; done))))) (hb10.mono (by (first | (with_reducible exact Nat.le_refl _) | (with_reducible assumption) | omega | (simp; omega) | (simp; done))))
  clear hb10
  go_wp2_with (first | (go_at_call 16; (with_reducible refine (live_calls _).mono ?_); rintro e w' ⟨rfl, hb⟩; obtain ⟨hc, hf, hz⟩ := bcell hb; (try simp at hz); (try have hzz : w.heap.size < w'.heap.size := by omega); (try have hzz1 : w.heap.size + 1 < w'.heap.size := by omega); (try have hzz2 : w.heap.size + 2 < w'.heap.size := by omega); have hB := Below.trans (B := w.heap.size) (a := w) (by (repeat' (first | (with_reducible exact Below.refl _ _) | (with_reducible assumption) | (with_reducible refine Below.alloc ?_ ?_ _) | (with_reducible refine Below.drew ?_) | (with_reducible refine below_drewN ?_ _) | (with_reducible refine Below.setCell ?_ ?_ _) | (first | (with_reducible exact Nat.le_refl _) | (with_reducible assumption) | omega | (simp; omega) | (simp; done))))) (hb.mono (by (first | (with_reducible exact Nat.le_refl _) | (with_reducible assumption) | omega | (simp; omega) | (simp; done))))))
  (first | (refine bodyPost_ret (results_tmp rfl _ _ _) rfl ?_) | (refine bodyPost_ret (results_none rfl _ _ _) rfl ?_) | (refine bodyPost_end (results_none rfl _ _ _) rfl ?_) | go_ret2 | go_ret3)
  exact ⟨rfl, by (repeat' (first | (with_reducible exact Below.refl _ _) | (with_reducible assumption) | (with_reducible refine Below.alloc ?_ ?_ _) | (with_reducible refine Below.drew ?_) | (with_reducible refine below_drewN ?_ _) | (with_reducible refine Below.setCell ?_ ?_ _) | (first | (with_reducible exact Nat.le_refl _) | (with_reducible assumption) | omega | (simp; omega) | (simp; done))))⟩

set_option maxHeartbeats 1000000 in
theorem order_no (size : Int) (hS : NoSZ size) (a b : Int) (w : World) :
    Calls Try.prog 6 #[.int .u64 a, .int .u64 b, .int .i64 size] w fun e w' => e = .returned (.bool true) ∧ Below w.heap.size w w' := by
  have c1 := sub_no size hS a b false
  have c2 := trim_no size hS a
  have c3 := trim_no size hS b
  have c4 := extend_no size hS a
  have c5 := extend_no size hS b
  go_enter Try.func6, Try.ntmps6
  go_wp2_with fail
  (with_reducible refine (c1 _).mono ?_)
  rintro e w1 ⟨rfl, hb1⟩
  obtain ⟨hc1, hf1, hz1⟩ := bcell hb1
  try simp at hz1
  try have hl0_1 : w.heap.size < w1.heap.size := by omega
  try have hn0_1 : ¬ w.heap.size = w1.heap.size := by omega
  try have ho0_1 : ¬ w1.heap.size = w.heap.size := by omega
  try have hm0_1 : w.heap.size + 1 < w1.heap.size := by omega
  have hB1 := Below.trans (B := w.heap.size) (a := w) (by (repeat' (first | (with_reducible exact Below.refl _ _) | (with_reducible assumption) | (with_reducible refine Below.alloc ?_ ?_ _) | (with_reducible refine Below.drew ?_) | (with_reducible refine below_drewN ?_ _) | (with_reducible refine Below.setCell ?_ ?_ _) | (first | (with_reducible exact Nat.le_refl _) | (with_reducible assumption) | omega | (simp; omega) | (simp; done))))) (hb1.mono (by (first | (with_reducible exact Nat.le_refl _) | (with_reducible assumption) | omega | (simp; omega) | (simp; done))))
  clear hb1
  go_wp2_with fail
  (with_reducible refine (c2 _).mono ?_)
  rintro e w2 ⟨rfl, hb2⟩
  obtain ⟨hc2, hf2, hz2⟩ := bcell hb2
  try simp at hz2
  try have hl0_2 : w.heap.size < w2.heap.size := by omega
  try have hn0_2 : ¬ w.heap.size = w2.heap.size := by omega
  try have ho0_2 : ¬ w2.heap.size = w.heap.size := by omega
  try have hm0_2 : w.heap.size + 1 < w2.heap.size := by omega
  try have hl1_2 : w1.heap.size < w2.heap.size := by omega
  try have hn1_2 : ¬ w1.heap.size = w2.heap.size := by omega
  try have ho1_2 : ¬ w2.heap.size = w1.heap.size := by omega
  have hB2 := Below.trans (B := w.heap.size) (a := w) (by (repeat' (first | (with_reducible exact Below.refl _ _) | (with_reducible assumption) | (with_reducible refine Below.alloc ?_ ?_ _) | (with_reducible refine Below.drew ?_) | (with_reducible refine below_drewN ?_ _) | (with_reducible refine Below.setCell ?_ ?_ _) | (first | (with_reducible exact Nat.le_refl _) | (with_reducible assumption) | omega | (simp; omega) | (simp; done))))) (hb2.mono (by (first | (with_reducible exact Nat.le_refl _) | (with_reducible assumption) | omega | (simp; omega) | (simp; done))))
  clear hb2
  go_wp2_with fail
  (with_reducible refine (c3 _).mono ?_)
  rintro e w3 ⟨rfl, hb3⟩
  obtain ⟨hc3, hf3, hz3⟩ := bcell hb3
  try simp at hz3
  try have hl0_3 : w.heap.size < w3.heap.size := by omega
  try have hn0_3 : ¬ w.heap.size = w3.heap.size := by omega
  try have ho0_3 : ¬ w3.heap.size = w.heap.size := by omega
  try have hm0_3 : w.heap.size + 1 < w3.heap.size := by omega
  try have hl1_3 : w1.heap.size < w3.heap.size := by omega
  try have hn1_3 : ¬ w1.heap.size = w3.heap.size := by omega
  try have ho1_3 : ¬ w3.heap.size = w1.heap.size := by omega
  try have hl2_3 : w2.heap.size < w3.heap.size := by omega
  try have hn2_3 : ¬ w2.heap.size = w3.heap.size := by omega
  try have ho2_3 : ¬ w3.heap.size = w2.heap.size := by omega
  have hB3 := Below.trans (B := w.heap.size) (a := w) (by (repeat' (first | (with_reducible exact Below.refl _ _) | (with_reducible assumption) | (with_reducible refine Below.alloc ?_ ?_ _) | (with_reducible refine Below.drew ?_) | (with_reducible refine below_drewN ?_ _) | (with_reducible refine Below.setCell ?_ ?_ _) | (first | (with_reducible exact Nat.le_refl _) | (with_reducible assumption) | omega | (simp; omega) | (simp; done))))) (hb3.mono (by (first | (with_reducible exact Nat.le_refl _) | (with_reducible assumption) | omega | (simp; omega) | (simp; done))))
  clear hb3
  go_wp2_with fail
  (with_reducible refine (c4 _).mono ?_)
  rintro e w4 ⟨rfl, hb4⟩
  obtain ⟨hc4, hf4, hz4⟩ := bcell hb4
  try simp at hz4
  try have hl0_4 : w.heap.size < w4.heap.size := by omega
  try have hn0_4 : ¬ w.heap.size = w4.heap.size := by omega
  try have ho0_4 : ¬ w4.heap.size = w.heap.size := by omega
  try have hm0_4 : w.heap.size + 1 < w4.heap.size := by omega
  try have hl1_4 : w1.heap.size < w4.heap.size := by omega
  try have hn1_4 : ¬ w1.heap.size = w4.heap.size := by omega
  try have ho1_4 : ¬ w4.heap.size = w1.heap.size := by omega
  try have hl2_4 : w2.heap.size < w4.heap.size := by omega
  try have hn2_4 : ¬ w2.heap.size = w4.heap.size := by omega
  try have ho2_4 : ¬ w4.heap.size = w2.heap.size := by omega
  try have hl3_4 : w3.heap.size < w4.heap.size := by omega
  try have hn3_4 : ¬ w3.heap.size = w4.heap.size := by omega
  try have ho3_4 : ¬ w4.heap.size = w3.heap.size := by omega
  have hB4 := Below.trans (B := w.heap.size) (a := w) (by (repeat' (first | (with_reducible exact Below.refl _ _) | (with_reducible assumption) | (with_reducible refine Below.alloc ?_ ?_ _) | (with_reducible refine Below.drew ?_) | (with_reducible refine below_drewN ?_ _) | (with_reducible refine Below.setCell ?_ ?_ _) | (first | (with_reducible exact Nat.le_refl _) | (with_reducible assumption) | omega | (simp; omega) | (simp; done))))) (hb4.mono (by (first | (with_reducible exact Nat.le_refl _) | (with_reducible assumption) | omega | (simp; omega) | (simp; done))))
  clear hb4
  go_wp2_with fail
  (with_reducible refine (c5 _).mono ?_)
  rintro e w5 ⟨rfl, hb5⟩
  obtain ⟨hc5, hf5, hz5⟩ := bcell hb5
  try simp at hz5
  try have hl0_5 : w.heap.size < w5.heap.size := by omega
  try have hn0_5 : ¬ w.heap.size = w5.heap.size := by omega
  try have ho0_5 : ¬ w5.heap.size = w.heap.size := by omega
  try have hm0_5 : w.heap.size + 1 < w5.heap.size := by omega
  try have hl1_5 : w1.heap.size < w5.heap.size := by omega
  try have hn1_5 : ¬ w1.heap.size = w5.heap.size := by omega
  try have ho1_5 : ¬ w5.heap.size = w1.heap.size := by omega
  try have hl2_5 : w2.heap.size < w5.heap.size := by omega
  try have hn2_5 : ¬ w2.heap.size = w5.heap.size := by omega
  try have ho2_5 : ¬ w5.heap.size = w2.heap.size := by omega
  try have hl3_5 : w3.heap.size < w5.heap.size := by omega
  try have hn3_5 : ¬ w3.heap.size = w5.heap.size := by omega
  try have ho3_5 : ¬ w5.heap.size = w3.heap.size := by omega
  try have hl4_5 : w4.heap.size < w5.heap.size := by omega
  try have hn4_5 : ¬ w4.heap.size = w5.heap.size := by omega
  try have ho4_5 : ¬ w5.heap.size = w4.heap.size := by omega
  have hB5 := Below.trans (B := w.heap.size) (a := w) (by (repeat' (first | (with_reducible exact Below.refl _ _) | (with_reducible assumption) | (with_reducible refine Below.alloc ?_ ?_ _) | (with_reducible refine Below.drew ?_) | (with_reducible refine below_drewN ?_ _) | (with_reducible refine Below.setCell ?_ ?_ _) | (first | (with_reducible exact Nat.le_refl _) | (with_reducible assumption) | omega | (simp; omega) | (simp; done))))) (hb5.mono (by (first | (with_reducible exact Nat.le_refl _) | (with_reducible assumption) | omega | (simp; omega) | (simp; done))))
  clear hb5
  go_wp2_with (first | (go_at_call 14; (with_reducible refine (num_calls _ _).mono ?_); rintro e w' ⟨rfl, rfl⟩) | (go_at_call 16; (with_reducible refine (live_calls _).mono ?_); rintro e w' ⟨rfl, hb⟩; obtain ⟨hc, hf, hz⟩ := bcell hb; (try simp at hz); (try have hzz : w.heap.size < w'.heap.size := by omega); (try have hzz1 : w.heap.size + 1 < w'.heap.size := by omega); (try have hzz2 : w.heap.size + 2 < w'.heap.size := by omega); have hB := Below.trans (B := w.heap.size) (a := w) (by (repeat' (first | (with_reducible exact Below.refl _ _) | (with_reducible assumption) | (with_reducible refine Below.alloc ?_ ?_ _) | (with_reducible refine Below.drew ?_) | (with_reducible refine below_drewN ?_ _) | (with_reducible refine Below.setCell ?_ ?_ _) | (first | (with_reducible exact Nat.le_refl _) | (with_reducible assumption) | omega | (simp; omega) | (simp; done))))) (hb.mono (by (first | (with_reducible exact Nat.le_refl _) | (with_reducible assumption) | omega | (simp; omega) | (simp; done))))))
  (first | (refine bodyPost_ret (results_tmp rfl _ _ _) rfl ?_) | (refine bodyPost_ret (results_none rfl _ _ _) rfl ?_) | (refine bodyPost_end (results_none rfl _ _ _) rfl ?_) | go_ret2 | go_ret3)
  exact ⟨rfl, by (repeat' (first | (with_reducible exact Below.refl _ _) | (with_reducible assumption) | (with_reducible refine Below.alloc ?_ ?_ _) | (with_reducible refine Below.drew ?_) | (with_reducible refine below_drewN ?_ _) | (with_reducible refine Below.setCell ?_ ?_ _) | (first | (with_reducible exact Nat.le_refl _) | (with_reducible assumption) | omega | (simp; omega) | (simp; done))))⟩

theorem order_walk (a0 : Int) (w0 : (Lit.int .u64 a0).wf = true) (a1 : Int) (w1 : (Lit.int .u64 a1).wf = true) (a2 : Int) (_w2 : (Lit.int .i64 a2).wf = true) (w : World) :
    Calls Try.prog 6 #[.int .u64 a0, .int .u64 a1, .int .i64 a2] w fun e w' => e = .returned (.bool true) ∧ Below w.heap.size w w' := by
  obtain ⟨a, rfl, ha⟩ := nat_u64 w0
  obtain ⟨b, rfl, hb⟩ := nat_u64 w1
  rcases sz_or a2 with h | ⟨n, h⟩
  · exact order_no a2 h _ _ w
  · exact order_ok a2 n h a b ha hb w
end Go.Proofs.Ytknopookopfoeaa.AluL
