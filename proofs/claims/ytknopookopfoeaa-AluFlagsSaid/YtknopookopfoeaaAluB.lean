/- What Add and Sub of package alu come to. -/
import Derived.Test.YtknopookopfoeaaAluA
import Derived.Laws.Externs
namespace Go.Proofs.Ytknopookopfoeaa.Alu
open Go.RowKit Go.Proofs.Ytknopookopfoeaa.AluMath

def sub64Entry : Array Value → Sem Value := fun args => do
  let (x, y, b) ← Extern.MathBitsCarry.three "Sub64" args
  pure (Extern.MathBitsCarry.pair ((x + Extern.MathBitsCarry.m64 - y - b) % Extern.MathBitsCarry.m64) (if x < y + b then 1 else 0))

theorem run_sub64 {P : Program} (x y b : Nat) (hb : b ≤ 1) (w : World) :
    (sub64Entry #[.int .u64 x, .int .u64 y, .int .u64 b]).run P w =
      .ok (.tuple #[.int .u64 (((x + M64 - y - b) % M64 : Nat) : Int), .int .u64 ((if x < y + b then 1 else 0 : Nat) : Int)]) w := by
  have : b = 0 ∨ b = 1 := by omega
  rcases this with rfl | rfl <;> rfl

theorem add64_law (x y c : Nat) (hc : c ≤ 1) (w : World) :
    (callFunc 41 #[.int .u64 x, .int .u64 y, .int .u64 c]).run Try.prog w =
      .ok (.value (.tuple #[.int .u64 (((x + y + c) % M64 : Nat) : Int), .int .u64 (((x + y + c) / M64 : Nat) : Int)])) w := by
  rw [run_callFunc_extern Try.func41 (by kernel_rfl) (by kernel_rfl) (by kernel_rfl) (e := add64Entry) (by kernel_rfl), run_add64 x y c (by omega) (by omega) (by omega) (by omega)]
  simp only [Result.andThen]
  unfold M64
  congr 5 <;> omega

theorem sub64_law (x y c : Nat) (hc : c ≤ 1) (w : World) :
    (callFunc 45 #[.int .u64 x, .int .u64 y, .int .u64 c]).run Try.prog w =
      .ok (.value (.tuple #[.int .u64 (((x + M64 - y - c) % M64 : Nat) : Int), .int .u64 ((if x < y + c then 1 else 0 : Nat) : Int)])) w := by
  rw [run_callFunc_extern Try.func45 (by kernel_rfl) (by kernel_rfl) (by kernel_rfl) (e := sub64Entry) (by kernel_rfl), run_sub64 x y c hc]
  rfl

theorem pow_dvd_M64 {n : Nat} (hn : n ≤ 64) : 2 ^ n ∣ M64 := Nat.pow_dvd_pow 2 hn
theorem pow_le_M64 {n : Nat} (hn : n ≤ 64) : 2 ^ n ≤ M64 := Nat.pow_le_pow_right (n := 2) (by decide) hn

theorem div_pow_cast (x n : Nat) : ((x : Int) / 2 ^ n) = ((x / 2 ^ n : Nat) : Int) := by push_cast; rfl
theorem sum_over (n t : Nat) (hn : n < 64) (ht : t < 2 ^ n + 2 ^ n) : (((t % M64 : Nat) : Int) / 2 ^ n != 0) = decide (2 ^ n ≤ t) := by
  have h2 : 2 ^ n + 2 ^ n ≤ M64 := by
    have : 2 ^ (n + 1) ≤ M64 := pow_le_M64 (by omega)
    rw [Nat.pow_succ] at this; omega
  rw [Nat.mod_eq_of_lt (by omega), div_pow_cast, Bool.eq_iff_iff]
  have hp := Nat.two_pow_pos n
  simp only [bne_iff_ne, decide_eq_true_eq, ne_eq, Int.natCast_eq_zero, Nat.div_eq_zero_iff]
  omega

theorem sum_over64 (t : Nat) (ht : t < 2 * M64) : ((t / M64 : Nat) : Int) == 1 ↔ M64 ≤ t := by
  simp only [beq_iff_eq]
  constructor
  · intro h
    have h1 : t / M64 = 1 := by omega
    exact Nat.le_of_lt_succ (by have := (Nat.div_add_mod t M64); rw [h1] at this; omega)
  · intro h
    have h1 : 1 ≤ t / M64 := (Nat.le_div_iff_mul_le (by decide)).2 (by omega)
    have h2 : t / M64 < 2 := (Nat.div_lt_iff_lt_mul (by decide)).2 ht
    omega

theorem add_ok (size : Int) (n : Nat) (h : SZ size n) (a b : Nat) (ha : a < M64) (hb : b < M64) (c : Bool) (w : World) :
    Calls Try.prog 13 #[.int .u64 (a : Int), .int .u64 (b : Int), .bool c, .int .i64 size] w fun e w' =>
      e = .returned (.tuple #[.int .u64 (sumR n a b (b2n c) : Nat), flagsV n (sumR n a b (b2n c)) (sumC n a b (b2n c)) (sumO n a b (b2n c)), .int .i64 0]) ∧ Below w.heap.size w w' := by
  have hn := h.cases
  unfold sumO sumC sumR
  have hn64 : n ≤ 64 := by omega
  have hma := mask_eq n a _ rfl hn64 ha
  have hmb := mask_eq n b _ rfl hn64 hb
  have hA : a % 2 ^ n < 2 ^ n := Nat.mod_lt _ (Nat.two_pow_pos n)
  have hB : b % 2 ^ n < 2 ^ n := Nat.mod_lt _ (Nat.two_pow_pos n)
  generalize a % 2 ^ n = A at *
  generalize b % 2 ^ n = B at *
  have hc := b2n_le c
  have hpow := pow_le_M64 hn64
  have hA64 : A < M64 := by omega
  have hB64 : B < M64 := by omega
  have hmr := mask_eq n ((A + B + b2n c) % M64) _ rfl hn64 (Nat.mod_lt _ (by decide))
  rw [Nat.mod_mod_of_dvd _ (pow_dvd_M64 hn64)] at hmr
  have hr64 : (A + B + b2n c) % 2 ^ n < M64 := Nat.lt_of_lt_of_le (Nat.mod_lt _ (Nat.two_pow_pos n)) hpow
  have hrr : (A + B + b2n c) % 2 ^ n = (A + B + b2n c) % 2 ^ n % 2 ^ n := (Nat.mod_mod _ _).symm
  have h64 := fun w => add64_law A B (b2n c) hc w
  have hov1 := fun hl => sum_over n (A + B + b2n c) hl (by omega)
  have hov2 := sum_over64 (A + B + b2n c) (by omega)
  generalize (A + B + b2n c) % M64 = s at *
  generalize (A + B + b2n c) / M64 = k at *
  generalize hCC : decide (2 ^ n ≤ A + B + b2n c) = C at *
  generalize (A + B + b2n c) % 2 ^ n = r at *
  rcases Nat.lt_or_ge n 64 with hlt | hge
  · have hov := hov1 hlt
    have hr := hid hrr
    clear hov1 hov2 hn64 hCC hpow hA hB hc hrr
    go_enter Try.func13, Try.ntmps13
    go_wp2_with (first | (go_at_call 38; (with_reducible refine (of_ok _ n h _).mono ?_); rintro e w' ⟨rfl, hb⟩; obtain ⟨hc, hf, hz⟩ := bcell hb; (try simp at hz); (try have hzz : w.heap.size < w'.heap.size := by omega); (try have hzz1 : w.heap.size + 1 < w'.heap.size := by omega); (try have hzz2 : w.heap.size + 2 < w'.heap.size := by omega); have hB := Below.trans (B := w.heap.size) (a := w) (by (repeat' (first | (with_reducible exact Below.refl _ _) | (with_reducible assumption) | (with_reducible refine Below.alloc ?_ ?_ _) | (with_reducible refine Below.drew ?_) | (with_reducible refine below_drewN ?_ _) | (with_reducible refine Below.setCell ?_ ?_ _) | (first | (with_reducible exact Nat.le_refl _) | (with_reducible assumption) | omega | (simp; omega) | (simp; done))))) (hb.mono (by (first | (with_reducible exact Nat.le_refl _) | (with_reducible assumption) | omega | (simp; omega) | (simp; done))))) | (go_at_call 40; (with_reducible refine (mask_calls n hn _).mono ?_); rintro e w' ⟨rfl, rfl⟩) | (go_at_call 42; (with_reducible refine (one_calls c _).mono ?_); rintro e w' ⟨rfl, rfl⟩) | (go_at_call 44; (with_reducible refine (top_calls n hn _ (by assumption) _).mono ?_); rintro e w' ⟨rfl, rfl⟩) | (go_at_call 43; (with_reducible refine (told_calls n hn r r hr64 hr.out _ _ _).mono ?_); rintro e w' ⟨rfl, hb⟩; obtain ⟨hc, hf, hz⟩ := bcell hb; (try simp at hz); (try have hzz : w.heap.size < w'.heap.size := by omega); (try have hzz1 : w.heap.size + 1 < w'.heap.size := by omega); (try have hzz2 : w.heap.size + 2 < w'.heap.size := by omega); have hB := Below.trans (B := w.heap.size) (a := w) (by (repeat' (first | (with_reducible exact Below.refl _ _) | (with_reducible assumption) | (with_reducible refine Below.alloc ?_ ?_ _) | (with_reducible refine Below.drew ?_) | (with_reducible refine below_drewN ?_ _) | (with_reducible refine Below.setCell ?_ ?_ _) | (first | (with_reducible exact Nat.le_refl _) | (with_reducible assumption) | omega | (simp; omega) | (simp; done))))) (hb.mono (by (first | (with_reducible exact Nat.le_refl _) | (with_reducible assumption) | omega | (simp; omega) | (simp; done))))))
    · rw [oAdd_eq (n := n) (A := A) (B := B) (by assumption)]
      refine bodyPost_ret (v := .tuple #[.int .u64 (r : Int), flagsV n r C (!(topB n r == topB n B)), .int .i64 0]) (by simp [results, Try.results13, go_sem, *]) rfl ?_
      exact ⟨rfl, by (repeat' (first | (with_reducible exact Below.refl _ _) | (with_reducible assumption) | (with_reducible refine Below.alloc ?_ ?_ _) | (with_reducible refine Below.drew ?_) | (with_reducible refine below_drewN ?_ _) | (with_reducible refine Below.setCell ?_ ?_ _) | (first | (with_reducible exact Nat.le_refl _) | (with_reducible assumption) | omega | (simp; omega) | (simp; done))))⟩
    · rw [oAdd_ne (n := n) (A := A) (B := B) (by assumption)]
      refine bodyPost_ret (v := .tuple #[.int .u64 (r : Int), flagsV n r C false, .int .i64 0]) (by simp [results, Try.results13, go_sem, *]) rfl ?_
      exact ⟨rfl, by (repeat' (first | (with_reducible exact Below.refl _ _) | (with_reducible assumption) | (with_reducible refine Below.alloc ?_ ?_ _) | (with_reducible refine Below.drew ?_) | (with_reducible refine below_drewN ?_ _) | (with_reducible refine Below.setCell ?_ ?_ _) | (first | (with_reducible exact Nat.le_refl _) | (with_reducible assumption) | omega | (simp; omega) | (simp; done))))⟩
  · have hov : ((k : Int) == 1) = C := by
      rw [← hCC, Bool.eq_iff_iff, hov2, decide_eq_true_eq, show n = 64 by omega]
    have hr := hid hrr
    clear hov1 hov2 hn64 hCC hpow hA hB hc hrr
    go_enter Try.func13, Try.ntmps13
    go_wp2_with (first | (go_at_call 38; (with_reducible refine (of_ok _ n h _).mono ?_); rintro e w' ⟨rfl, hb⟩; obtain ⟨hc, hf, hz⟩ := bcell hb; (try simp at hz); (try have hzz : w.heap.size < w'.heap.size := by omega); (try have hzz1 : w.heap.size + 1 < w'.heap.size := by omega); (try have hzz2 : w.heap.size + 2 < w'.heap.size := by omega); have hB := Below.trans (B := w.heap.size) (a := w) (by (repeat' (first | (with_reducible exact Below.refl _ _) | (with_reducible assumption) | (with_reducible refine Below.alloc ?_ ?_ _) | (with_reducible refine Below.drew ?_) | (with_reducible refine below_drewN ?_ _) | (with_reducible refine Below.setCell ?_ ?_ _) | (first | (with_reducible exact Nat.le_refl _) | (with_reducible assumption) | omega | (simp; omega) | (simp; done))))) (hb.mono (by (first | (with_reducible exact Nat.le_refl _) | (with_reducible assumption) | omega | (simp; omega) | (simp; done))))) | (go_at_call 40; (with_reducible refine (mask_calls n hn _).mono ?_); rintro e w' ⟨rfl, rfl⟩) | (go_at_call 42; (with_reducible refine (one_calls c _).mono ?_); rintro e w' ⟨rfl, rfl⟩) | (go_at_call 44; (with_reducible refine (top_calls n hn _ (by assumption) _).mono ?_); rintro e w' ⟨rfl, rfl⟩) | (go_at_call 43; (with_reducible refine (told_calls n hn r r hr64 hr.out _ _ _).mono ?_); rintro e w' ⟨rfl, hb⟩; obtain ⟨hc, hf, hz⟩ := bcell hb; (try simp at hz); (try have hzz : w.heap.size < w'.heap.size := by omega); (try have hzz1 : w.heap.size + 1 < w'.heap.size := by omega); (try have hzz2 : w.heap.size + 2 < w'.heap.size := by omega); have hB := Below.trans (B := w.heap.size) (a := w) (by (repeat' (first | (with_reducible exact Below.refl _ _) | (with_reducible assumption) | (with_reducible refine Below.alloc ?_ ?_ _) | (with_reducible refine Below.drew ?_) | (with_reducible refine below_drewN ?_ _) | (with_reducible refine Below.setCell ?_ ?_ _) | (first | (with_reducible exact Nat.le_refl _) | (with_reducible assumption) | omega | (simp; omega) | (simp; done))))) (hb.mono (by (first | (with_reducible exact Nat.le_refl _) | (with_reducible assumption) | omega | (simp; omega) | (simp; done))))))
    · rw [oAdd_eq (n := n) (A := A) (B := B) (by assumption)]
      refine bodyPost_ret (v := .tuple #[.int .u64 (r : Int), flagsV n r C (!(topB n r == topB n B)), .int .i64 0]) (by simp [results, Try.results13, go_sem, *]) rfl ?_
      exact ⟨rfl, by (repeat' (first | (with_reducible exact Below.refl _ _) | (with_reducible assumption) | (with_reducible refine Below.alloc ?_ ?_ _) | (with_reducible refine Below.drew ?_) | (with_reducible refine below_drewN ?_ _) | (with_reducible refine Below.setCell ?_ ?_ _) | (first | (with_reducible exact Nat.le_refl _) | (with_reducible assumption) | omega | (simp; omega) | (simp; done))))⟩
    · rw [oAdd_ne (n := n) (A := A) (B := B) (by assumption)]
      refine bodyPost_ret (v := .tuple #[.int .u64 (r : Int), flagsV n r C false, .int .i64 0]) (by simp [results, Try.results13, go_sem, *]) rfl ?_
      exact ⟨rfl, by (repeat' (first | (with_reducible exact Below.refl _ _) | (with_reducible assumption) | (with_reducible refine Below.alloc ?_ ?_ _) | (with_reducible refine Below.drew ?_) | (with_reducible refine below_drewN ?_ _) | (with_reducible refine Below.setCell ?_ ?_ _) | (first | (with_reducible exact Nat.le_refl _) | (with_reducible assumption) | omega | (simp; omega) | (simp; done))))⟩

theorem dif_mod (n A B c : Nat) (hn : n ≤ 64) (hB : B < 2 ^ n) (hc : c ≤ 1) : (A + M64 - B - c) % M64 % 2 ^ n = (A + 2 ^ n - B - c) % 2 ^ n := by
  rw [Nat.mod_mod_of_dvd _ (pow_dvd_M64 hn)]
  obtain ⟨q, hq⟩ := pow_dvd_M64 hn
  have hp := Nat.two_pow_pos n
  have hq1 : 1 ≤ q := by
    rcases Nat.eq_zero_or_pos q with h | h
    · subst h; exact absurd (hq.trans (Nat.mul_zero _)) (by decide)
    · exact h
  obtain ⟨p, rfl⟩ : ∃ p, q = p + 1 := ⟨q - 1, by omega⟩
  have e : A + M64 - B - c = (A + 2 ^ n - B - c) + 2 ^ n * p := by
    rw [hq, Nat.mul_succ]; omega
  rw [e, Nat.add_mul_mod_self_left]

theorem sub_ok (size : Int) (n : Nat) (h : SZ size n) (a b : Nat) (ha : a < M64) (hb : b < M64) (c : Bool) (w : World) :
    Calls Try.prog 15 #[.int .u64 (a : Int), .int .u64 (b : Int), .bool c, .int .i64 size] w fun e w' =>
      e = .returned (.tuple #[.int .u64 (difR n a b (b2n c) : Nat), flagsV n (difR n a b (b2n c)) (difC n a b (b2n c)) (difO n a b (b2n c)), .int .i64 0]) ∧ Below w.heap.size w w' := by
  have hn := h.cases
  unfold difO difC difR
  have hn64 : n ≤ 64 := by omega
  have hma := mask_eq n a _ rfl hn64 ha
  have hmb := mask_eq n b _ rfl hn64 hb
  have hA : a % 2 ^ n < 2 ^ n := Nat.mod_lt _ (Nat.two_pow_pos n)
  have hB : b % 2 ^ n < 2 ^ n := Nat.mod_lt _ (Nat.two_pow_pos n)
  generalize a % 2 ^ n = A at *
  generalize b % 2 ^ n = B at *
  have hc := b2n_le c
  have hpow := pow_le_M64 hn64
  have hA64 : A < M64 := by omega
  have hB64 : B < M64 := by omega
  have hmr := mask_eq n ((A + M64 - B - b2n c) % M64) _ rfl hn64 (Nat.mod_lt _ (by decide))
  rw [dif_mod n A B _ hn64 hB hc] at hmr
  have hr64 : (A + 2 ^ n - B - b2n c) % 2 ^ n < M64 := Nat.lt_of_lt_of_le (Nat.mod_lt _ (Nat.two_pow_pos n)) hpow
  have hrr : (A + 2 ^ n - B - b2n c) % 2 ^ n = (A + 2 ^ n - B - b2n c) % 2 ^ n % 2 ^ n := (Nat.mod_mod _ _).symm
  have h64 := fun w => sub64_law A B (b2n c) hc w
  have hov : (((if A < B + b2n c then 1 else 0 : Nat) : Int) == 1) = decide (A < B + b2n c) := by split <;> simp [*]
  generalize (A + M64 - B - b2n c) % M64 = s at *
  generalize (if A < B + b2n c then 1 else 0 : Nat) = k at *
  generalize decide (A < B + b2n c) = C at *
  generalize (A + 2 ^ n - B - b2n c) % 2 ^ n = r at *
  have hr := hid hrr
  clear hn64 hpow hA hB hc hrr
  go_enter Try.func15, Try.ntmps15
  go_wp2_with (first | (go_at_call 38; (with_reducible refine (of_ok _ n h _).mono ?_); rintro e w' ⟨rfl, hb⟩; obtain ⟨hc, hf, hz⟩ := bcell hb; (try simp at hz); (try have hzz : w.heap.size < w'.heap.size := by omega); (try have hzz1 : w.heap.size + 1 < w'.heap.size := by omega); (try have hzz2 : w.heap.size + 2 < w'.heap.size := by omega); have hB := Below.trans (B := w.heap.size) (a := w) (by (repeat' (first | (with_reducible exact Below.refl _ _) | (with_reducible assumption) | (with_reducible refine Below.alloc ?_ ?_ _) | (with_reducible refine Below.drew ?_) | (with_reducible refine below_drewN ?_ _) | (with_reducible refine Below.setCell ?_ ?_ _) | (first | (with_reducible exact Nat.le_refl _) | (with_reducible assumption) | omega | (simp; omega) | (simp; done))))) (hb.mono (by (first | (with_reducible exact Nat.le_refl _) | (with_reducible assumption) | omega | (simp; omega) | (simp; done))))) | (go_at_call 40; (with_reducible refine (mask_calls n hn _).mono ?_); rintro e w' ⟨rfl, rfl⟩) | (go_at_call 42; (with_reducible refine (one_calls c _).mono ?_); rintro e w' ⟨rfl, rfl⟩) | (go_at_call 44; (with_reducible refine (top_calls n hn _ (by assumption) _).mono ?_); rintro e w' ⟨rfl, rfl⟩) | (go_at_call 43; (with_reducible refine (told_calls n hn r r hr64 hr.out _ _ _).mono ?_); rintro e w' ⟨rfl, hb⟩; obtain ⟨hc, hf, hz⟩ := bcell hb; (try simp at hz); (try have hzz : w.heap.size < w'.heap.size := by omega); (try have hzz1 : w.heap.size + 1 < w'.heap.size := by omega); (try have hzz2 : w.heap.size + 2 < w'.heap.size := by omega); have hB := Below.trans (B := w.heap.size) (a := w) (by (repeat' (first | (with_reducible exact Below.refl _ _) | (with_reducible assumption) | (with_reducible refine Below.alloc ?_ ?_ _) | (with_reducible refine Below.drew ?_) | (with_reducible refine below_drewN ?_ _) | (with_reducible refine Below.setCell ?_ ?_ _) | (first | (with_reducible exact Nat.le_refl _) | (with_reducible assumption) | omega | (simp; omega) | (simp; done))))) (hb.mono (by (first | (with_reducible exact Nat.le_refl _) | (with_reducible assumption) | omega | (simp; omega) | (simp; done))))))
  · rw [oSub_ne (n := n) (A := A) (B := B) (by assumption)]
    refine bodyPost_ret (v := .tuple #[.int .u64 (r : Int), flagsV n r C false, .int .i64 0]) (by simp [results, Try.results15, go_sem, *]) rfl ?_
    exact ⟨rfl, by (repeat' (first | (with_reducible exact Below.refl _ _) | (with_reducible assumption) | (with_reducible refine Below.alloc ?_ ?_ _) | (with_reducible refine Below.drew ?_) | (with_reducible refine below_drewN ?_ _) | (with_reducible refine Below.setCell ?_ ?_ _) | (first | (with_reducible exact Nat.le_refl _) | (with_reducible assumption) | omega | (simp; omega) | (simp; done))))⟩
  · rw [oSub_eq (n := n) (A := A) (B := B) (by assumption)]
    refine bodyPost_ret (v := .tuple #[.int .u64 (r : Int), flagsV n r C (!(topB n r == topB n A)), .int .i64 0]) (by simp [results, Try.results15, go_sem, *]) rfl ?_
    exact ⟨rfl, by (repeat' (first | (with_reducible exact Below.refl _ _) | (with_reducible assumption) | (with_reducible refine Below.alloc ?_ ?_ _) | (with_reducible refine Below.drew ?_) | (with_reducible refine below_drewN ?_ _) | (with_reducible refine Below.setCell ?_ ?_ _) | (first | (with_reducible exact Nat.le_refl _) | (with_reducible assumption) | omega | (simp; omega) | (simp; done))))⟩

theorem add_no (size : Int) (h : NoSZ size) (a b : Int) (c : Bool) (w : World) :
    Calls Try.prog 13 #[.int .u64 a, .int .u64 b, .bool c, .int .i64 size] w fun e w' =>
      e = .returned (.tuple #[.int .u64 0, .agg #[.bool false, .bool false, .bool false, .bool false, .bool false], .int .i64 1]) ∧ Below w.heap.size w w' := by
  go_enter Try.func13, Try.ntmps13
  go_wp2_with (first | (go_at_call 38; (with_reducible refine (of_no _ h _).mono ?_); rintro e w' ⟨rfl, hb⟩; obtain ⟨hc, hf, hz⟩ := bcell hb; (try simp at hz); (try have hzz : w.heap.size < w'.heap.size := by omega); (try have hzz1 : w.heap.size + 1 < w'.heap.size := by omega); (try have hzz2 : w.heap.size + 2 < w'.heap.size := by omega); have hB := Below.trans (B := w.heap.size) (a := w) (by (repeat' (first | (with_reducible exact Below.refl _ _) | (with_reducible assumption) | (with_reducible refine Below.alloc ?_ ?_ _) | (with_reducible refine Below.drew ?_) | (with_reducible refine below_drewN ?_ _) | (with_reducible refine Below.setCell ?_ ?_ _) | (first | (with_reducible exact Nat.le_refl _) | (with_reducible assumption) | omega | (simp; omega) | (simp; done))))) (hb.mono (by (first | (with_reducible exact Nat.le_refl _) | (with_reducible assumption) | omega | (simp; omega) | (simp; done))))) | (go_at_call 39; (with_reducible refine (wrong_calls _).mono ?_); rintro e w' ⟨rfl, hb⟩; obtain ⟨hc, hf, hz⟩ := bcell hb; (try simp at hz); (try have hzz : w.heap.size < w'.heap.size := by omega); (try have hzz1 : w.heap.size + 1 < w'.heap.size := by omega); (try have hzz2 : w.heap.size + 2 < w'.heap.size := by omega); have hB := Below.trans (B := w.heap.size) (a := w) (by (repeat' (first | (with_reducible exact Below.refl _ _) | (with_reducible assumption) | (with_reducible refine Below.alloc ?_ ?_ _) | (with_reducible refine Below.drew ?_) | (with_reducible refine below_drewN ?_ _) | (with_reducible refine Below.setCell ?_ ?_ _) | (first | (with_reducible exact Nat.le_refl _) | (with_reducible assumption) | omega | (simp; omega) | (simp; done))))) (hb.mono (by (first | (with_reducible exact Nat.le_refl _) | (with_reducible assumption) | omega | (simp; omega) | (simp; done))))))
  refine bodyPost_ret (v := .tuple #[.int .u64 0, .agg #[.bool false, .bool false, .bool false, .bool false, .bool false], .int .i64 1]) (by simp [results, Try.results13, go_sem, *]) rfl ?_
  exact ⟨rfl, by (repeat' (first | (with_reducible exact Below.refl _ _) | (with_reducible assumption) | (with_reducible refine Below.alloc ?_ ?_ _) | (with_reducible refine Below.drew ?_) | (with_reducible refine below_drewN ?_ _) | (with_reducible refine Below.setCell ?_ ?_ _) | (first | (with_reducible exact Nat.le_refl _) | (with_reducible assumption) | omega | (simp; omega) | (simp; done))))⟩

theorem sub_no (size : Int) (h : NoSZ size) (a b : Int) (c : Bool) (w : World) :
    Calls Try.prog 15 #[.int .u64 a, .int .u64 b, .bool c, .int .i64 size] w fun e w' =>
      e = .returned (.tuple #[.int .u64 0, .agg #[.bool false, .bool false, .bool false, .bool false, .bool false], .int .i64 1]) ∧ Below w.heap.size w w' := by
  go_enter Try.func15, Try.ntmps15
  go_wp2_with (first | (go_at_call 38; (with_reducible refine (of_no _ h _).mono ?_); rintro e w' ⟨rfl, hb⟩; obtain ⟨hc, hf, hz⟩ := bcell hb; (try simp at hz); (try have hzz : w.heap.size < w'.heap.size := by omega); (try have hzz1 : w.heap.size + 1 < w'.heap.size := by omega); (try have hzz2 : w.heap.size + 2 < w'.heap.size := by omega); have hB := Below.trans (B := w.heap.size) (a := w) (by (repeat' (first | (with_reducible exact Below.refl _ _) | (with_reducible assumption) | (with_reducible refine Below.alloc ?_ ?_ _) | (with_reducible refine Below.drew ?_) | (with_reducible refine below_drewN ?_ _) | (with_reducible refine Below.setCell ?_ ?_ _) | (first | (with_reducible exact Nat.le_refl _) | (with_reducible assumption) | omega | (simp; omega) | (simp; done))))) (hb.mono (by (first | (with_reducible exact Nat.le_refl _) | (with_reducible assumption) | omega | (simp; omega) | (simp; done))))) | (go_at_call 39; (with_reducible refine (wrong_calls _).mono ?_); rintro e w' ⟨rfl, hb⟩; obtain ⟨hc, hf, hz⟩ := bcell hb; (try simp at hz); (try have hzz : w.heap.size < w'.heap.size := by omega); (try have hzz1 : w.heap.size + 1 < w'.heap.size := by omega); (try have hzz2 : w.heap.size + 2 < w'.heap.size := by omega); have hB := Below.trans (B := w.heap.size) (a := w) (by (repeat' (first | (with_reducible exact Below.refl _ _) | (with_reducible assumption) | (with_reducible refine Below.alloc ?_ ?_ _) | (with_reducible refine Below.drew ?_) | (with_reducible refine below_drewN ?_ _) | (with_reducible refine Below.setCell ?_ ?_ _) | (first | (with_reducible exact Nat.le_refl _) | (with_reducible assumption) | omega | (simp; omega) | (simp; done))))) (hb.mono (by (first | (with_reducible exact Nat.le_refl _) | (with_reducible assumption) | omega | (simp; omega) | (simp; done))))))
  refine bodyPost_ret (v := .tuple #[.int .u64 0, .agg #[.bool false, .bool false, .bool false, .bool false, .bool false], .int .i64 1]) (by simp [results, Try.results15, go_sem, *]) rfl ?_
  exact ⟨rfl, by (repeat' (first | (with_reducible exact Below.refl _ _) | (with_reducible assumption) | (with_reducible refine Below.alloc ?_ ?_ _) | (with_reducible refine Below.drew ?_) | (with_reducible refine below_drewN ?_ _) | (with_reducible refine Below.setCell ?_ ?_ _) | (first | (with_reducible exact Nat.le_refl _) | (with_reducible assumption) | omega | (simp; omega) | (simp; done))))⟩
end Go.Proofs.Ytknopookopfoeaa.Alu
