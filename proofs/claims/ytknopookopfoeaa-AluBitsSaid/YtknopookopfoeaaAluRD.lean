/- What the reference's One, Shift, Mul come to. -/
import Derived.Test.YtknopookopfoeaaAluRB
import Derived.Deep.RegionWith
namespace Go.Proofs.Ytknopookopfoeaa.AluR
open Go.RowKit Go.Proofs.Ytknopookopfoeaa.AluMath

theorem not_u64 (a : Nat) (ha : a < M64) : bits .xor .u64 IntKind.u64.max (a : Int) = ((M64 - 1 - a : Nat) : Int) := by
  show bits .xor .u64 18446744073709551615 (a : Int) = _
  have e := u64_xor_nat 18446744073709551615 a (by decide) ha
  rw [show ((18446744073709551615 : Nat) : Int) = 18446744073709551615 from rfl] at e
  rw [e]
  congr 1
  have h3 : (BitVec.ofNat 64 a).toNat = a := by rw [BitVec.toNat_ofNat]; exact Nat.mod_eq_of_lt ha
  have h4 := BitVec.toNat_not (x := BitVec.ofNat 64 a)
  rw [h3, ← BitVec.xor_allOnes, BitVec.toNat_xor, h3, BitVec.toNat_allOnes, Nat.xor_comm] at h4
  exact h4


theorem Add_ok0 (size : Int) (n : Nat) (hS : SZ size n) (a b : Nat) (ha : a < M64) (hb : b < M64) (w : World) :
    Calls Try.prog 23 #[.int .u64 (a : Int), .int .u64 (b : Int), .bool false, .int .i64 size] w fun e w' =>
      e = .returned (.tuple #[.int .u64 (sumR n a b 0 : Nat), flagsV n (sumR n a b 0) (sumC n a b 0) (sumO n a b 0), .int .i64 0]) ∧ Below w.heap.size w w' := Add_ok size n hS a b ha hb false w
theorem Sub_ok0 (size : Int) (n : Nat) (hS : SZ size n) (a b : Nat) (ha : a < M64) (hb : b < M64) (w : World) :
    Calls Try.prog 24 #[.int .u64 (a : Int), .int .u64 (b : Int), .bool false, .int .i64 size] w fun e w' =>
      e = .returned (.tuple #[.int .u64 (difR n a b 0 : Nat), flagsV n (difR n a b 0) (difC n a b 0) (difO n a b 0), .int .i64 0]) ∧ Below w.heap.size w w' := Sub_ok size n hS a b ha hb false w

set_option maxHeartbeats 1000000 in
theorem One_inc (size : Int) (n : Nat) (hS : SZ size n) (a : Nat) (ha : a < M64) (c p z s o : Bool) (w : World) :
    Calls Try.prog 37 #[.int .i64 15, .int .u64 (a : Int), fl c p z s o, .int .i64 size] w fun e w' =>
      e = .returned (.tuple #[.int .u64 (sumR n a 1 0 : Nat), flagsV n (sumR n a 1 0) c (sumO n a 1 0), .int .i64 0]) ∧ Below w.heap.size w w' := by
  have hn0 : ((n : Int) == 0) = false := by have := hS.cases; simp; omega
  have c1 := Add_ok0 size n hS a 1 ha (by decide)
  go_enter Try.func37, Try.ntmps37
  go_wp2_with (first | (go_at_call 49; (with_reducible refine (Bits_ok _ n hS _).mono ?_); rintro e w' ⟨rfl, rfl⟩) | (go_at_call 23; (refine (c1 _).mono ?_); rintro e w' ⟨rfl, hb⟩; obtain ⟨hc, hf, hz⟩ := bcell hb; (try simp at hz); (try have hzz : w.heap.size < w'.heap.size := by omega); (try have hzz1 : w.heap.size + 1 < w'.heap.size := by omega); (try have hzz2 : w.heap.size + 2 < w'.heap.size := by omega); have hB := Below.trans (B := w.heap.size) (a := w) (by (repeat' (first | (with_reducible exact Below.refl _ _) | (with_reducible assumption) | (with_reducible refine Below.alloc ?_ ?_ _) | (with_reducible refine Below.drew ?_) | (with_reducible refine below_drewN ?_ _) | (with_reducible refine Below.setCell ?_ ?_ _) | (first | (with_reducible exact Nat.le_refl _) | (with_reducible assumption) | omega | (simp; omega) | (simp; done))))) (hb.mono (by (first | (with_reducible exact Nat.le_refl _) | (with_reducible assumption) | omega | (simp; omega) | (simp; done))))))
  go_region
  go_wp2
  refine bodyPost_ret (v := .tuple #[.int .u64 (sumR n a 1 0 : Nat), flagsV n (sumR n a 1 0) c (sumO n a 1 0), .int .i64 0]) (by simp [results, Try.results37, go_sem, *]) rfl ?_
  exact ⟨rfl, by (repeat' (first | (with_reducible exact Below.refl _ _) | (with_reducible assumption) | (with_reducible refine Below.alloc ?_ ?_ _) | (with_reducible refine Below.drew ?_) | (with_reducible refine below_drewN ?_ _) | (with_reducible refine Below.setCell ?_ ?_ _) | (first | (with_reducible exact Nat.le_refl _) | (with_reducible assumption) | omega | (simp; omega) | (simp; done))))⟩

set_option maxHeartbeats 1000000 in
theorem One_dec (size : Int) (n : Nat) (hS : SZ size n) (a : Nat) (ha : a < M64) (c p z s o : Bool) (w : World) :
    Calls Try.prog 37 #[.int .i64 16, .int .u64 (a : Int), fl c p z s o, .int .i64 size] w fun e w' =>
      e = .returned (.tuple #[.int .u64 (difR n a 1 0 : Nat), flagsV n (difR n a 1 0) c (difO n a 1 0), .int .i64 0]) ∧ Below w.heap.size w w' := by
  have hn0 : ((n : Int) == 0) = false := by have := hS.cases; simp; omega
  have c1 := Sub_ok0 size n hS a 1 ha (by decide)
  go_enter Try.func37, Try.ntmps37
  go_wp2_with (first | (go_at_call 49; (with_reducible refine (Bits_ok _ n hS _).mono ?_); rintro e w' ⟨rfl, rfl⟩) | (go_at_call 24; (refine (c1 _).mono ?_); rintro e w' ⟨rfl, hb⟩; obtain ⟨hc, hf, hz⟩ := bcell hb; (try simp at hz); (try have hzz : w.heap.size < w'.heap.size := by omega); (try have hzz1 : w.heap.size + 1 < w'.heap.size := by omega); (try have hzz2 : w.heap.size + 2 < w'.heap.size := by omega); have hB := Below.trans (B := w.heap.size) (a := w) (by (repeat' (first | (with_reducible exact Below.refl _ _) | (with_reducible assumption) | (with_reducible refine Below.alloc ?_ ?_ _) | (with_reducible refine Below.drew ?_) | (with_reducible refine below_drewN ?_ _) | (with_reducible refine Below.setCell ?_ ?_ _) | (first | (with_reducible exact Nat.le_refl _) | (with_reducible assumption) | omega | (simp; omega) | (simp; done))))) (hb.mono (by (first | (with_reducible exact Nat.le_refl _) | (with_reducible assumption) | omega | (simp; omega) | (simp; done))))))
  go_region
  go_wp2
  refine bodyPost_ret (v := .tuple #[.int .u64 (difR n a 1 0 : Nat), flagsV n (difR n a 1 0) c (difO n a 1 0), .int .i64 0]) (by simp [results, Try.results37, go_sem, *]) rfl ?_
  exact ⟨rfl, by (repeat' (first | (with_reducible exact Below.refl _ _) | (with_reducible assumption) | (with_reducible refine Below.alloc ?_ ?_ _) | (with_reducible refine Below.drew ?_) | (with_reducible refine below_drewN ?_ _) | (with_reducible refine Below.setCell ?_ ?_ _) | (first | (with_reducible exact Nat.le_refl _) | (with_reducible assumption) | omega | (simp; omega) | (simp; done))))⟩

set_option maxHeartbeats 1000000 in
theorem One_neg (size : Int) (n : Nat) (hS : SZ size n) (a : Nat) (ha : a < M64) (c p z s o : Bool) (w : World) :
    Calls Try.prog 37 #[.int .i64 13, .int .u64 (a : Int), fl c p z s o, .int .i64 size] w fun e w' =>
      e = .returned (.tuple #[.int .u64 (difR n 0 a 0 : Nat), flagsV n (difR n 0 a 0) (difC n 0 a 0) (difO n 0 a 0), .int .i64 0]) ∧ Below w.heap.size w w' := by
  have hn0 : ((n : Int) == 0) = false := by have := hS.cases; simp; omega
  have c1 := Sub_ok0 size n hS 0 a (by decide) ha
  go_enter Try.func37, Try.ntmps37
  go_wp2_with (first | (go_at_call 49; (with_reducible refine (Bits_ok _ n hS _).mono ?_); rintro e w' ⟨rfl, rfl⟩) | (go_at_call 24; (refine (c1 _).mono ?_); rintro e w' ⟨rfl, hb⟩; obtain ⟨hc, hf, hz⟩ := bcell hb; (try simp at hz); (try have hzz : w.heap.size < w'.heap.size := by omega); (try have hzz1 : w.heap.size + 1 < w'.heap.size := by omega); (try have hzz2 : w.heap.size + 2 < w'.heap.size := by omega); have hB := Below.trans (B := w.heap.size) (a := w) (by (repeat' (first | (with_reducible exact Below.refl _ _) | (with_reducible assumption) | (with_reducible refine Below.alloc ?_ ?_ _) | (with_reducible refine Below.drew ?_) | (with_reducible refine below_drewN ?_ _) | (with_reducible refine Below.setCell ?_ ?_ _) | (first | (with_reducible exact Nat.le_refl _) | (with_reducible assumption) | omega | (simp; omega) | (simp; done))))) (hb.mono (by (first | (with_reducible exact Nat.le_refl _) | (with_reducible assumption) | omega | (simp; omega) | (simp; done))))))
  refine bodyPost_ret (v := .tuple #[.int .u64 (difR n 0 a 0 : Nat), flagsV n (difR n 0 a 0) (difC n 0 a 0) (difO n 0 a 0), .int .i64 0]) (by simp [results, Try.results37, go_sem, *]) rfl ?_
  exact ⟨rfl, by (repeat' (first | (with_reducible exact Below.refl _ _) | (with_reducible assumption) | (with_reducible refine Below.alloc ?_ ?_ _) | (with_reducible refine Below.drew ?_) | (with_reducible refine below_drewN ?_ _) | (with_reducible refine Below.setCell ?_ ?_ _) | (first | (with_reducible exact Nat.le_refl _) | (with_reducible assumption) | omega | (simp; omega) | (simp; done))))⟩

set_option maxHeartbeats 1000000 in
theorem One_not (size : Int) (n : Nat) (hS : SZ size n) (a : Nat) (ha : a < M64) (c p z s o : Bool) (w : World) :
    Calls Try.prog 37 #[.int .i64 14, .int .u64 (a : Int), fl c p z s o, .int .i64 size] w fun e w' =>
      e = .returned (.tuple #[.int .u64 ((M64 - 1 - a) % 2 ^ n : Nat), fl c p z s o, .int .i64 0]) ∧ Below w.heap.size w w' := by
  have hn0 : ((n : Int) == 0) = false := by have := hS.cases; simp; omega
  have e := not_u64 a ha
  have hl : M64 - 1 - a < M64 := by omega
  generalize M64 - 1 - a = v at *
  have c1 := low_calls v hl n (by have := hS.cases; omega)
  generalize v % 2 ^ n = V at *
  go_enter Try.func37, Try.ntmps37
  go_wp2_with (first | (go_at_call 49; (with_reducible refine (Bits_ok _ n hS _).mono ?_); rintro e w' ⟨rfl, rfl⟩))
  have hsg : IntKind.u64.signed = false := rfl
  go_region_with (go_at_call 52; refine (c1 _).mono ?_; rintro e w' ⟨rfl, rfl⟩)
  all_goals
    go_wp2
    refine bodyPost_ret (v := .tuple #[.int .u64 (V : Nat), fl c p z s o, .int .i64 0]) (by simp [results, Try.results37, go_sem, *]) rfl ?_
    exact ⟨rfl, by (repeat' (first | (with_reducible exact Below.refl _ _) | (with_reducible assumption) | (with_reducible refine Below.alloc ?_ ?_ _) | (with_reducible refine Below.drew ?_) | (with_reducible refine below_drewN ?_ _) | (with_reducible refine Below.setCell ?_ ?_ _) | (first | (with_reducible exact Nat.le_refl _) | (with_reducible assumption) | omega | (simp; omega) | (simp; done))))⟩

theorem One_no_size (op size : Int) (hS : NoSZ size) (a : Int) (c p z s o : Bool) (w : World) :
    Calls Try.prog 37 #[.int .i64 op, .int .u64 a, fl c p z s o, .int .i64 size] w fun e w' => e = .returned wrongV ∧ Below w.heap.size w w' := by
  go_enter Try.func37, Try.ntmps37
  go_wp2_with (first | (go_at_call 49; (with_reducible refine (Bits_no _ hS _).mono ?_); rintro e w' ⟨rfl, rfl⟩))
  refine bodyPost_ret (v := wrongV) (by simp [results, Try.results37, go_sem, *]) rfl ?_
  exact ⟨rfl, by (repeat' (first | (with_reducible exact Below.refl _ _) | (with_reducible assumption) | (with_reducible refine Below.alloc ?_ ?_ _) | (with_reducible refine Below.drew ?_) | (with_reducible refine below_drewN ?_ _) | (with_reducible refine Below.setCell ?_ ?_ _) | (first | (with_reducible exact Nat.le_refl _) | (with_reducible assumption) | omega | (simp; omega) | (simp; done))))⟩

theorem One_no_op (op size : Int) (n : Nat) (hS : SZ size n) (hop : ¬ OneOp op) (a : Int) (c p z s o : Bool) (w : World) :
    Calls Try.prog 37 #[.int .i64 op, .int .u64 a, fl c p z s o, .int .i64 size] w fun e w' => e = .returned wrongV ∧ Below w.heap.size w w' := by
  have hn0 : ((n : Int) == 0) = false := by have := hS.cases; simp; omega
  unfold OneOp at hop
  have k1 : (op == 13) = false := by simp; omega
  have k2 : (op == 14) = false := by simp; omega
  have k3 : (op == 15) = false := by simp; omega
  have k4 : (op == 16) = false := by simp; omega
  clear hop
  go_enter Try.func37, Try.ntmps37
  go_wp2_with (first | (go_at_call 49; (with_reducible refine (Bits_ok _ n hS _).mono ?_); rintro e w' ⟨rfl, rfl⟩))
  refine bodyPost_ret (v := wrongV) (by simp [results, Try.results37, go_sem, *]) rfl ?_
  exact ⟨rfl, by (repeat' (first | (with_reducible exact Below.refl _ _) | (with_reducible assumption) | (with_reducible refine Below.alloc ?_ ?_ _) | (with_reducible refine Below.drew ?_) | (with_reducible refine below_drewN ?_ _) | (with_reducible refine Below.setCell ?_ ?_ _) | (first | (with_reducible exact Nat.le_refl _) | (with_reducible assumption) | omega | (simp; omega) | (simp; done))))⟩
end Go.Proofs.Ytknopookopfoeaa.AluR
