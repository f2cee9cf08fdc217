/- What each function of package alu comes to: contracts, callees first. -/
import Derived.Test.YtknopookopfoeaaProg
import Derived.Test.YtknopookopfoeaaAluMath
import Derived.WalkKit
import Derived.WalkSpells
import Derived.WalkLawsBesides
import Derived.LoopN
import Derived.KernelRfl
import Derived.Deep.QuietTactic
import Derived.BigQuiet
import Derived.Deep.RegionHeld3
import Derived.Laws.BitsAllLaws
namespace Go.Proofs.Ytknopookopfoeaa.Alu
open Go.RowKit Go.Proofs.Ytknopookopfoeaa.AluMath

def widthsV : Value := .agg #[.int .i64 1, .int .i64 8, .int .i64 4, .int .i64 32, .int .i64 8, .int .i64 64]

theorem widths_calls (w : World) : Calls Try.prog 60 #[] w fun e w' => e = .returned widthsV ∧ Below w.heap.size w w' := by
  go_enter Try.func60, Try.ntmps60
  go_wp2
  refine bodyPost_ret (v := widthsV) (by simp [results, Try.results60, go_sem, widthsV]) rfl ?_
  exact ⟨rfl, (Below.refl _ _).alloc (Nat.le_refl _) _⟩

theorem wi0 (w : World) : (Instr.index 85 widthsV (.int .i64 0)).run Try.prog w = .ok (.agg #[.int .i64 1, .int .i64 8]) w := by kernel_rfl
theorem wi1 (w : World) : (Instr.index 85 widthsV (.int .i64 1)).run Try.prog w = .ok (.agg #[.int .i64 4, .int .i64 32]) w := by kernel_rfl
theorem wi2 (w : World) : (Instr.index 85 widthsV (.int .i64 2)).run Try.prog w = .ok (.agg #[.int .i64 8, .int .i64 64]) w := by kernel_rfl

theorem of_ok (size : Int) (n : Nat) (h : SZ size n) (w : World) :
    Calls Try.prog 38 #[.int .i64 size] w fun e w' => e = .returned (.tuple #[.int .i64 (n : Int), .bool true]) ∧ Below w.heap.size w w' := by
  have i0 := wi0
  have i1 := wi1
  have i2 := wi2
  rcases h with ⟨rfl, rfl⟩ | ⟨rfl, rfl⟩ | ⟨rfl, rfl⟩
  all_goals
    go_enter Try.func38, Try.ntmps38
    go_wp2_with (go_at_call 60; refine (widths_calls _).mono ?_; rintro e w' ⟨rfl, hb⟩)
    have hc := hb.size
    (refine wp_loop_rounds 4 ?_; repeat any_goals (rw [rounds_succ]; go_wp2))
    (first | (refine bodyPost_ret (results_tmp rfl _ _ _) rfl ?_) | (refine bodyPost_ret (results_none rfl _ _ _) rfl ?_) | (refine bodyPost_end (results_none rfl _ _ _) rfl ?_) | go_ret2 | go_ret3)
    exact ⟨rfl, by (repeat' (first | (with_reducible exact Below.refl _ _) | (with_reducible assumption) | (with_reducible refine Below.alloc ?_ ?_ _) | (with_reducible refine Below.drew ?_) | (with_reducible refine below_drewN ?_ _) | (with_reducible refine Below.setCell ?_ ?_ _) | (first | (with_reducible exact Nat.le_refl _) | (with_reducible assumption) | omega | (simp; omega) | (simp; done))))⟩

theorem of_no (size : Int) (h : NoSZ size) (w : World) :
    Calls Try.prog 38 #[.int .i64 size] w fun e w' => e = .returned (.tuple #[.int .i64 0, .bool false]) ∧ Below w.heap.size w w' := by
  have i0 := wi0
  have i1 := wi1
  have i2 := wi2
  obtain ⟨h1, h2, h3⟩ := h
  have k1 : ((1 : Int) == size) = false := by simp; omega
  have k2 : ((4 : Int) == size) = false := by simp; omega
  have k3 : ((8 : Int) == size) = false := by simp; omega
  clear h1 h2 h3
  go_enter Try.func38, Try.ntmps38
  go_wp2_with (go_at_call 60; refine (widths_calls _).mono ?_; rintro e w' ⟨rfl, hb⟩)
  have hc := hb.size
  (refine wp_loop_rounds 4 ?_; repeat any_goals (rw [rounds_succ]; go_wp2))
  (first | (refine bodyPost_ret (results_tmp rfl _ _ _) rfl ?_) | (refine bodyPost_ret (results_none rfl _ _ _) rfl ?_) | (refine bodyPost_end (results_none rfl _ _ _) rfl ?_) | go_ret2 | go_ret3)
  exact ⟨rfl, by (repeat' (first | (with_reducible exact Below.refl _ _) | (with_reducible assumption) | (with_reducible refine Below.alloc ?_ ?_ _) | (with_reducible refine Below.drew ?_) | (with_reducible refine below_drewN ?_ _) | (with_reducible refine Below.setCell ?_ ?_ _) | (first | (with_reducible exact Nat.le_refl _) | (with_reducible assumption) | omega | (simp; omega) | (simp; done))))⟩


theorem mask_calls (n : Nat) (hn : n = 8 ∨ n = 32 ∨ n = 64) (w : World) :
    Calls Try.prog 40 #[.int .i64 (n : Int)] w fun e w' => e = .returned (.int .u64 ((2 ^ n - 1 : Nat) : Int)) ∧ w = w' := by
  rcases hn with rfl | rfl | rfl
  all_goals
    go_enter Try.func40, Try.ntmps40
    go_wp2
    (first | (refine bodyPost_ret (results_tmp rfl _ _ _) rfl ?_) | (refine bodyPost_ret (results_none rfl _ _ _) rfl ?_) | (refine bodyPost_end (results_none rfl _ _ _) rfl ?_) | go_ret2 | go_ret3)
    exact ⟨rfl, rfl⟩

theorem top_calls (n : Nat) (hn : n = 8 ∨ n = 32 ∨ n = 64) (x : Nat) (hx : x < M64) (w : World) :
    Calls Try.prog 44 #[.int .u64 (x : Int), .int .i64 (n : Int)] w fun e w' => e = .returned (.bool (topB n x)) ∧ w = w' := by
  rcases hn with rfl | rfl | rfl
  all_goals
    go_enter Try.func44, Try.ntmps44
    go_wp2
    (first | (refine bodyPost_ret (results_tmp rfl _ _ _) rfl ?_) | (refine bodyPost_ret (results_none rfl _ _ _) rfl ?_) | (refine bodyPost_end (results_none rfl _ _ _) rfl ?_) | go_ret2 | go_ret3)
    exact ⟨ret_bool (top_eq _ x _ rfl hx), rfl⟩

theorem signed_calls (n : Nat) (hn : n = 8 ∨ n = 32 ∨ n = 64) (x : Nat) (hx : x < 2 ^ n) (w : World) :
    Calls Try.prog 53 #[.int .u64 (x : Int), .int .i64 (n : Int)] w fun e w' => e = .returned (.int .u64 (sext n x : Int)) ∧ w = w' := by
  rcases hn with rfl | rfl | rfl
  · have e := sext8 x hx
    go_enter Try.func53, Try.ntmps53
    go_wp2
    (first | (refine bodyPost_ret (results_tmp rfl _ _ _) rfl ?_) | (refine bodyPost_ret (results_none rfl _ _ _) rfl ?_) | (refine bodyPost_end (results_none rfl _ _ _) rfl ?_) | go_ret2 | go_ret3)
    exact ⟨rfl, rfl⟩
  · have e := sext32 x hx
    go_enter Try.func53, Try.ntmps53
    go_wp2
    (first | (refine bodyPost_ret (results_tmp rfl _ _ _) rfl ?_) | (refine bodyPost_ret (results_none rfl _ _ _) rfl ?_) | (refine bodyPost_end (results_none rfl _ _ _) rfl ?_) | go_ret2 | go_ret3)
    exact ⟨rfl, rfl⟩
  · have e := sext64 x hx
    go_enter Try.func53, Try.ntmps53
    go_wp2
    (first | (refine bodyPost_ret (results_tmp rfl _ _ _) rfl ?_) | (refine bodyPost_ret (results_none rfl _ _ _) rfl ?_) | (refine bodyPost_end (results_none rfl _ _ _) rfl ?_) | go_ret2 | go_ret3)
    exact ⟨rfl, rfl⟩

set_option maxRecDepth 1000000 in
theorem ones_calls (x : Nat) (hx : x < 256) (w : World) :
    Calls Try.prog 61 #[.int .u8 (x : Int)] w fun e w' => e = .returned (.int .i64 (pop8 x : Int)) ∧ w = w' := by
  have h0 : (0 : Int) ≤ (x : Int) := by omega
  have h1 : (x : Int) < 256 := by omega
  go_enter Try.func61, Try.ntmps61
  go_wp2
  (first | (refine bodyPost_ret (results_tmp rfl _ _ _) rfl ?_) | (refine bodyPost_ret (results_none rfl _ _ _) rfl ?_) | (refine bodyPost_end (results_none rfl _ _ _) rfl ?_) | go_ret2 | go_ret3)
  refine ⟨ret_int ?_, rfl⟩
  have e := tab8_all ⟨x, hx⟩
  have hp : pop8 x ≤ 8 := by unfold pop8; omega
  have hs : x < tab8.size := hx
  have e2 : (tab8[x]'hs).toNat = pop8 x := by rw [← e]; simp [ByteArray.get!, ByteArray.getElem_eq_getElem_data, getElem!_pos, hs]
  show wrap64 ((tab8[x]'hs).toNat : Int) = _
  rw [e2]
  unfold wrap64
  omega

theorem told_calls (n : Nat) (hn : n = 8 ∨ n = 32 ∨ n = 64) (r v : Nat) (hr : r < M64) (hv' : v = r % 2 ^ n) (c o : Bool) (w : World) :
    Calls Try.prog 43 #[.int .u64 (r : Int), .int .i64 (n : Int), .bool c, .bool o] w fun e w' =>
      e = .returned (.tuple #[.int .u64 (v : Int), flagsV n v c o, .int .i64 0]) ∧ Below w.heap.size w w' := by
  have hv : v < M64 := by rw [hv']; exact Nat.lt_of_le_of_lt (Nat.mod_le _ _) hr
  have hm := mask_eq n r _ rfl (by omega) hr
  rw [← hv'] at hm
  clear hv'
  have hp : pop8 (v % 256) ≤ 8 := by unfold pop8; omega
  go_enter Try.func43, Try.ntmps43
  go_wp2_with (first | (go_at_call 40; refine (mask_calls n hn _).mono ?_; rintro e w' ⟨rfl, rfl⟩) | (go_at_call 44; refine (top_calls n hn _ hv _).mono ?_; rintro e w' ⟨rfl, rfl⟩) | (go_at_call 61; refine (ones_calls (v % 256) (by omega) _).mono ?_; rintro e w' ⟨rfl, rfl⟩))
  refine bodyPost_ret (v := .tuple #[.int .u64 (v : Int), flagsV n v c o, .int .i64 0]) (by simp [results, Try.results43, go_sem, parB, zB]) rfl ?_
  exact ⟨rfl, by (repeat' (first | (with_reducible exact Below.refl _ _) | (with_reducible assumption) | (with_reducible refine Below.alloc ?_ ?_ _) | (with_reducible refine Below.drew ?_) | (with_reducible refine below_drewN ?_ _) | (with_reducible refine Below.setCell ?_ ?_ _) | (first | (with_reducible exact Nat.le_refl _) | (with_reducible assumption) | omega | (simp; omega) | (simp; done))))⟩

theorem wrong_calls (w : World) :
    Calls Try.prog 39 #[] w fun e w' =>
      e = .returned (.tuple #[.int .u64 0, .agg #[.bool false, .bool false, .bool false, .bool false, .bool false], .int .i64 1]) ∧ Below w.heap.size w w' := by
  go_enter Try.func39, Try.ntmps39
  go_wp2
  refine bodyPost_ret (v := .tuple #[.int .u64 0, .agg #[.bool false, .bool false, .bool false, .bool false, .bool false], .int .i64 1]) (by simp [results, Try.results39, go_sem, *]) rfl ?_
  exact ⟨rfl, by (repeat' (first | (with_reducible exact Below.refl _ _) | (with_reducible assumption) | (with_reducible refine Below.alloc ?_ ?_ _) | (with_reducible refine Below.drew ?_) | (with_reducible refine below_drewN ?_ _) | (with_reducible refine Below.setCell ?_ ?_ _) | (first | (with_reducible exact Nat.le_refl _) | (with_reducible assumption) | omega | (simp; omega) | (simp; done))))⟩

theorem trim_ok (size : Int) (n : Nat) (h : SZ size n) (x : Nat) (hx : x < M64) (w : World) :
    Calls Try.prog 25 #[.int .u64 (x : Int), .int .i64 size] w fun e w' => e = .returned (.tuple #[.int .u64 (x % 2 ^ n : Nat), .int .i64 0]) ∧ Below w.heap.size w w' := by
  have hn := h.cases
  have hm := mask_eq n x _ rfl (by omega) hx
  go_enter Try.func25, Try.ntmps25
  go_wp2_with (first | (go_at_call 38; refine (of_ok _ n h _).mono ?_; rintro e w' ⟨rfl, hb⟩) | (go_at_call 40; refine (mask_calls n hn _).mono ?_; rintro e w' ⟨rfl, rfl⟩))
  (first | (refine bodyPost_ret (results_tmp rfl _ _ _) rfl ?_) | (refine bodyPost_ret (results_none rfl _ _ _) rfl ?_) | (refine bodyPost_end (results_none rfl _ _ _) rfl ?_) | go_ret2 | go_ret3)
  exact ⟨rfl, by (repeat' (first | (with_reducible exact Below.refl _ _) | (with_reducible assumption) | (with_reducible refine Below.alloc ?_ ?_ _) | (with_reducible refine Below.drew ?_) | (with_reducible refine below_drewN ?_ _) | (with_reducible refine Below.setCell ?_ ?_ _) | (first | (with_reducible exact Nat.le_refl _) | (with_reducible assumption) | omega | (simp; omega) | (simp; done))))⟩

theorem trim_no (size : Int) (h : NoSZ size) (x : Int) (w : World) :
    Calls Try.prog 25 #[.int .u64 x, .int .i64 size] w fun e w' => e = .returned (.tuple #[.int .u64 0, .int .i64 1]) ∧ Below w.heap.size w w' := by
  go_enter Try.func25, Try.ntmps25
  go_wp2_with (first | (go_at_call 38; refine (of_no _ h _).mono ?_; rintro e w' ⟨rfl, hb⟩))
  (first | (refine bodyPost_ret (results_tmp rfl _ _ _) rfl ?_) | (refine bodyPost_ret (results_none rfl _ _ _) rfl ?_) | (refine bodyPost_end (results_none rfl _ _ _) rfl ?_) | go_ret2 | go_ret3)
  exact ⟨rfl, by (repeat' (first | (with_reducible exact Below.refl _ _) | (with_reducible assumption) | (with_reducible refine Below.alloc ?_ ?_ _) | (with_reducible refine Below.drew ?_) | (with_reducible refine below_drewN ?_ _) | (with_reducible refine Below.setCell ?_ ?_ _) | (first | (with_reducible exact Nat.le_refl _) | (with_reducible assumption) | omega | (simp; omega) | (simp; done))))⟩

theorem extend_ok (size : Int) (n : Nat) (h : SZ size n) (x : Nat) (hx : x < M64) (w : World) :
    Calls Try.prog 27 #[.int .u64 (x : Int), .int .i64 size] w fun e w' => e = .returned (.tuple #[.int .u64 (sext n (x % 2 ^ n) : Nat), .int .i64 0]) ∧ Below w.heap.size w w' := by
  have hn := h.cases
  have hm := mask_eq n x _ rfl (by omega) hx
  have hl : x % 2 ^ n < 2 ^ n := Nat.mod_lt _ (Nat.two_pow_pos n)
  go_enter Try.func27, Try.ntmps27
  go_wp2_with (first | (go_at_call 38; refine (of_ok _ n h _).mono ?_; rintro e w' ⟨rfl, hb⟩) | (go_at_call 40; refine (mask_calls n hn _).mono ?_; rintro e w' ⟨rfl, rfl⟩) | (go_at_call 53; refine (signed_calls n hn _ hl _).mono ?_; rintro e w' ⟨rfl, rfl⟩))
  (first | (refine bodyPost_ret (results_tmp rfl _ _ _) rfl ?_) | (refine bodyPost_ret (results_none rfl _ _ _) rfl ?_) | (refine bodyPost_end (results_none rfl _ _ _) rfl ?_) | go_ret2 | go_ret3)
  exact ⟨rfl, by (repeat' (first | (with_reducible exact Below.refl _ _) | (with_reducible assumption) | (with_reducible refine Below.alloc ?_ ?_ _) | (with_reducible refine Below.drew ?_) | (with_reducible refine below_drewN ?_ _) | (with_reducible refine Below.setCell ?_ ?_ _) | (first | (with_reducible exact Nat.le_refl _) | (with_reducible assumption) | omega | (simp; omega) | (simp; done))))⟩

theorem extend_no (size : Int) (h : NoSZ size) (x : Int) (w : World) :
    Calls Try.prog 27 #[.int .u64 x, .int .i64 size] w fun e w' => e = .returned (.tuple #[.int .u64 0, .int .i64 1]) ∧ Below w.heap.size w w' := by
  go_enter Try.func27, Try.ntmps27
  go_wp2_with (first | (go_at_call 38; refine (of_no _ h _).mono ?_; rintro e w' ⟨rfl, hb⟩))
  (first | (refine bodyPost_ret (results_tmp rfl _ _ _) rfl ?_) | (refine bodyPost_ret (results_none rfl _ _ _) rfl ?_) | (refine bodyPost_end (results_none rfl _ _ _) rfl ?_) | go_ret2 | go_ret3)
  exact ⟨rfl, by (repeat' (first | (with_reducible exact Below.refl _ _) | (with_reducible assumption) | (with_reducible refine Below.alloc ?_ ?_ _) | (with_reducible refine Below.drew ?_) | (with_reducible refine below_drewN ?_ _) | (with_reducible refine Below.setCell ?_ ?_ _) | (first | (with_reducible exact Nat.le_refl _) | (with_reducible assumption) | omega | (simp; omega) | (simp; done))))⟩

theorem one_calls (b : Bool) (w : World) :
    Calls Try.prog 42 #[.bool b] w fun e w' => e = .returned (.int .u64 (b2n b : Int)) ∧ w = w' := by
  cases b
  all_goals
    go_enter Try.func42, Try.ntmps42
    go_wp2
    (first | (refine bodyPost_ret (results_tmp rfl _ _ _) rfl ?_) | (refine bodyPost_ret (results_none rfl _ _ _) rfl ?_) | (refine bodyPost_end (results_none rfl _ _ _) rfl ?_) | go_ret2 | go_ret3)
    exact ⟨rfl, rfl⟩
end Go.Proofs.Ytknopookopfoeaa.Alu
