/- The walk of AluFlags. -/
import Derived.Test.YtknopookopfoeaaAluLa
import Derived.Test.YtknopookopfoeaaAluE
import Derived.Test.YtknopookopfoeaaAluF
import Derived.Test.YtknopookopfoeaaAluRH
import Derived.Deep.RegionHeld3
import Derived.DataShut
namespace Go.Proofs.Ytknopookopfoeaa.AluL
open Go.RowKit Go.Proofs.Ytknopookopfoeaa.AluMath Go.Proofs.Ytknopookopfoeaa.Alu

theorem pack_lt (C P Z S O : Bool) : 2 + b2n C + 4 * b2n P + 64 * b2n Z + 128 * b2n S + 2048 * b2n O < M64 := by
  cases C <;> cases P <;> cases Z <;> cases S <;> cases O <;> decide
theorem unpack_pack (C P Z S O : Bool) :
    let x := 2 + b2n C + 4 * b2n P + 64 * b2n Z + 128 * b2n S + 2048 * b2n O
    bitB x 0 = C ∧ bitB x 2 = P ∧ bitB x 6 = Z ∧ bitB x 7 = S ∧ bitB x 11 = O := by
  cases C <;> cases P <;> cases Z <;> cases S <;> cases O <;> decide

set_option maxHeartbeats 4000000 in
set_option maxRecDepth 100000 in
theorem flags_core (c x p e : Int) (v : Bool) (C P Z S O : Bool) (f0 f1 f2 f3 f4 : Bool) (w : World)
    (c1 : ∀ w : World, Calls Try.prog 17 #[.int .i64 c, fl C P Z S O] w fun r w' => r = .returned (.tuple #[.bool v, .int .i64 e]) ∧ Below w.heap.size w w')
    (c2 : ∀ w : World, Calls Try.prog 18 #[.int .i64 c, fl C P Z S O] w fun r w' => r = .returned (.tuple #[.bool v, .int .i64 e]) ∧ Below w.heap.size w w')
    (c3 : ∀ w : World, Calls Try.prog 19 #[fl C P Z S O] w fun r w' => r = .returned (.int .u64 p) ∧ Below w.heap.size w w')
    (c4 : ∀ w : World, Calls Try.prog 20 #[fl C P Z S O] w fun r w' => r = .returned (.int .u64 p) ∧ Below w.heap.size w w')
    (c5 : ∀ w : World, Calls Try.prog 21 #[.int .u64 x] w fun r w' => r = .returned (fl f0 f1 f2 f3 f4) ∧ Below w.heap.size w w')
    (c6 : ∀ w : World, Calls Try.prog 22 #[.int .u64 x] w fun r w' => r = .returned (fl f0 f1 f2 f3 f4) ∧ Below w.heap.size w w')
    (c7 : ∀ w : World, Calls Try.prog 21 #[.int .u64 p] w fun r w' => r = .returned (fl C P Z S O) ∧ Below w.heap.size w w') :
    Calls Try.prog 4 #[.int .i64 c, fl C P Z S O, .int .u64 x] w fun e w' => e = .returned (.bool true) ∧ Below w.heap.size w w' := by
  go_enter Try.func4, Try.ntmps4
  go_wp2_with fail
  (with_reducible refine (c1 _).mono ?_)
  rintro e w1 ⟨rfl, hb1⟩
  obtain ⟨hc1, hf1, hz1⟩ := bcell hb1
  try simp at hz1
  try have hl0_1 : w.heap.size < w1.heap.size := by omega
  try have hn0_1 : ¬ w.heap.size = w1.heap.size := by omega
  try have ho0_1 : ¬ w1.heap.size = w.heap.size := by omega
  try have hm0_1 : w.heap.size + 1 < w1.heap.size := by omega
  have hB1 := Below.trans (B := w.heap.size) (a := w) (by (repeat' (first | (with_reducible exact Below.refl _ _) | (with_reducible assumption) | (with_reducible refine Below.alloc ?_ ?_ _) | (with_reducible refine Below.drew ?_) | (with_reducible refine below_drewN ?_ _) | (with_reducible refine Below.setCell ?_ ?_ _) | (first | (with_reducible exact Nat.le_refl _) | (with_reducible assumption) | omega | (simp; omega) | (simp; done))))) (hb1.mono (by (first | (with_reducible exact Nat.le_refl _) | (with_reducible assumption) | omega | (simp; omega) | (simp; done))))
  clear hb1
  go_wp2_with fail
  (with_reducible refine (c2 _).mono ?_)
  rintro e w2 ⟨rfl, hb2⟩
  obtain ⟨hc2, hf2, hz2⟩ := bcell hb2
  try simp at hz2
  try have hl0_2 : w.heap.size < w2.heap.size := by omega
  try have hn0_2 : ¬ w.heap.size = w2.heap.size := by omega
  try have ho0_2 : ¬ w2.heap.size = w.heap.size := by omega
  try have hm0_2 : w.heap.size + 1 < w2.heap.size := by omega
  try have hl1_2 : w1.heap.size < w2.heap.size := by omega
  try have hn1_2 : ¬ w1.heap.size = w2.heap.size := by omega
  try have ho1_2 : ¬ w2.heap.size = w1.heap.size := by omega
  have hB2 := Below.trans (B := w.heap.size) (a := w) (by (repeat' (first | (with_reducible exact Below.refl _ _) | (with_reducible assumption) | (with_reducible refine Below.alloc ?_ ?_ _) | (with_reducible refine Below.drew ?_) | (with_reducible refine below_drewN ?_ _) | (with_reducible refine Below.setCell ?_ ?_ _) | (first | (with_reducible exact Nat.le_refl _) | (with_reducible assumption) | omega | (simp; omega) | (simp; done))))) (hb2.mono (by (first | (with_reducible exact Nat.le_refl _) | (with_reducible assumption) | omega | (simp; omega) | (simp; done))))
  clear hb2
  go_wp2
  go_region_held3 (fun w' => Below w.heap.size w w' ∧ w.heap.size < w'.heap.size ∧ w'.cell? ⟨w.heap.size, 0, none⟩ = some (.bool C) ∧ w'.cell? ⟨w.heap.size, 1, none⟩ = some (.bool P) ∧ w'.cell? ⟨w.heap.size, 2, none⟩ = some (.bool Z) ∧ w'.cell? ⟨w.heap.size, 3, none⟩ = some (.bool S) ∧ w'.cell? ⟨w.heap.size, 4, none⟩ = some (.bool O))
    (first
      | assumption
      | (have s := ‹Below w.heap.size w _ ∧ _›
         exact ⟨Below.trans s.1 (hb.mono (by have := s.2.1; omega)), by have := s.2.1; omega, (hc _ _ s.2.1).trans s.2.2.1, (hc _ _ s.2.1).trans s.2.2.2.1, (hc _ _ s.2.1).trans s.2.2.2.2.1, (hc _ _ s.2.1).trans s.2.2.2.2.2.1, (hc _ _ s.2.1).trans s.2.2.2.2.2.2⟩)
      | (refine ⟨?_, ?_, ?_, ?_, ?_, ?_, ?_⟩ <;> first | (exact Below.drew (by assumption)) | assumption | (simp [*]; done)))
    (first | (go_at_call 14; (with_reducible refine (num_calls _ _).mono ?_); rintro e w' ⟨rfl, rfl⟩) | (go_at_call 16; (with_reducible refine (live_calls _).mono ?_); rintro e w' ⟨rfl, hb⟩; obtain ⟨hc, hf, hz⟩ := bcell hb) | (go_at_call 19; (with_reducible refine (c3 _).mono ?_); rintro e w' ⟨rfl, hb⟩; obtain ⟨hc, hf, hz⟩ := bcell hb) | (go_at_call 20; (with_reducible refine (c4 _).mono ?_); rintro e w' ⟨rfl, hb⟩; obtain ⟨hc, hf, hz⟩ := bcell hb) | (go_at_call 21; (with_reducible refine (c5 _).mono ?_); rintro e w' ⟨rfl, hb⟩; obtain ⟨hc, hf, hz⟩ := bcell hb) | (go_at_call 22; (with_reducible refine (c6 _).mono ?_); rintro e w' ⟨rfl, hb⟩; obtain ⟨hc, hf, hz⟩ := bcell hb) | (go_at_call 21; (with_reducible refine (c7 _).mono ?_); rintro e w' ⟨rfl, hb⟩; obtain ⟨hc, hf, hz⟩ := bcell hb))
  go_wp2
  (first | (refine bodyPost_ret (results_tmp rfl _ _ _) rfl ?_) | (refine bodyPost_ret (results_none rfl _ _ _) rfl ?_) | (refine bodyPost_end (results_none rfl _ _ _) rfl ?_) | go_ret2 | go_ret3)
  exact ⟨rfl, (‹Below w.heap.size w _ ∧ _›).1⟩

theorem flags_walk (c : Int) (w0 : (Lit.int .i64 c).wf = true) (C P Z S O : Bool) (x1 : Int) (w1 : (Lit.int .u64 x1).wf = true) (w : World) :
    Calls Try.prog 4 #[.int .i64 c, fl C P Z S O, .int .u64 x1] w fun e w' => e = .returned (.bool true) ∧ Below w.heap.size w w' := by
  obtain ⟨x, rfl, hx⟩ := nat_u64 w1
  have hb := (Go.Lit.wf_int_iff .i64 c).1 w0
  rw [IntKind.min_i64, IntKind.max_i64] at hb
  have c7 : ∀ w : World, Calls Try.prog 21 #[.int .u64 ((2 + b2n C + 4 * b2n P + 64 * b2n Z + 128 * b2n S + 2048 * b2n O : Nat) : Int)] w fun r w' => r = .returned (fl C P Z S O) ∧ Below w.heap.size w w' := by
    intro w
    have h := unpack_calls _ (pack_lt C P Z S O) w
    obtain ⟨h0, h2, h6, h7, h11⟩ := unpack_pack C P Z S O
    rw [h0, h2, h6, h7, h11] at h
    exact h
  by_cases hc : c < 0 ∨ 15 < c
  · exact flags_core c x _ _ _ C P Z S O _ _ _ _ _ w (cond_no c hc C P Z S O) (AluR.Cond_no c (by omega) (by omega) hc C P Z S O) (pack_calls C P Z S O) (AluR.Pack_calls C P Z S O) (unpack_calls x hx) (AluR.Unpack_calls x hx) c7
  · obtain ⟨k, rfl⟩ : ∃ k : Nat, c = k := ⟨c.toNat, by omega⟩
    exact flags_core k x _ _ _ C P Z S O _ _ _ _ _ w (cond_ok k (by omega) C P Z S O) (AluR.Cond_ok k (by omega) C P Z S O) (pack_calls C P Z S O) (AluR.Pack_calls C P Z S O) (unpack_calls x hx) (AluR.Unpack_calls x hx) c7
end Go.Proofs.Ytknopookopfoeaa.AluL
