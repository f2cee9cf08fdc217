/- Parts of the proof, laid together: RefC, RefC2, RefD, RefD2, RefE, RefF, EncDec4, RefG, RefH, RefL, RefM. No condition. -/
import Derived.Test.YthmighgfefjcmaaGreatBxE

section
/- The document's table: sums, numbers, the stack: shown. Written by genrow.py. No condition. -/
set_option maxRecDepth 100000
namespace Go.Proofs.YthmighgfefjcmaaGreat.Enc
open Go.RowKit Go.Proofs.YthmighgfefjcmaaGreat.X Go.IntWalk

set_option maxHeartbeats 8000000 in
theorem good_rmov : Lib.Good Tryz.prog Lrmov := lib_con good_rchk Tryz.func43 cMov 2000 fun σ α hp => by
  rw [mov_goal]
  intro x0 x1 x2 x3 x4 x5 x6 x7 x8 x9 x10 x11 x12 x13 x14 x15 x16 x17 x18 x19 x20 x21 x22 x23 x24 x25 x26 x27 x28 x29 x30 x31 x32 x33 x34 x35 x36 x37 x38
  have eF : movR (ins σ 0) = (bif isR (ins σ 0).src then modrmR (twoR (ins σ 0).size 136 137) ((ins σ 0).size == 8) (ins σ 0).src.r (ins σ 0).to else bif isM (ins σ 0).src then modrmR (twoR (ins σ 0).size 138 139) ((ins σ 0).size == 8) (ins σ 0).to.r (ins σ 0).src else bif (bif isR (ins σ 0).to then !((ins σ 0).size == 8) else false) then { plusR (bif (ins σ 0).size == 1 then 176 else 184) false (ins σ 0).to.r with num := numR (ins σ 0).size, n := (ins σ 0).src.n } else bif (bif isR (ins σ 0).to then !fits32 (ins σ 0).src.n else false) then { plusR 184 true (ins σ 0).to.r with num := 8, n := (ins σ 0).src.n } else { modrmR (twoR (ins σ 0).size 198 199) ((ins σ 0).size == 8) 0 (ins σ 0).to with num := numR (ins σ 0).size, n := (ins σ 0).src.n }) := rfl
  refine ⟨fun h0 => ?_, fun h0 => ?_⟩
  · have e := eF
    rw [show (isR (ins σ 0).src) = true from h0] at e
    simp only [cond_true] at e
    and_intros
    all_goals first | exact True.intro | exact Eq.refl _ | (rw [e]; done) | (show _ = _; rw [e]; first | done | (simp +zetaDelta only [bsame]; first | done | rfl) | rfl) | (simp +zetaDelta only [bsame, e]; first | done | rfl) | omega
  · refine ⟨fun h16 => ?_, fun h16 => ?_⟩
    · have e := eF
      rw [show (isR (ins σ 0).src) = false from h0] at e
      simp only [cond_false] at e
      rw [show (isM (ins σ 0).src) = true from h16] at e
      simp only [cond_true] at e
      and_intros
      all_goals first | exact True.intro | exact Eq.refl _ | (rw [e]; done) | (show _ = _; rw [e]; first | done | (simp +zetaDelta only [bsame]; first | done | rfl) | rfl) | (simp +zetaDelta only [bsame, e]; first | done | rfl) | omega
    · refine ⟨fun h19 => ?_, fun h19 => ?_⟩
      · have e := eF
        rw [show (isR (ins σ 0).src) = false from h0] at e
        simp only [cond_false] at e
        rw [show (isM (ins σ 0).src) = false from h16] at e
        simp only [cond_false] at e
        rw [show (bif isR (ins σ 0).to then !((ins σ 0).size == 8) else false) = true from h19] at e
        simp only [cond_true] at e
        and_intros
        all_goals first | exact True.intro | exact Eq.refl _ | (rw [e]; done) | (show _ = _; rw [e]; first | done | (simp +zetaDelta only [bsame]; first | done | rfl) | rfl) | (simp +zetaDelta only [bsame, e]; first | done | rfl) | omega
      · refine ⟨fun h18 => ?_, fun h18 => ?_⟩
        · refine ⟨fun h34 => ?_, fun h34 => ?_⟩
          · have e := eF
            rw [show (isR (ins σ 0).src) = false from h0] at e
            simp only [cond_false] at e
            rw [show (isM (ins σ 0).src) = false from h16] at e
            simp only [cond_false] at e
            rw [show (bif isR (ins σ 0).to then !((ins σ 0).size == 8) else false) = false from h19] at e
            simp only [cond_false] at e
            rw [show (isR (ins σ 0).to) = true from h18] at e
            simp only [cond_true] at e
            rw [show (!fits32 (ins σ 0).src.n) = true from h34] at e
            simp only [cond_true] at e
            and_intros
            all_goals first | exact True.intro | exact Eq.refl _ | (rw [e]; done) | (show _ = _; rw [e]; first | done | (simp +zetaDelta only [bsame]; first | done | rfl) | rfl) | (simp +zetaDelta only [bsame, e]; first | done | rfl) | omega
          · have e := eF
            rw [show (isR (ins σ 0).src) = false from h0] at e
            simp only [cond_false] at e
            rw [show (isM (ins σ 0).src) = false from h16] at e
            simp only [cond_false] at e
            rw [show (bif isR (ins σ 0).to then !((ins σ 0).size == 8) else false) = false from h19] at e
            simp only [cond_false] at e
            rw [show (isR (ins σ 0).to) = true from h18] at e
            simp only [cond_true] at e
            rw [show (!fits32 (ins σ 0).src.n) = false from h34] at e
            simp only [cond_false] at e
            and_intros
            all_goals first | exact True.intro | exact Eq.refl _ | (rw [e]; done) | (show _ = _; rw [e]; first | done | (simp +zetaDelta only [bsame]; first | done | rfl) | rfl) | (simp +zetaDelta only [bsame, e]; first | done | rfl) | omega
        · have e := eF
          rw [show (isR (ins σ 0).src) = false from h0] at e
          simp only [cond_false] at e
          rw [show (isM (ins σ 0).src) = false from h16] at e
          simp only [cond_false] at e
          rw [show (bif isR (ins σ 0).to then !((ins σ 0).size == 8) else false) = false from h19] at e
          simp only [cond_false] at e
          rw [show (isR (ins σ 0).to) = false from h18] at e
          simp only [cond_false] at e
          and_intros
          all_goals first | exact True.intro | exact Eq.refl _ | (rw [e]; done) | (show _ = _; rw [e]; first | done | (simp +zetaDelta only [bsame]; first | done | rfl) | rfl) | (simp +zetaDelta only [bsame, e]; first | done | rfl) | omega
set_option maxHeartbeats 8000000 in
theorem good_rgrp : Lib.Good Tryz.prog Lrgrp := lib_con good_rmov Tryz.func45 cGroupR 2000 fun σ α hp => by
  rw [rgrp_goal]
  intro x0 x1 x2 x3 x4 x5 x6 x7 x8 x9 x10 x11 x12 x13 x14 x15 x16 x17 x18 x19 x20 x21 x22 x23 x24 x25 x26 x27 x28 x29 x31 x32 x33 x34 x35 x36 x38 x39 x40 x42
  have h0' : 3 ≤ σ.I 0 := hp.1
  have h1' : σ.I 0 ≤ 10 := hp.2
  have w0 : x2 = σ.I 0 - 3 := by show IntKind.u8.wrap (IntKind.i64.wrap (σ.I 0 - 3)) = _; rw [i64_in _ (by omega), u8_in _ (by omega)]
  have w1 : x3 = 8 * (σ.I 0 - 3) := by show IntKind.u8.wrap (8 * x2) = _; rw [w0, u8_in _ (by omega)]
  have w2 : IntKind.u8.wrap (8 * (σ.I 0 - 3) + 1) = 8 * (σ.I 0 - 3) + 1 := u8_in _ (by omega)
  have w3 : IntKind.u8.wrap (8 * (σ.I 0 - 3) + 2) = 8 * (σ.I 0 - 3) + 2 := u8_in _ (by omega)
  have w4 : IntKind.u8.wrap (8 * (σ.I 0 - 3) + 3) = 8 * (σ.I 0 - 3) + 3 := u8_in _ (by omega)
  have w5 : IntKind.i64.wrap (σ.I 0 - 3) = σ.I 0 - 3 := i64_in _ (by omega)
  have W := And.intro w0 (And.intro w1 (And.intro w2 (And.intro w3 (And.intro w4 w5))))
  have eF : groupR (ins σ 0) = (bif isR (ins σ 0).src then modrmR (twoR (ins σ 0).size (8 * ((ins σ 0).op - 3)) (8 * ((ins σ 0).op - 3) + 1)) ((ins σ 0).size == 8) (ins σ 0).src.r (ins σ 0).to else bif isM (ins σ 0).src then modrmR (twoR (ins σ 0).size (8 * ((ins σ 0).op - 3) + 2) (8 * ((ins σ 0).op - 3) + 3)) ((ins σ 0).size == 8) (ins σ 0).to.r (ins σ 0).src else bif (bif (ins σ 0).size != 1 then byteN (grpN (ins σ 0)) else false) then { modrmR [131] ((ins σ 0).size == 8) ((ins σ 0).op - 3) (ins σ 0).to with num := 1, n := grpN (ins σ 0) } else { modrmR (twoR (ins σ 0).size 128 129) ((ins σ 0).size == 8) ((ins σ 0).op - 3) (ins σ 0).to with num := numR (ins σ 0).size, n := grpN (ins σ 0) }) := rfl
  refine ⟨fun h0 => ?_, fun h0 => ?_⟩
  · have e := eF
    rw [show (isR (ins σ 0).src) = true from h0] at e
    simp only [cond_true] at e
    and_intros
    all_goals first | exact True.intro | exact Eq.refl _ | (rw [e]; done) | (show _ = _; rw [e]; first | done | (simp +zetaDelta only [bsame]; first | done | rfl) | rfl) | (simp +zetaDelta only [bsame, e]; first | done | rfl) | (show _ = _; rw [e]; simp only [x4, x28, W]; rfl) | (simp only [x34, w0, w5, e]; done) | (simp only [x34, w0, w5, e]; rfl) | (show _ = _; rw [e]; show _ = numR _; unfold numR; rw [show ((ins σ 0).size == 1) = true from h1]; rfl) | (show _ = _; rw [e]; show _ = numR _; unfold numR; rw [show ((ins σ 0).size == 1) = false from h1]; rfl)
  · refine ⟨fun h27 => ?_, fun h27 => ?_⟩
    · have e := eF
      rw [show (isR (ins σ 0).src) = false from h0] at e
      simp only [cond_false] at e
      rw [show (isM (ins σ 0).src) = true from h27] at e
      simp only [cond_true] at e
      and_intros
      all_goals first | exact True.intro | exact Eq.refl _ | (rw [e]; done) | (show _ = _; rw [e]; first | done | (simp +zetaDelta only [bsame]; first | done | rfl) | rfl) | (simp +zetaDelta only [bsame, e]; first | done | rfl) | (show _ = _; rw [e]; simp only [x4, x28, W]; rfl) | (simp only [x34, w0, w5, e]; done) | (simp only [x34, w0, w5, e]; rfl) | (show _ = _; rw [e]; show _ = numR _; unfold numR; rw [show ((ins σ 0).size == 1) = true from h1]; rfl) | (show _ = _; rw [e]; show _ = numR _; unfold numR; rw [show ((ins σ 0).size == 1) = false from h1]; rfl)
    · refine ⟨fun h1 => ?_, fun h1 => ?_⟩
      · refine ⟨fun h29 => ?_, fun h29 => ?_⟩
        · refine ⟨fun h32 => ?_, fun h32 => ?_⟩
          · have e := eF
            rw [show (isR (ins σ 0).src) = false from h0] at e
            simp only [cond_false] at e
            rw [show (isM (ins σ 0).src) = false from h27] at e
            simp only [cond_false] at e
            rw [show ((ins σ 0).size != 1) = true from h29] at e
            simp only [cond_true] at e
            rw [show (byteN (grpN (ins σ 0))) = true from h32] at e
            simp only [cond_true] at e
            and_intros
            all_goals first | exact True.intro | exact Eq.refl _ | (rw [e]; done) | (show _ = _; rw [e]; first | done | (simp +zetaDelta only [bsame]; first | done | rfl) | rfl) | (simp +zetaDelta only [bsame, e]; first | done | rfl) | (show _ = _; rw [e]; simp only [x4, x28, W]; rfl) | (simp only [x34, w0, w5, e]; done) | (simp only [x34, w0, w5, e]; rfl) | (show _ = _; rw [e]; show _ = numR _; unfold numR; rw [show ((ins σ 0).size == 1) = true from h1]; rfl) | (show _ = _; rw [e]; show _ = numR _; unfold numR; rw [show ((ins σ 0).size == 1) = false from h1]; rfl)
          · have e := eF
            rw [show (isR (ins σ 0).src) = false from h0] at e
            simp only [cond_false] at e
            rw [show (isM (ins σ 0).src) = false from h27] at e
            simp only [cond_false] at e
            rw [show ((ins σ 0).size != 1) = true from h29] at e
            simp only [cond_true] at e
            rw [show (byteN (grpN (ins σ 0))) = false from h32] at e
            simp only [cond_false] at e
            and_intros
            all_goals first | exact True.intro | exact Eq.refl _ | (rw [e]; done) | (show _ = _; rw [e]; first | done | (simp +zetaDelta only [bsame]; first | done | rfl) | rfl) | (simp +zetaDelta only [bsame, e]; first | done | rfl) | (show _ = _; rw [e]; simp only [x4, x28, W]; rfl) | (simp only [x34, w0, w5, e]; done) | (simp only [x34, w0, w5, e]; rfl) | (show _ = _; rw [e]; show _ = numR _; unfold numR; rw [show ((ins σ 0).size == 1) = true from h1]; rfl) | (show _ = _; rw [e]; show _ = numR _; unfold numR; rw [show ((ins σ 0).size == 1) = false from h1]; rfl)
        · have e := eF
          rw [show (isR (ins σ 0).src) = false from h0] at e
          simp only [cond_false] at e
          rw [show (isM (ins σ 0).src) = false from h27] at e
          simp only [cond_false] at e
          rw [show ((ins σ 0).size != 1) = false from h29] at e
          simp only [cond_false] at e
          and_intros
          all_goals first | exact True.intro | exact Eq.refl _ | (rw [e]; done) | (show _ = _; rw [e]; first | done | (simp +zetaDelta only [bsame]; first | done | rfl) | rfl) | (simp +zetaDelta only [bsame, e]; first | done | rfl) | (show _ = _; rw [e]; simp only [x4, x28, W]; rfl) | (simp only [x34, w0, w5, e]; done) | (simp only [x34, w0, w5, e]; rfl) | (show _ = _; rw [e]; show _ = numR _; unfold numR; rw [show ((ins σ 0).size == 1) = true from h1]; rfl) | (show _ = _; rw [e]; show _ = numR _; unfold numR; rw [show ((ins σ 0).size == 1) = false from h1]; rfl)
      · refine ⟨fun h29 => ?_, fun h29 => ?_⟩
        · refine ⟨fun h32 => ?_, fun h32 => ?_⟩
          · have e := eF
            rw [show (isR (ins σ 0).src) = false from h0] at e
            simp only [cond_false] at e
            rw [show (isM (ins σ 0).src) = false from h27] at e
            simp only [cond_false] at e
            rw [show ((ins σ 0).size != 1) = true from h29] at e
            simp only [cond_true] at e
            rw [show (byteN (grpN (ins σ 0))) = true from h32] at e
            simp only [cond_true] at e
            and_intros
            all_goals first | exact True.intro | exact Eq.refl _ | (rw [e]; done) | (show _ = _; rw [e]; first | done | (simp +zetaDelta only [bsame]; first | done | rfl) | rfl) | (simp +zetaDelta only [bsame, e]; first | done | rfl) | (show _ = _; rw [e]; simp only [x4, x28, W]; rfl) | (simp only [x34, w0, w5, e]; done) | (simp only [x34, w0, w5, e]; rfl) | (show _ = _; rw [e]; show _ = numR _; unfold numR; rw [show ((ins σ 0).size == 1) = true from h1]; rfl) | (show _ = _; rw [e]; show _ = numR _; unfold numR; rw [show ((ins σ 0).size == 1) = false from h1]; rfl)
          · have e := eF
            rw [show (isR (ins σ 0).src) = false from h0] at e
            simp only [cond_false] at e
            rw [show (isM (ins σ 0).src) = false from h27] at e
            simp only [cond_false] at e
            rw [show ((ins σ 0).size != 1) = true from h29] at e
            simp only [cond_true] at e
            rw [show (byteN (grpN (ins σ 0))) = false from h32] at e
            simp only [cond_false] at e
            and_intros
            all_goals first | exact True.intro | exact Eq.refl _ | (rw [e]; done) | (show _ = _; rw [e]; first | done | (simp +zetaDelta only [bsame]; first | done | rfl) | rfl) | (simp +zetaDelta only [bsame, e]; first | done | rfl) | (show _ = _; rw [e]; simp only [x4, x28, W]; rfl) | (simp only [x34, w0, w5, e]; done) | (simp only [x34, w0, w5, e]; rfl) | (show _ = _; rw [e]; show _ = numR _; unfold numR; rw [show ((ins σ 0).size == 1) = true from h1]; rfl) | (show _ = _; rw [e]; show _ = numR _; unfold numR; rw [show ((ins σ 0).size == 1) = false from h1]; rfl)
        · have e := eF
          rw [show (isR (ins σ 0).src) = false from h0] at e
          simp only [cond_false] at e
          rw [show (isM (ins σ 0).src) = false from h27] at e
          simp only [cond_false] at e
          rw [show ((ins σ 0).size != 1) = false from h29] at e
          simp only [cond_false] at e
          and_intros
          all_goals first | exact True.intro | exact Eq.refl _ | (rw [e]; done) | (show _ = _; rw [e]; first | done | (simp +zetaDelta only [bsame]; first | done | rfl) | rfl) | (simp +zetaDelta only [bsame, e]; first | done | rfl) | (show _ = _; rw [e]; simp only [x4, x28, W]; rfl) | (simp only [x34, w0, w5, e]; done) | (simp only [x34, w0, w5, e]; rfl) | (show _ = _; rw [e]; show _ = numR _; unfold numR; rw [show ((ins σ 0).size == 1) = true from h1]; rfl) | (show _ = _; rw [e]; show _ = numR _; unfold numR; rw [show ((ins σ 0).size == 1) = false from h1]; rfl)
set_option maxHeartbeats 8000000 in
theorem good_rpush : Lib.Good Tryz.prog Lrpush := lib_con good_rgrp Tryz.func92 cPushR 2000 fun σ α hp => by
  rw [rpush_goal]
  intro x0 x1 x2 x3 x4 x5 x6 x7 x8 x9 x10 x11 x12 x13 x14 x15 x16 x17 x18 x19 x20 x21 x22 x23 x24 x25 x26 x27
  have eF : pushR (ins σ 0) = (bif isR (ins σ 0).src then plusR 80 false (ins σ 0).src.r else bif isM (ins σ 0).src then modrmR [255] false 6 (ins σ 0).src else bif byteN (ins σ 0).src.n then { plainR [106] with num := 1, n := (ins σ 0).src.n } else { plainR [104] with num := 4, n := (ins σ 0).src.n }) := rfl
  refine ⟨fun h0 => ?_, fun h0 => ?_⟩
  · have e := eF
    rw [show (isR (ins σ 0).src) = true from h0] at e
    simp only [cond_true] at e
    and_intros
    all_goals first | exact True.intro | exact Eq.refl _ | (rw [e]; done) | (show _ = _; rw [e]; first | done | (simp only [bsame]; first | done | rfl) | rfl) | (simp only [bsame, e]; first | done | rfl) | omega
  · refine ⟨fun h21 => ?_, fun h21 => ?_⟩
    · have e := eF
      rw [show (isR (ins σ 0).src) = false from h0] at e
      simp only [cond_false] at e
      rw [show (isM (ins σ 0).src) = true from h21] at e
      simp only [cond_true] at e
      and_intros
      all_goals first | exact True.intro | exact Eq.refl _ | (rw [e]; done) | (show _ = _; rw [e]; first | done | (simp only [bsame]; first | done | rfl) | rfl) | (simp only [bsame, e]; first | done | rfl) | omega
    · refine ⟨fun h24 => ?_, fun h24 => ?_⟩
      · have e := eF
        rw [show (isR (ins σ 0).src) = false from h0] at e
        simp only [cond_false] at e
        rw [show (isM (ins σ 0).src) = false from h21] at e
        simp only [cond_false] at e
        rw [show (byteN (ins σ 0).src.n) = true from h24] at e
        simp only [cond_true] at e
        and_intros
        all_goals first | exact True.intro | exact Eq.refl _ | (rw [e]; done) | (show _ = _; rw [e]; first | done | (simp only [bsame]; first | done | rfl) | rfl) | (simp only [bsame, e]; first | done | rfl) | omega
      · have e := eF
        rw [show (isR (ins σ 0).src) = false from h0] at e
        simp only [cond_false] at e
        rw [show (isM (ins σ 0).src) = false from h21] at e
        simp only [cond_false] at e
        rw [show (byteN (ins σ 0).src.n) = false from h24] at e
        simp only [cond_false] at e
        and_intros
        all_goals first | exact True.intro | exact Eq.refl _ | (rw [e]; done) | (show _ = _; rw [e]; first | done | (simp only [bsame]; first | done | rfl) | rfl) | (simp only [bsame, e]; first | done | rfl) | omega
end Go.Proofs.YthmighgfefjcmaaGreat.Enc
end

section
/- The document's table: all rows: shown. Written by genrow.py. No condition. -/
set_option maxRecDepth 100000
namespace Go.Proofs.YthmighgfefjcmaaGreat.Enc
open Go.RowKit Go.Proofs.YthmighgfefjcmaaGreat.X Go.IntWalk

set_option maxHeartbeats 8000000 in
theorem good_rmore : Lib.Good Tryz.prog Lrmore := lib_con good_rpush Tryz.func49 cMore 3000 fun σ α hp => by
  rw [more_goal]
  intro x0 x1 x2 x3 x4 x5 x6 x7 x8 x9 x10 x11 x12 x13 x14 x15 x16 x17 x18 x19 x20 x21 x22 x23 x24 x25 x26 x27 x28 x29 x30 x31 x32 x33 x34 x35 x36 x37 x38 x39 x40 x41 x43 x44 x46 x47 x48 x49 x50 x51 x52 x53 x54 x55 x56 x57 x58 x59 x60 x61 x62 x63 x64 x65 x66 x67 x68 x69 x70 x71 x72 x73 x74 x75 x76 x77 x78 x79 x80 x81 x82 x83 x84 x85 x86 x87 x88 x89 x90 x91 x92 x93 x94 x95 x96 x97
  have c0 : 0 ≤ σ.I 2 := hp.1
  have c1 : σ.I 2 ≤ 15 := hp.2
  have w0 : IntKind.u8.wrap (σ.I 2) = σ.I 2 := u8_in _ (by omega)
  have w1 : IntKind.u8.wrap (112 + σ.I 2) = 112 + σ.I 2 := u8_in _ (by omega)
  have w2 : IntKind.u8.wrap (128 + σ.I 2) = 128 + σ.I 2 := u8_in _ (by omega)
  have w3 : IntKind.u8.wrap (144 + σ.I 2) = 144 + σ.I 2 := u8_in _ (by omega)
  have w4 : IntKind.u8.wrap (64 + σ.I 2) = 64 + σ.I 2 := u8_in _ (by omega)
  have W := And.intro w0 (And.intro w1 (And.intro w2 (And.intro w3 w4)))
  have eF : moreR (ins σ 0) = (bif (ins σ 0).op == 20 then pushR (ins σ 0) else bif (ins σ 0).op == 21 then popR (ins σ 0) else bif (ins σ 0).op == 22 then jumpR (ins σ 0) [232] 0 2 else bif (ins σ 0).op == 23 then jumpR (ins σ 0) [233] 235 4 else bif (ins σ 0).op == 24 then jumpR (ins σ 0) [15, 128 + (ins σ 0).cond] (112 + (ins σ 0).cond) 0 else bif (ins σ 0).op == 27 then modrmR [15, 144 + (ins σ 0).cond] false 0 (ins σ 0).to else bif (ins σ 0).op == 28 then modrmR [15, 64 + (ins σ 0).cond] ((ins σ 0).size == 8) (ins σ 0).to.r (ins σ 0).src else bif (ins σ 0).op == 29 then modrmR [15, 182] ((ins σ 0).size == 8) (ins σ 0).to.r (ins σ 0).src else bif (ins σ 0).op == 30 then modrmR [15, 190] ((ins σ 0).size == 8) (ins σ 0).to.r (ins σ 0).src else bif (ins σ 0).op == 31 then modrmR [135] ((ins σ 0).size == 8) (ins σ 0).src.r (ins σ 0).to else bif (ins σ 0).op == 25 then plainR [195] else bif (ins σ 0).op == 26 then plainR [201] else bif (ins σ 0).op == 32 then plainR [72, 153] else bif (ins σ 0).op == 33 then plainR [144] else plainR [15, bif (ins σ 0).op == 34 then 11 else 5]) := rfl
  refine ⟨fun h0 => ?_, fun h0 => ?_⟩
  · have e := eF
    rw [show ((ins σ 0).op == 20) = true from h0] at e
    simp only [cond_true] at e
    and_intros
    all_goals first | exact True.intro | exact Eq.refl _ | (rw [e]; done) | (show _ = _; rw [e]; first | done | (simp only [bsame]; first | done | rfl) | rfl) | (simp only [bsame, e]; first | done | rfl) | (show _ = _; rw [e]; simp +zetaDelta only [W]; rfl) | omega
  · refine ⟨fun h6 => ?_, fun h6 => ?_⟩
    · refine ⟨fun h7 => ?_, fun h7 => ?_⟩
      · have e := eF
        rw [show ((ins σ 0).op == 20) = false from h0] at e
        simp only [cond_false] at e
        rw [show ((ins σ 0).op == 21) = true from h6] at e
        simp only [cond_true] at e
        unfold popR at e
        rw [show (isR (ins σ 0).to) = true from h7] at e
        simp only [cond_true] at e
        and_intros
        all_goals first | exact True.intro | exact Eq.refl _ | (rw [e]; done) | (show _ = _; rw [e]; first | done | (simp only [bsame]; first | done | rfl) | rfl) | (simp only [bsame, e]; first | done | rfl) | (show _ = _; rw [e]; simp +zetaDelta only [W]; rfl) | omega
      · have e := eF
        rw [show ((ins σ 0).op == 20) = false from h0] at e
        simp only [cond_false] at e
        rw [show ((ins σ 0).op == 21) = true from h6] at e
        simp only [cond_true] at e
        unfold popR at e
        rw [show (isR (ins σ 0).to) = false from h7] at e
        simp only [cond_false] at e
        and_intros
        all_goals first | exact True.intro | exact Eq.refl _ | (rw [e]; done) | (show _ = _; rw [e]; first | done | (simp only [bsame]; first | done | rfl) | rfl) | (simp only [bsame, e]; first | done | rfl) | (show _ = _; rw [e]; simp +zetaDelta only [W]; rfl) | omega
    · refine ⟨fun h40 => ?_, fun h40 => ?_⟩
      · refine ⟨fun h41 => ?_, fun h41 => ?_⟩
        · have e := eF
          rw [show ((ins σ 0).op == 20) = false from h0] at e
          simp only [cond_false] at e
          rw [show ((ins σ 0).op == 21) = false from h6] at e
          simp only [cond_false] at e
          rw [show ((ins σ 0).op == 22) = true from h40] at e
          simp only [cond_true] at e
          unfold jumpR at e
          rw [show (!isT (ins σ 0).to) = true from h41] at e
          simp only [cond_true] at e
          and_intros
          all_goals first | exact True.intro | exact Eq.refl _ | (rw [e]; done) | (show _ = _; rw [e]; first | done | (simp only [bsame]; first | done | rfl) | rfl) | (simp only [bsame, e]; first | done | rfl) | (show _ = _; rw [e]; simp +zetaDelta only [W]; rfl) | omega
        · refine ⟨fun h23 => ?_, fun h23 => ?_⟩
          · have e := eF
            rw [show ((ins σ 0).op == 20) = false from h0] at e
            simp only [cond_false] at e
            rw [show ((ins σ 0).op == 21) = false from h6] at e
            simp only [cond_false] at e
            rw [show ((ins σ 0).op == 22) = true from h40] at e
            simp only [cond_true] at e
            unfold jumpR at e
            rw [show (!isT (ins σ 0).to) = false from h41] at e
            simp only [cond_false] at e
            rw [show ((ins σ 0).short) = true from h23] at e
            simp only [cond_true] at e
            and_intros
            all_goals first | exact True.intro | exact Eq.refl _ | (rw [e]; done) | (show _ = _; rw [e]; first | done | (simp only [bsame]; first | done | rfl) | rfl) | (simp only [bsame, e]; first | done | rfl) | (show _ = _; rw [e]; simp +zetaDelta only [W]; rfl) | omega
          · have e := eF
            rw [show ((ins σ 0).op == 20) = false from h0] at e
            simp only [cond_false] at e
            rw [show ((ins σ 0).op == 21) = false from h6] at e
            simp only [cond_false] at e
            rw [show ((ins σ 0).op == 22) = true from h40] at e
            simp only [cond_true] at e
            unfold jumpR at e
            rw [show (!isT (ins σ 0).to) = false from h41] at e
            simp only [cond_false] at e
            rw [show ((ins σ 0).short) = false from h23] at e
            simp only [cond_false] at e
            and_intros
            all_goals first | exact True.intro | exact Eq.refl _ | (rw [e]; done) | (show _ = _; rw [e]; first | done | (simp only [bsame]; first | done | rfl) | rfl) | (simp only [bsame, e]; first | done | rfl) | (show _ = _; rw [e]; simp +zetaDelta only [W]; rfl) | omega
      · refine ⟨fun h61 => ?_, fun h61 => ?_⟩
        · refine ⟨fun h41 => ?_, fun h41 => ?_⟩
          · have e := eF
            rw [show ((ins σ 0).op == 20) = false from h0] at e
            simp only [cond_false] at e
            rw [show ((ins σ 0).op == 21) = false from h6] at e
            simp only [cond_false] at e
            rw [show ((ins σ 0).op == 22) = false from h40] at e
            simp only [cond_false] at e
            rw [show ((ins σ 0).op == 23) = true from h61] at e
            simp only [cond_true] at e
            unfold jumpR at e
            rw [show (!isT (ins σ 0).to) = true from h41] at e
            simp only [cond_true] at e
            and_intros
            all_goals first | exact True.intro | exact Eq.refl _ | (rw [e]; done) | (show _ = _; rw [e]; first | done | (simp only [bsame]; first | done | rfl) | rfl) | (simp only [bsame, e]; first | done | rfl) | (show _ = _; rw [e]; simp +zetaDelta only [W]; rfl) | omega
          · refine ⟨fun h23 => ?_, fun h23 => ?_⟩
            · have e := eF
              rw [show ((ins σ 0).op == 20) = false from h0] at e
              simp only [cond_false] at e
              rw [show ((ins σ 0).op == 21) = false from h6] at e
              simp only [cond_false] at e
              rw [show ((ins σ 0).op == 22) = false from h40] at e
              simp only [cond_false] at e
              rw [show ((ins σ 0).op == 23) = true from h61] at e
              simp only [cond_true] at e
              unfold jumpR at e
              rw [show (!isT (ins σ 0).to) = false from h41] at e
              simp only [cond_false] at e
              rw [show ((ins σ 0).short) = true from h23] at e
              simp only [cond_true] at e
              and_intros
              all_goals first | exact True.intro | exact Eq.refl _ | (rw [e]; done) | (show _ = _; rw [e]; first | done | (simp only [bsame]; first | done | rfl) | rfl) | (simp only [bsame, e]; first | done | rfl) | (show _ = _; rw [e]; simp +zetaDelta only [W]; rfl) | omega
            · have e := eF
              rw [show ((ins σ 0).op == 20) = false from h0] at e
              simp only [cond_false] at e
              rw [show ((ins σ 0).op == 21) = false from h6] at e
              simp only [cond_false] at e
              rw [show ((ins σ 0).op == 22) = false from h40] at e
              simp only [cond_false] at e
              rw [show ((ins σ 0).op == 23) = true from h61] at e
              simp only [cond_true] at e
              unfold jumpR at e
              rw [show (!isT (ins σ 0).to) = false from h41] at e
              simp only [cond_false] at e
              rw [show ((ins σ 0).short) = false from h23] at e
              simp only [cond_false] at e
              and_intros
              all_goals first | exact True.intro | exact Eq.refl _ | (rw [e]; done) | (show _ = _; rw [e]; first | done | (simp only [bsame]; first | done | rfl) | rfl) | (simp only [bsame, e]; first | done | rfl) | (show _ = _; rw [e]; simp +zetaDelta only [W]; rfl) | omega
        · refine ⟨fun h64 => ?_, fun h64 => ?_⟩
          · refine ⟨fun h41 => ?_, fun h41 => ?_⟩
            · have e := eF
              rw [show ((ins σ 0).op == 20) = false from h0] at e
              simp only [cond_false] at e
              rw [show ((ins σ 0).op == 21) = false from h6] at e
              simp only [cond_false] at e
              rw [show ((ins σ 0).op == 22) = false from h40] at e
              simp only [cond_false] at e
              rw [show ((ins σ 0).op == 23) = false from h61] at e
              simp only [cond_false] at e
              rw [show ((ins σ 0).op == 24) = true from h64] at e
              simp only [cond_true] at e
              unfold jumpR at e
              rw [show (!isT (ins σ 0).to) = true from h41] at e
              simp only [cond_true] at e
              and_intros
              all_goals first | exact True.intro | exact Eq.refl _ | (rw [e]; done) | (show _ = _; rw [e]; first | done | (simp only [bsame]; first | done | rfl) | rfl) | (simp only [bsame, e]; first | done | rfl) | (show _ = _; rw [e]; simp +zetaDelta only [W]; rfl) | omega
            · refine ⟨fun h23 => ?_, fun h23 => ?_⟩
              · have e := eF
                rw [show ((ins σ 0).op == 20) = false from h0] at e
                simp only [cond_false] at e
                rw [show ((ins σ 0).op == 21) = false from h6] at e
                simp only [cond_false] at e
                rw [show ((ins σ 0).op == 22) = false from h40] at e
                simp only [cond_false] at e
                rw [show ((ins σ 0).op == 23) = false from h61] at e
                simp only [cond_false] at e
                rw [show ((ins σ 0).op == 24) = true from h64] at e
                simp only [cond_true] at e
                unfold jumpR at e
                rw [show (!isT (ins σ 0).to) = false from h41] at e
                simp only [cond_false] at e
                rw [show ((ins σ 0).short) = true from h23] at e
                simp only [cond_true] at e
                and_intros
                all_goals first | exact True.intro | exact Eq.refl _ | (rw [e]; done) | (show _ = _; rw [e]; first | done | (simp only [bsame]; first | done | rfl) | rfl) | (simp only [bsame, e]; first | done | rfl) | (show _ = _; rw [e]; simp +zetaDelta only [W]; rfl) | omega
              · have e := eF
                rw [show ((ins σ 0).op == 20) = false from h0] at e
                simp only [cond_false] at e
                rw [show ((ins σ 0).op == 21) = false from h6] at e
                simp only [cond_false] at e
                rw [show ((ins σ 0).op == 22) = false from h40] at e
                simp only [cond_false] at e
                rw [show ((ins σ 0).op == 23) = false from h61] at e
                simp only [cond_false] at e
                rw [show ((ins σ 0).op == 24) = true from h64] at e
                simp only [cond_true] at e
                unfold jumpR at e
                rw [show (!isT (ins σ 0).to) = false from h41] at e
                simp only [cond_false] at e
                rw [show ((ins σ 0).short) = false from h23] at e
                simp only [cond_false] at e
                and_intros
                all_goals first | exact True.intro | exact Eq.refl _ | (rw [e]; done) | (show _ = _; rw [e]; first | done | (simp only [bsame]; first | done | rfl) | rfl) | (simp only [bsame, e]; first | done | rfl) | (show _ = _; rw [e]; simp +zetaDelta only [W]; rfl) | omega
          · refine ⟨fun h67 => ?_, fun h67 => ?_⟩
            · have e := eF
              rw [show ((ins σ 0).op == 20) = false from h0] at e
              simp only [cond_false] at e
              rw [show ((ins σ 0).op == 21) = false from h6] at e
              simp only [cond_false] at e
              rw [show ((ins σ 0).op == 22) = false from h40] at e
              simp only [cond_false] at e
              rw [show ((ins σ 0).op == 23) = false from h61] at e
              simp only [cond_false] at e
              rw [show ((ins σ 0).op == 24) = false from h64] at e
              simp only [cond_false] at e
              rw [show ((ins σ 0).op == 27) = true from h67] at e
              simp only [cond_true] at e
              and_intros
              all_goals first | exact True.intro | exact Eq.refl _ | (rw [e]; done) | (show _ = _; rw [e]; first | done | (simp only [bsame]; first | done | rfl) | rfl) | (simp only [bsame, e]; first | done | rfl) | (show _ = _; rw [e]; simp +zetaDelta only [W]; rfl) | omega
            · refine ⟨fun h69 => ?_, fun h69 => ?_⟩
              · have e := eF
                rw [show ((ins σ 0).op == 20) = false from h0] at e
                simp only [cond_false] at e
                rw [show ((ins σ 0).op == 21) = false from h6] at e
                simp only [cond_false] at e
                rw [show ((ins σ 0).op == 22) = false from h40] at e
                simp only [cond_false] at e
                rw [show ((ins σ 0).op == 23) = false from h61] at e
                simp only [cond_false] at e
                rw [show ((ins σ 0).op == 24) = false from h64] at e
                simp only [cond_false] at e
                rw [show ((ins σ 0).op == 27) = false from h67] at e
                simp only [cond_false] at e
                rw [show ((ins σ 0).op == 28) = true from h69] at e
                simp only [cond_true] at e
                and_intros
                all_goals first | exact True.intro | exact Eq.refl _ | (rw [e]; done) | (show _ = _; rw [e]; first | done | (simp only [bsame]; first | done | rfl) | rfl) | (simp only [bsame, e]; first | done | rfl) | (show _ = _; rw [e]; simp +zetaDelta only [W]; rfl) | omega
              · refine ⟨fun h83 => ?_, fun h83 => ?_⟩
                · have e := eF
                  rw [show ((ins σ 0).op == 20) = false from h0] at e
                  simp only [cond_false] at e
                  rw [show ((ins σ 0).op == 21) = false from h6] at e
                  simp only [cond_false] at e
                  rw [show ((ins σ 0).op == 22) = false from h40] at e
                  simp only [cond_false] at e
                  rw [show ((ins σ 0).op == 23) = false from h61] at e
                  simp only [cond_false] at e
                  rw [show ((ins σ 0).op == 24) = false from h64] at e
                  simp only [cond_false] at e
                  rw [show ((ins σ 0).op == 27) = false from h67] at e
                  simp only [cond_false] at e
                  rw [show ((ins σ 0).op == 28) = false from h69] at e
                  simp only [cond_false] at e
                  rw [show ((ins σ 0).op == 29) = true from h83] at e
                  simp only [cond_true] at e
                  and_intros
                  all_goals first | exact True.intro | exact Eq.refl _ | (rw [e]; done) | (show _ = _; rw [e]; first | done | (simp only [bsame]; first | done | rfl) | rfl) | (simp only [bsame, e]; first | done | rfl) | (show _ = _; rw [e]; simp +zetaDelta only [W]; rfl) | omega
                · refine ⟨fun h85 => ?_, fun h85 => ?_⟩
                  · have e := eF
                    rw [show ((ins σ 0).op == 20) = false from h0] at e
                    simp only [cond_false] at e
                    rw [show ((ins σ 0).op == 21) = false from h6] at e
                    simp only [cond_false] at e
                    rw [show ((ins σ 0).op == 22) = false from h40] at e
                    simp only [cond_false] at e
                    rw [show ((ins σ 0).op == 23) = false from h61] at e
                    simp only [cond_false] at e
                    rw [show ((ins σ 0).op == 24) = false from h64] at e
                    simp only [cond_false] at e
                    rw [show ((ins σ 0).op == 27) = false from h67] at e
                    simp only [cond_false] at e
                    rw [show ((ins σ 0).op == 28) = false from h69] at e
                    simp only [cond_false] at e
                    rw [show ((ins σ 0).op == 29) = false from h83] at e
                    simp only [cond_false] at e
                    rw [show ((ins σ 0).op == 30) = true from h85] at e
                    simp only [cond_true] at e
                    and_intros
                    all_goals first | exact True.intro | exact Eq.refl _ | (rw [e]; done) | (show _ = _; rw [e]; first | done | (simp only [bsame]; first | done | rfl) | rfl) | (simp only [bsame, e]; first | done | rfl) | (show _ = _; rw [e]; simp +zetaDelta only [W]; rfl) | omega
                  · refine ⟨fun h87 => ?_, fun h87 => ?_⟩
                    · have e := eF
                      rw [show ((ins σ 0).op == 20) = false from h0] at e
                      simp only [cond_false] at e
                      rw [show ((ins σ 0).op == 21) = false from h6] at e
                      simp only [cond_false] at e
                      rw [show ((ins σ 0).op == 22) = false from h40] at e
                      simp only [cond_false] at e
                      rw [show ((ins σ 0).op == 23) = false from h61] at e
                      simp only [cond_false] at e
                      rw [show ((ins σ 0).op == 24) = false from h64] at e
                      simp only [cond_false] at e
                      rw [show ((ins σ 0).op == 27) = false from h67] at e
                      simp only [cond_false] at e
                      rw [show ((ins σ 0).op == 28) = false from h69] at e
                      simp only [cond_false] at e
                      rw [show ((ins σ 0).op == 29) = false from h83] at e
                      simp only [cond_false] at e
                      rw [show ((ins σ 0).op == 30) = false from h85] at e
                      simp only [cond_false] at e
                      rw [show ((ins σ 0).op == 31) = true from h87] at e
                      simp only [cond_true] at e
                      and_intros
                      all_goals first | exact True.intro | exact Eq.refl _ | (rw [e]; done) | (show _ = _; rw [e]; first | done | (simp only [bsame]; first | done | rfl) | rfl) | (simp only [bsame, e]; first | done | rfl) | (show _ = _; rw [e]; simp +zetaDelta only [W]; rfl) | omega
                    · refine ⟨fun h89 => ?_, fun h89 => ?_⟩
                      · have e := eF
                        rw [show ((ins σ 0).op == 20) = false from h0] at e
                        simp only [cond_false] at e
                        rw [show ((ins σ 0).op == 21) = false from h6] at e
                        simp only [cond_false] at e
                        rw [show ((ins σ 0).op == 22) = false from h40] at e
                        simp only [cond_false] at e
                        rw [show ((ins σ 0).op == 23) = false from h61] at e
                        simp only [cond_false] at e
                        rw [show ((ins σ 0).op == 24) = false from h64] at e
                        simp only [cond_false] at e
                        rw [show ((ins σ 0).op == 27) = false from h67] at e
                        simp only [cond_false] at e
                        rw [show ((ins σ 0).op == 28) = false from h69] at e
                        simp only [cond_false] at e
                        rw [show ((ins σ 0).op == 29) = false from h83] at e
                        simp only [cond_false] at e
                        rw [show ((ins σ 0).op == 30) = false from h85] at e
                        simp only [cond_false] at e
                        rw [show ((ins σ 0).op == 31) = false from h87] at e
                        simp only [cond_false] at e
                        rw [show ((ins σ 0).op == 25) = true from h89] at e
                        simp only [cond_true] at e
                        and_intros
                        all_goals first | exact True.intro | exact Eq.refl _ | (rw [e]; done) | (show _ = _; rw [e]; first | done | (simp only [bsame]; first | done | rfl) | rfl) | (simp only [bsame, e]; first | done | rfl) | (show _ = _; rw [e]; simp +zetaDelta only [W]; rfl) | omega
                      · refine ⟨fun h91 => ?_, fun h91 => ?_⟩
                        · have e := eF
                          rw [show ((ins σ 0).op == 20) = false from h0] at e
                          simp only [cond_false] at e
                          rw [show ((ins σ 0).op == 21) = false from h6] at e
                          simp only [cond_false] at e
                          rw [show ((ins σ 0).op == 22) = false from h40] at e
                          simp only [cond_false] at e
                          rw [show ((ins σ 0).op == 23) = false from h61] at e
                          simp only [cond_false] at e
                          rw [show ((ins σ 0).op == 24) = false from h64] at e
                          simp only [cond_false] at e
                          rw [show ((ins σ 0).op == 27) = false from h67] at e
                          simp only [cond_false] at e
                          rw [show ((ins σ 0).op == 28) = false from h69] at e
                          simp only [cond_false] at e
                          rw [show ((ins σ 0).op == 29) = false from h83] at e
                          simp only [cond_false] at e
                          rw [show ((ins σ 0).op == 30) = false from h85] at e
                          simp only [cond_false] at e
                          rw [show ((ins σ 0).op == 31) = false from h87] at e
                          simp only [cond_false] at e
                          rw [show ((ins σ 0).op == 25) = false from h89] at e
                          simp only [cond_false] at e
                          rw [show ((ins σ 0).op == 26) = true from h91] at e
                          simp only [cond_true] at e
                          and_intros
                          all_goals first | exact True.intro | exact Eq.refl _ | (rw [e]; done) | (show _ = _; rw [e]; first | done | (simp only [bsame]; first | done | rfl) | rfl) | (simp only [bsame, e]; first | done | rfl) | (show _ = _; rw [e]; simp +zetaDelta only [W]; rfl) | omega
                        · refine ⟨fun h93 => ?_, fun h93 => ?_⟩
                          · have e := eF
                            rw [show ((ins σ 0).op == 20) = false from h0] at e
                            simp only [cond_false] at e
                            rw [show ((ins σ 0).op == 21) = false from h6] at e
                            simp only [cond_false] at e
                            rw [show ((ins σ 0).op == 22) = false from h40] at e
                            simp only [cond_false] at e
                            rw [show ((ins σ 0).op == 23) = false from h61] at e
                            simp only [cond_false] at e
                            rw [show ((ins σ 0).op == 24) = false from h64] at e
                            simp only [cond_false] at e
                            rw [show ((ins σ 0).op == 27) = false from h67] at e
                            simp only [cond_false] at e
                            rw [show ((ins σ 0).op == 28) = false from h69] at e
                            simp only [cond_false] at e
                            rw [show ((ins σ 0).op == 29) = false from h83] at e
                            simp only [cond_false] at e
                            rw [show ((ins σ 0).op == 30) = false from h85] at e
                            simp only [cond_false] at e
                            rw [show ((ins σ 0).op == 31) = false from h87] at e
                            simp only [cond_false] at e
                            rw [show ((ins σ 0).op == 25) = false from h89] at e
                            simp only [cond_false] at e
                            rw [show ((ins σ 0).op == 26) = false from h91] at e
                            simp only [cond_false] at e
                            rw [show ((ins σ 0).op == 32) = true from h93] at e
                            simp only [cond_true] at e
                            and_intros
                            all_goals first | exact True.intro | exact Eq.refl _ | (rw [e]; done) | (show _ = _; rw [e]; first | done | (simp only [bsame]; first | done | rfl) | rfl) | (simp only [bsame, e]; first | done | rfl) | (show _ = _; rw [e]; simp +zetaDelta only [W]; rfl) | omega
                          · refine ⟨fun h95 => ?_, fun h95 => ?_⟩
                            · have e := eF
                              rw [show ((ins σ 0).op == 20) = false from h0] at e
                              simp only [cond_false] at e
                              rw [show ((ins σ 0).op == 21) = false from h6] at e
                              simp only [cond_false] at e
                              rw [show ((ins σ 0).op == 22) = false from h40] at e
                              simp only [cond_false] at e
                              rw [show ((ins σ 0).op == 23) = false from h61] at e
                              simp only [cond_false] at e
                              rw [show ((ins σ 0).op == 24) = false from h64] at e
                              simp only [cond_false] at e
                              rw [show ((ins σ 0).op == 27) = false from h67] at e
                              simp only [cond_false] at e
                              rw [show ((ins σ 0).op == 28) = false from h69] at e
                              simp only [cond_false] at e
                              rw [show ((ins σ 0).op == 29) = false from h83] at e
                              simp only [cond_false] at e
                              rw [show ((ins σ 0).op == 30) = false from h85] at e
                              simp only [cond_false] at e
                              rw [show ((ins σ 0).op == 31) = false from h87] at e
                              simp only [cond_false] at e
                              rw [show ((ins σ 0).op == 25) = false from h89] at e
                              simp only [cond_false] at e
                              rw [show ((ins σ 0).op == 26) = false from h91] at e
                              simp only [cond_false] at e
                              rw [show ((ins σ 0).op == 32) = false from h93] at e
                              simp only [cond_false] at e
                              rw [show ((ins σ 0).op == 33) = true from h95] at e
                              simp only [cond_true] at e
                              and_intros
                              all_goals first | exact True.intro | exact Eq.refl _ | (rw [e]; done) | (show _ = _; rw [e]; first | done | (simp only [bsame]; first | done | rfl) | rfl) | (simp only [bsame, e]; first | done | rfl) | (show _ = _; rw [e]; simp +zetaDelta only [W]; rfl) | omega
                            · have e := eF
                              rw [show ((ins σ 0).op == 20) = false from h0] at e
                              simp only [cond_false] at e
                              rw [show ((ins σ 0).op == 21) = false from h6] at e
                              simp only [cond_false] at e
                              rw [show ((ins σ 0).op == 22) = false from h40] at e
                              simp only [cond_false] at e
                              rw [show ((ins σ 0).op == 23) = false from h61] at e
                              simp only [cond_false] at e
                              rw [show ((ins σ 0).op == 24) = false from h64] at e
                              simp only [cond_false] at e
                              rw [show ((ins σ 0).op == 27) = false from h67] at e
                              simp only [cond_false] at e
                              rw [show ((ins σ 0).op == 28) = false from h69] at e
                              simp only [cond_false] at e
                              rw [show ((ins σ 0).op == 29) = false from h83] at e
                              simp only [cond_false] at e
                              rw [show ((ins σ 0).op == 30) = false from h85] at e
                              simp only [cond_false] at e
                              rw [show ((ins σ 0).op == 31) = false from h87] at e
                              simp only [cond_false] at e
                              rw [show ((ins σ 0).op == 25) = false from h89] at e
                              simp only [cond_false] at e
                              rw [show ((ins σ 0).op == 26) = false from h91] at e
                              simp only [cond_false] at e
                              rw [show ((ins σ 0).op == 32) = false from h93] at e
                              simp only [cond_false] at e
                              rw [show ((ins σ 0).op == 33) = false from h95] at e
                              simp only [cond_false] at e
                              and_intros
                              all_goals first | exact True.intro | exact Eq.refl _ | (rw [e]; done) | (show _ = _; rw [e]; first | done | (simp only [bsame]; first | done | rfl) | rfl) | (simp only [bsame, e]; first | done | rfl) | (show _ = _; rw [e]; simp +zetaDelta only [W]; rfl) | omega
theorem grp_rng {op : Int} (h : isGrp op = true) : 3 ≤ op ∧ op ≤ 10 := by
  unfold isGrp at h
  simp only [bif_or, Bool.or_eq_true, beq_iff_eq] at h
  omega
set_option maxHeartbeats 8000000 in
theorem good_rrow : Lib.Good Tryz.prog Lrrow := lib_con good_rmore Tryz.func18 cRow 3000 fun σ α hp => by
  rw [row_goal]
  intro x0 x1 x2 x3 x4 x5 x6 x7 x8 x9 x10 x11 x12 x13 x14 x15 x16 x17 x18 x19 x20 x21 x22 x23 x24 x25 x26 x27 x28 x29 x30 x31 x32 x33 x34 x35 x36 x37 x38 x39 x40 x41 x42 x43 x44 x45 x46 x47 x48 x49 x50 x51 x52 x53 x54 x55 x56 x57 x58 x59 x60 x61 x62 x63 x64 x65 x66 x67 x68 x69 x70 x71 x72 x73 x74 x75 x76 x77 x78 x79 x80 x81 x82 x83 x84 x85 x86 x87 x88 x89 x90 x91 x92
  have c0 : 0 ≤ σ.I 2 := hp.1
  have c1 : σ.I 2 ≤ 15 := hp.2
  have eF : rowR (ins σ 0) = (bif (ins σ 0).op == 1 then movR (ins σ 0) else bif (ins σ 0).op == 2 then modrmR [141] ((ins σ 0).size == 8) (ins σ 0).to.r (ins σ 0).src else bif isGrp (ins σ 0).op then groupR (ins σ 0) else bif (ins σ 0).op == 11 then testR (ins σ 0) else bif (ins σ 0).op == 12 then modrmR [15, 175] ((ins σ 0).size == 8) (ins σ 0).to.r (ins σ 0).src else bif (ins σ 0).op == 14 then oneR (ins σ 0) 246 247 2 else bif (ins σ 0).op == 13 then oneR (ins σ 0) 246 247 3 else bif (ins σ 0).op == 15 then oneR (ins σ 0) 254 255 0 else bif (ins σ 0).op == 16 then oneR (ins σ 0) 254 255 1 else bif (ins σ 0).op == 17 then shiftR (ins σ 0) 4 else bif (ins σ 0).op == 18 then shiftR (ins σ 0) 5 else bif (ins σ 0).op == 19 then shiftR (ins σ 0) 7 else moreR (ins σ 0)) := rfl
  refine ⟨fun h0 => ?_, fun h0 => ?_⟩
  · have e := eF
    rw [show ((ins σ 0).op == 1) = true from h0] at e
    simp only [cond_true] at e
    and_intros
    all_goals first | exact True.intro | exact Eq.refl _ | (rw [e]; done) | (show _ = _; rw [e]; first | done | (simp +zetaDelta only [bsame]; first | done | rfl) | rfl) | (simp +zetaDelta only [bsame, e]; first | done | rfl) | omega
  · refine ⟨fun h7 => ?_, fun h7 => ?_⟩
    · have e := eF
      rw [show ((ins σ 0).op == 1) = false from h0] at e
      simp only [cond_false] at e
      rw [show ((ins σ 0).op == 2) = true from h7] at e
      simp only [cond_true] at e
      and_intros
      all_goals first | exact True.intro | exact Eq.refl _ | (rw [e]; done) | (show _ = _; rw [e]; first | done | (simp +zetaDelta only [bsame]; first | done | rfl) | rfl) | (simp +zetaDelta only [bsame, e]; first | done | rfl) | omega
    · refine ⟨fun h40 => ?_, fun h40 => ?_⟩
      · have e := eF
        rw [show ((ins σ 0).op == 1) = false from h0] at e
        simp only [cond_false] at e
        rw [show ((ins σ 0).op == 2) = false from h7] at e
        simp only [cond_false] at e
        rw [show (isGrp (ins σ 0).op) = true from h40] at e
        simp only [cond_true] at e
        have hg : 3 ≤ σ.I 0 ∧ σ.I 0 ≤ 10 := grp_rng h40
        and_intros
        all_goals first | exact True.intro | exact Eq.refl _ | (rw [e]; done) | (show _ = _; rw [e]; first | done | (simp +zetaDelta only [bsame]; first | done | rfl) | rfl) | (simp +zetaDelta only [bsame, e]; first | done | rfl) | omega
      · refine ⟨fun h46 => ?_, fun h46 => ?_⟩
        · have e := eF
          rw [show ((ins σ 0).op == 1) = false from h0] at e
          simp only [cond_false] at e
          rw [show ((ins σ 0).op == 2) = false from h7] at e
          simp only [cond_false] at e
          rw [show (isGrp (ins σ 0).op) = false from h40] at e
          simp only [cond_false] at e
          rw [show ((ins σ 0).op == 11) = true from h46] at e
          simp only [cond_true] at e
          unfold testR at e
          rcases Bool.eq_false_or_eq_true (isR (ins σ 0).src) with hq | hq
          · have hx : x47 = true := hq
            have hX := hx
            simp +zetaDelta only at hX
            rw [hq] at e
            simp only [cond_false] at e
            and_intros
            all_goals first | exact True.intro | exact Eq.refl _ | (rw [e]; done) | (show _ = _; rw [e]; first | done | (simp +zetaDelta only [hX, cond_true, cond_false, bsame]; first | done | rfl) | rfl) | (simp +zetaDelta only [hX, cond_true, cond_false, bsame, e]; first | done | rfl) | omega
          · have hx : x47 = false := hq
            have hX := hx
            simp +zetaDelta only at hX
            rw [hq] at e
            simp only [cond_false] at e
            and_intros
            all_goals first | exact True.intro | exact Eq.refl _ | (rw [e]; done) | (show _ = _; rw [e]; first | done | (simp +zetaDelta only [hX, cond_true, cond_false, bsame]; first | done | rfl) | rfl) | (simp +zetaDelta only [hX, cond_true, cond_false, bsame, e]; first | done | rfl) | omega
        · refine ⟨fun h51 => ?_, fun h51 => ?_⟩
          · have e := eF
            rw [show ((ins σ 0).op == 1) = false from h0] at e
            simp only [cond_false] at e
            rw [show ((ins σ 0).op == 2) = false from h7] at e
            simp only [cond_false] at e
            rw [show (isGrp (ins σ 0).op) = false from h40] at e
            simp only [cond_false] at e
            rw [show ((ins σ 0).op == 11) = false from h46] at e
            simp only [cond_false] at e
            rw [show ((ins σ 0).op == 12) = true from h51] at e
            simp only [cond_true] at e
            and_intros
            all_goals first | exact True.intro | exact Eq.refl _ | (rw [e]; done) | (show _ = _; rw [e]; first | done | (simp +zetaDelta only [bsame]; first | done | rfl) | rfl) | (simp +zetaDelta only [bsame, e]; first | done | rfl) | omega
          · refine ⟨fun h53 => ?_, fun h53 => ?_⟩
            · have e := eF
              rw [show ((ins σ 0).op == 1) = false from h0] at e
              simp only [cond_false] at e
              rw [show ((ins σ 0).op == 2) = false from h7] at e
              simp only [cond_false] at e
              rw [show (isGrp (ins σ 0).op) = false from h40] at e
              simp only [cond_false] at e
              rw [show ((ins σ 0).op == 11) = false from h46] at e
              simp only [cond_false] at e
              rw [show ((ins σ 0).op == 12) = false from h51] at e
              simp only [cond_false] at e
              rw [show ((ins σ 0).op == 14) = true from h53] at e
              simp only [cond_true] at e
              and_intros
              all_goals first | exact True.intro | exact Eq.refl _ | (rw [e]; done) | (show _ = _; rw [e]; first | done | (simp +zetaDelta only [bsame]; first | done | rfl) | rfl) | (simp +zetaDelta only [bsame, e]; first | done | rfl) | omega
            · refine ⟨fun h66 => ?_, fun h66 => ?_⟩
              · have e := eF
                rw [show ((ins σ 0).op == 1) = false from h0] at e
                simp only [cond_false] at e
                rw [show ((ins σ 0).op == 2) = false from h7] at e
                simp only [cond_false] at e
                rw [show (isGrp (ins σ 0).op) = false from h40] at e
                simp only [cond_false] at e
                rw [show ((ins σ 0).op == 11) = false from h46] at e
                simp only [cond_false] at e
                rw [show ((ins σ 0).op == 12) = false from h51] at e
                simp only [cond_false] at e
                rw [show ((ins σ 0).op == 14) = false from h53] at e
                simp only [cond_false] at e
                rw [show ((ins σ 0).op == 13) = true from h66] at e
                simp only [cond_true] at e
                and_intros
                all_goals first | exact True.intro | exact Eq.refl _ | (rw [e]; done) | (show _ = _; rw [e]; first | done | (simp +zetaDelta only [bsame]; first | done | rfl) | rfl) | (simp +zetaDelta only [bsame, e]; first | done | rfl) | omega
              · refine ⟨fun h67 => ?_, fun h67 => ?_⟩
                · have e := eF
                  rw [show ((ins σ 0).op == 1) = false from h0] at e
                  simp only [cond_false] at e
                  rw [show ((ins σ 0).op == 2) = false from h7] at e
                  simp only [cond_false] at e
                  rw [show (isGrp (ins σ 0).op) = false from h40] at e
                  simp only [cond_false] at e
                  rw [show ((ins σ 0).op == 11) = false from h46] at e
                  simp only [cond_false] at e
                  rw [show ((ins σ 0).op == 12) = false from h51] at e
                  simp only [cond_false] at e
                  rw [show ((ins σ 0).op == 14) = false from h53] at e
                  simp only [cond_false] at e
                  rw [show ((ins σ 0).op == 13) = false from h66] at e
                  simp only [cond_false] at e
                  rw [show ((ins σ 0).op == 15) = true from h67] at e
                  simp only [cond_true] at e
                  and_intros
                  all_goals first | exact True.intro | exact Eq.refl _ | (rw [e]; done) | (show _ = _; rw [e]; first | done | (simp +zetaDelta only [bsame]; first | done | rfl) | rfl) | (simp +zetaDelta only [bsame, e]; first | done | rfl) | omega
                · refine ⟨fun h70 => ?_, fun h70 => ?_⟩
                  · have e := eF
                    rw [show ((ins σ 0).op == 1) = false from h0] at e
                    simp only [cond_false] at e
                    rw [show ((ins σ 0).op == 2) = false from h7] at e
                    simp only [cond_false] at e
                    rw [show (isGrp (ins σ 0).op) = false from h40] at e
                    simp only [cond_false] at e
                    rw [show ((ins σ 0).op == 11) = false from h46] at e
                    simp only [cond_false] at e
                    rw [show ((ins σ 0).op == 12) = false from h51] at e
                    simp only [cond_false] at e
                    rw [show ((ins σ 0).op == 14) = false from h53] at e
                    simp only [cond_false] at e
                    rw [show ((ins σ 0).op == 13) = false from h66] at e
                    simp only [cond_false] at e
                    rw [show ((ins σ 0).op == 15) = false from h67] at e
                    simp only [cond_false] at e
                    rw [show ((ins σ 0).op == 16) = true from h70] at e
                    simp only [cond_true] at e
                    and_intros
                    all_goals first | exact True.intro | exact Eq.refl _ | (rw [e]; done) | (show _ = _; rw [e]; first | done | (simp +zetaDelta only [bsame]; first | done | rfl) | rfl) | (simp +zetaDelta only [bsame, e]; first | done | rfl) | omega
                  · refine ⟨fun h71 => ?_, fun h71 => ?_⟩
                    · have e := eF
                      rw [show ((ins σ 0).op == 1) = false from h0] at e
                      simp only [cond_false] at e
                      rw [show ((ins σ 0).op == 2) = false from h7] at e
                      simp only [cond_false] at e
                      rw [show (isGrp (ins σ 0).op) = false from h40] at e
                      simp only [cond_false] at e
                      rw [show ((ins σ 0).op == 11) = false from h46] at e
                      simp only [cond_false] at e
                      rw [show ((ins σ 0).op == 12) = false from h51] at e
                      simp only [cond_false] at e
                      rw [show ((ins σ 0).op == 14) = false from h53] at e
                      simp only [cond_false] at e
                      rw [show ((ins σ 0).op == 13) = false from h66] at e
                      simp only [cond_false] at e
                      rw [show ((ins σ 0).op == 15) = false from h67] at e
                      simp only [cond_false] at e
                      rw [show ((ins σ 0).op == 16) = false from h70] at e
                      simp only [cond_false] at e
                      rw [show ((ins σ 0).op == 17) = true from h71] at e
                      simp only [cond_true] at e
                      unfold shiftR at e
                      rcases Bool.eq_false_or_eq_true (isR (ins σ 0).src) with hq | hq
                      · have hx : x47 = true := hq
                        have hX := hx
                        simp +zetaDelta only at hX
                        rw [hq] at e
                        simp only [cond_false] at e
                        and_intros
                        all_goals first | exact True.intro | exact Eq.refl _ | (rw [e]; done) | (show _ = _; rw [e]; first | done | (simp +zetaDelta only [hX, cond_true, cond_false, bsame]; first | done | rfl) | rfl) | (simp +zetaDelta only [hX, cond_true, cond_false, bsame, e]; first | done | rfl) | omega
                      · have hx : x47 = false := hq
                        have hX := hx
                        simp +zetaDelta only at hX
                        rw [hq] at e
                        simp only [cond_false] at e
                        and_intros
                        all_goals first | exact True.intro | exact Eq.refl _ | (rw [e]; done) | (show _ = _; rw [e]; first | done | (simp +zetaDelta only [hX, cond_true, cond_false, bsame]; first | done | rfl) | rfl) | (simp +zetaDelta only [hX, cond_true, cond_false, bsame, e]; first | done | rfl) | omega
                    · refine ⟨fun h86 => ?_, fun h86 => ?_⟩
                      · have e := eF
                        rw [show ((ins σ 0).op == 1) = false from h0] at e
                        simp only [cond_false] at e
                        rw [show ((ins σ 0).op == 2) = false from h7] at e
                        simp only [cond_false] at e
                        rw [show (isGrp (ins σ 0).op) = false from h40] at e
                        simp only [cond_false] at e
                        rw [show ((ins σ 0).op == 11) = false from h46] at e
                        simp only [cond_false] at e
                        rw [show ((ins σ 0).op == 12) = false from h51] at e
                        simp only [cond_false] at e
                        rw [show ((ins σ 0).op == 14) = false from h53] at e
                        simp only [cond_false] at e
                        rw [show ((ins σ 0).op == 13) = false from h66] at e
                        simp only [cond_false] at e
                        rw [show ((ins σ 0).op == 15) = false from h67] at e
                        simp only [cond_false] at e
                        rw [show ((ins σ 0).op == 16) = false from h70] at e
                        simp only [cond_false] at e
                        rw [show ((ins σ 0).op == 17) = false from h71] at e
                        simp only [cond_false] at e
                        rw [show ((ins σ 0).op == 18) = true from h86] at e
                        simp only [cond_true] at e
                        unfold shiftR at e
                        rcases Bool.eq_false_or_eq_true (isR (ins σ 0).src) with hq | hq
                        · have hx : x47 = true := hq
                          have hX := hx
                          simp +zetaDelta only at hX
                          rw [hq] at e
                          simp only [cond_false] at e
                          and_intros
                          all_goals first | exact True.intro | exact Eq.refl _ | (rw [e]; done) | (show _ = _; rw [e]; first | done | (simp +zetaDelta only [hX, cond_true, cond_false, bsame]; first | done | rfl) | rfl) | (simp +zetaDelta only [hX, cond_true, cond_false, bsame, e]; first | done | rfl) | omega
                        · have hx : x47 = false := hq
                          have hX := hx
                          simp +zetaDelta only at hX
                          rw [hq] at e
                          simp only [cond_false] at e
                          and_intros
                          all_goals first | exact True.intro | exact Eq.refl _ | (rw [e]; done) | (show _ = _; rw [e]; first | done | (simp +zetaDelta only [hX, cond_true, cond_false, bsame]; first | done | rfl) | rfl) | (simp +zetaDelta only [hX, cond_true, cond_false, bsame, e]; first | done | rfl) | omega
                      · refine ⟨fun h87 => ?_, fun h87 => ?_⟩
                        · have e := eF
                          rw [show ((ins σ 0).op == 1) = false from h0] at e
                          simp only [cond_false] at e
                          rw [show ((ins σ 0).op == 2) = false from h7] at e
                          simp only [cond_false] at e
                          rw [show (isGrp (ins σ 0).op) = false from h40] at e
                          simp only [cond_false] at e
                          rw [show ((ins σ 0).op == 11) = false from h46] at e
                          simp only [cond_false] at e
                          rw [show ((ins σ 0).op == 12) = false from h51] at e
                          simp only [cond_false] at e
                          rw [show ((ins σ 0).op == 14) = false from h53] at e
                          simp only [cond_false] at e
                          rw [show ((ins σ 0).op == 13) = false from h66] at e
                          simp only [cond_false] at e
                          rw [show ((ins σ 0).op == 15) = false from h67] at e
                          simp only [cond_false] at e
                          rw [show ((ins σ 0).op == 16) = false from h70] at e
                          simp only [cond_false] at e
                          rw [show ((ins σ 0).op == 17) = false from h71] at e
                          simp only [cond_false] at e
                          rw [show ((ins σ 0).op == 18) = false from h86] at e
                          simp only [cond_false] at e
                          rw [show ((ins σ 0).op == 19) = true from h87] at e
                          simp only [cond_true] at e
                          unfold shiftR at e
                          rcases Bool.eq_false_or_eq_true (isR (ins σ 0).src) with hq | hq
                          · have hx : x47 = true := hq
                            have hX := hx
                            simp +zetaDelta only at hX
                            rw [hq] at e
                            simp only [cond_false] at e
                            and_intros
                            all_goals first | exact True.intro | exact Eq.refl _ | (rw [e]; done) | (show _ = _; rw [e]; first | done | (simp +zetaDelta only [hX, cond_true, cond_false, bsame]; first | done | rfl) | rfl) | (simp +zetaDelta only [hX, cond_true, cond_false, bsame, e]; first | done | rfl) | omega
                          · have hx : x47 = false := hq
                            have hX := hx
                            simp +zetaDelta only at hX
                            rw [hq] at e
                            simp only [cond_false] at e
                            and_intros
                            all_goals first | exact True.intro | exact Eq.refl _ | (rw [e]; done) | (show _ = _; rw [e]; first | done | (simp +zetaDelta only [hX, cond_true, cond_false, bsame]; first | done | rfl) | rfl) | (simp +zetaDelta only [hX, cond_true, cond_false, bsame, e]; first | done | rfl) | omega
                        · have e := eF
                          rw [show ((ins σ 0).op == 1) = false from h0] at e
                          simp only [cond_false] at e
                          rw [show ((ins σ 0).op == 2) = false from h7] at e
                          simp only [cond_false] at e
                          rw [show (isGrp (ins σ 0).op) = false from h40] at e
                          simp only [cond_false] at e
                          rw [show ((ins σ 0).op == 11) = false from h46] at e
                          simp only [cond_false] at e
                          rw [show ((ins σ 0).op == 12) = false from h51] at e
                          simp only [cond_false] at e
                          rw [show ((ins σ 0).op == 14) = false from h53] at e
                          simp only [cond_false] at e
                          rw [show ((ins σ 0).op == 13) = false from h66] at e
                          simp only [cond_false] at e
                          rw [show ((ins σ 0).op == 15) = false from h67] at e
                          simp only [cond_false] at e
                          rw [show ((ins σ 0).op == 16) = false from h70] at e
                          simp only [cond_false] at e
                          rw [show ((ins σ 0).op == 17) = false from h71] at e
                          simp only [cond_false] at e
                          rw [show ((ins σ 0).op == 18) = false from h86] at e
                          simp only [cond_false] at e
                          rw [show ((ins σ 0).op == 19) = false from h87] at e
                          simp only [cond_false] at e
                          and_intros
                          all_goals first | exact True.intro | exact Eq.refl _ | (rw [e]; done) | (show _ = _; rw [e]; first | done | (simp +zetaDelta only [bsame]; first | done | rfl) | rfl) | (simp +zetaDelta only [bsame, e]; first | done | rfl) | omega
end Go.Proofs.YthmighgfefjcmaaGreat.Enc
end

section
/- The document's layer 4: numbers and operands: shown. No condition. -/
set_option maxRecDepth 100000
namespace Go.Proofs.YthmighgfefjcmaaGreat.Enc
open Go.RowKit Go.Proofs.YthmighgfefjcmaaGreat.X Go.IntWalk

theorem leL_step (n : Int) (k : Nat) (hk : k ≤ 7) : leL n (k + 1) = n % 256 :: leL (n / 256) k := by
  have e : le8 n = n % 256 :: (le8 (n / 256)).take 7 := by
    have a1 : n / 256 / 256 = n / 65536 := by omega
    have a2 : n / 256 / 65536 = n / 16777216 := by omega
    have a3 : n / 256 / 16777216 = n / 4294967296 := by omega
    have a4 : n / 256 / 4294967296 = n / 1099511627776 := by omega
    have a5 : n / 256 / 1099511627776 = n / 281474976710656 := by omega
    have a6 : n / 256 / 281474976710656 = n / 72057594037927936 := by omega
    unfold le8
    rw [a1, a2, a3, a4, a5, a6]
    rfl
  unfold leL
  rw [e, List.take_succ_cons, List.take_take, Nat.min_eq_left hk]
set_option maxHeartbeats 4000000 in
theorem good_rlowl : Lib.Good Tryz.prog LrlowL := lib_loop good_rrow 4 "ref.go:274" (by kernel_rfl) lLowL 1000 fun σ α rest hp => by
  obtain ⟨n0, n1, i0, i1, i2, hl⟩ := (show 0 ≤ σ.I 4 ∧ σ.I 4 < 18446744073709551616 ∧ 0 ≤ σ.I 5 ∧ σ.I 5 ≤ σ.I 6 ∧ σ.I 6 ≤ 8 ∧ (σ.R 0).length = (σ.I 5).toNat from hp)
  refine (lowl_round σ α rest).mpr ?_
  intro x0 x1 x2 x3 x4 x5 x6 x7
  refine ⟨rfl, fun hlt' => ?_, fun hge' => ?_⟩
  · have hlt : σ.I 5 < σ.I 6 := of_decide_eq_true hlt'
    have e4 : x4 = σ.I 5 + 1 := i64_in _ (by omega)
    have e3 : x3 = (σ.I 5).toNat + 1 := by show (σ.R 0 ++ [_]).length = _; rw [List.length_append, hl]; exact Eq.refl _
    have ed : (σ.I 4).fdiv 256 = σ.I 4 / 256 := fdiv_pos _ _ (by decide)
    have e5 : x6 = x5 + 1 := by show (_ : Int).toNat = (_ : Int).toNat + 1; rw [e4]; omega
    have h5 : x5 ≤ 7 := by show (_ : Int).toNat ≤ 7; rw [e4]; omega
    refine ⟨⟨rfl, trivial, by rw [e3]; omega, by rw [e3]; omega⟩, rfl, rfl, ⟨trivial, rfl⟩, ⟨by rw [ed]; omega, by rw [ed]; omega, by rw [e4]; omega, by rw [e4]; omega, i2, by rw [e3, e4]; omega⟩, by omega, ?_, rfl⟩
    have e : x2 ++ rowsB (leL ((σ.I 4).fdiv 256) x5) = x7 := by
      show (σ.R 0 ++ [_]) ++ _ = σ.R 0 ++ rowsB (leL (σ.I 4) x6)
      rw [e5, leL_step _ _ h5, ed, IntKind.wrap_u8, List.append_assoc]
      rfl
    rw [e]
  · have hge : ¬ σ.I 5 < σ.I 6 := of_decide_eq_false hge'
    have e6 : x6 = 0 := by show (_ : Int).toNat = 0; omega
    refine ⟨rfl, rfl, rfl, ⟨trivial, rfl, ?_⟩, rfl⟩
    show _ = σ.R 0 ++ rowsB (leL (σ.I 4) x6)
    rw [e6]
    exact (List.append_nil _).symm
theorem good_rlow : Lib.Good Tryz.prog Lrlow := lib_con good_rlowl Tryz.func21 cLowR 1000 fun σ α hp => by
  rw [lowr_goal]
  obtain ⟨h0, h1⟩ := (show 0 ≤ σ.I 1 ∧ σ.I 1 ≤ 8 from hp)
  intro x0 x1
  have hw : 0 ≤ IntKind.u64.wrap (σ.I 0) ∧ IntKind.u64.wrap (σ.I 0) < 18446744073709551616 := by rw [IntKind.wrap_u64]; omega
  have hx : x0 = rowsB (leL (σ.I 0) (σ.I 1).toNat) := by
    have e1 : (σ.I 1 - 0).toNat = (σ.I 1).toNat := by rw [Int.sub_zero]
    have e2 : leL (IntKind.u64.wrap (σ.I 0)) (σ.I 1).toNat = leL (σ.I 0) (σ.I 1).toNat := congrArg (List.take (σ.I 1).toNat) (le8_wrap _)
    exact (congrArg (fun k => rowsB (leL (IntKind.u64.wrap (σ.I 0)) k)) e1).trans (congrArg rowsB e2)
  exact ⟨⟨⟨True.intro, Eq.refl _⟩, hw.1, hw.2, Int.le_refl _, h0, h1, Eq.refl _⟩, True.intro, Eq.refl _, Eq.refl _, True.intro, Eq.refl _, hx⟩
theorem and7 (n : Int) : IntKind.i64.wrap (↑(BitVec.ofInt 64 n &&& BitVec.ofInt 64 (7 : Int)).toNat : Int) = n % 8 := by
  have h1 : (BitVec.ofInt 64 7).toNat = 2 ^ 3 - 1 := by decide
  have key : (BitVec.ofInt 64 n &&& BitVec.ofInt 64 7).toNat = (n % ((2 ^ 64 : Nat) : Int)).toNat % 2 ^ 3 := by
    rw [BitVec.toNat_and, BitVec.toNat_ofInt, h1, Nat.and_two_pow_sub_one_eq_mod]
  rw [key, i64_in _ (by omega)]
  omega
end Go.Proofs.YthmighgfefjcmaaGreat.Enc
end

section
/- The document's layer 4: an operand: shown. No condition. -/
set_option maxRecDepth 100000
namespace Go.Proofs.YthmighgfefjcmaaGreat.Enc
open Go.RowKit Go.Proofs.YthmighgfefjcmaaGreat.X Go.IntWalk

theorem rows1 {a a' : Int} (h : a = a') : [[Value.int .u8 a]] = rowsB [a'] := by subst h; rfl
theorem rows2 {a a' b b' : Int} (h : a = a') (h2 : b = b') : [[Value.int .u8 a], [Value.int .u8 b]] = rowsB [a', b'] := by subst h; subst h2; rfl
theorem head_x {o : Opd} (k m : Int) (hR : isR o = false) (hp : o.rip = false) (hf : o.fs = false) (hx : 0 ≤ o.index) (hb : 0 ≤ o.base) (hm : modO o = m) : rmHead k o = [64 * m + 8 * k + 4, 64 * logS o.scale + 8 * (o.index % 8) + o.base % 8] := by
  unfold rmHead hasX
  rw [hR, hp, hf, hm, show decide (o.index ≥ 0) = true from decide_eq_true hx, tmod8 _ hx, tmod8 _ hb]
  rfl
theorem head_s {o : Opd} (k m : Int) (hR : isR o = false) (hp : o.rip = false) (hf : o.fs = false) (hx : ¬ 0 ≤ o.index) (hb : 0 ≤ o.base) (hs : o.base % 8 = 4) (hm : modO o = m) : rmHead k o = [64 * m + 8 * k + 4, 36] := by
  unfold rmHead hasX isSp
  rw [hR, hp, hf, hm, show decide (o.index ≥ 0) = false from decide_eq_false hx, tmod8 _ hb, hs]
  rfl
theorem head_b {o : Opd} (k m : Int) (hR : isR o = false) (hp : o.rip = false) (hf : o.fs = false) (hx : ¬ 0 ≤ o.index) (hb : 0 ≤ o.base) (hs : ¬ o.base % 8 = 4) (hm : modO o = m) : rmHead k o = [64 * m + 8 * k + o.base % 8] := by
  unfold rmHead hasX isSp
  rw [hR, hp, hf, hm, show decide (o.index ≥ 0) = false from decide_eq_false hx, tmod8 _ hb, show (o.base % 8 == 4) = false from beq_eq_false_iff_ne.2 hs]
  rfl
theorem size_m {o : Opd} (s : Nat) (hR : isR o = false) (hp : o.rip = false) (hf : o.fs = false) (h : sizO o = s) : rmSize o = s := by
  unfold rmSize; rw [hR, hp, hf, h]; rfl
theorem log_2 {s : Int} (h : (s == 2) = true) : logS s = 1 := by rw [eq_of_beq h]; rfl
theorem log_4 {s : Int} (h : (s == 4) = true) : logS s = 2 := by rw [eq_of_beq h]; rfl
theorem log_8 {s : Int} (h : (s == 8) = true) : logS s = 3 := by rw [eq_of_beq h]; rfl
theorem log_0 {s : Int} (h2 : (s == 2) = false) (h4 : (s == 4) = false) (h8 : (s == 8) = false) : logS s = 0 := by
  unfold logS; rw [h2, h4, h8]; cases (s == 1) <;> rfl
set_option maxHeartbeats 8000000 in
theorem good_roper : Lib.Good Tryz.prog Lroper := lib_con good_rlow Tryz.func20 cOperand 2000 fun σ α hp => by
  rw [oper_goal]
  obtain ⟨g0, g1, hok⟩ := (show 0 ≤ σ.I 0 ∧ σ.I 0 ≤ 15 ∧ rmOk (opd σ 1) from hp)
  rw [and7, and7, and7, and7]
  intro x0 x1 x2 x3 x4 x5 x6 x7 x8 x9 x10 x11 x13 x15 x16 x17 x18 x19 x20 x22 x24 x25 x27 x28 x29 x31 x33 x34 x36 x37 x38 x39 x40 x41 x42 x43 x44 x45 x46 x47 x48 x49 x50 x51 x52 x53
  have k0 : 0 ≤ σ.I 0 % 8 := by omega
  have k7 : σ.I 0 % 8 ≤ 7 := by omega
  have e1 : x1 = 8 * (σ.I 0 % 8) := by show IntKind.u8.wrap (IntKind.i64.wrap (8 * (σ.I 0 % 8))) = _; rw [i64_in _ (by omega), IntKind.wrap_u8]; omega
  have e3 : x3 = rowsB (rmHead (σ.I 0 % 8) (opd σ 1)) := rfl
  clear_value x1 x3
  refine ⟨fun h => ?_, fun h => ?_⟩
  · have hk : isR (opd σ 1) = true := h
    have hr : 0 ≤ σ.I 2 ∧ σ.I 2 ≤ 15 := by
      rcases hok with h | h
      · exact h.2
      · rw [hk] at h; cases h.1
    have e2 : x2 = x3 := by
      have eh : rmHead (σ.I 0 % 8) (opd σ 1) = [192 + 8 * (σ.I 0 % 8) + σ.I 2 % 8] := by
        rw [rmHead, hk]
        show [modrm 3 _ ((σ.I 2).tmod 8)] = _
        rw [tmod8 _ hr.1]
        rfl
      rw [e3, eh]
      refine rows1 ?_
      rw [e1]; simp only [IntKind.wrap_u8]; omega
    have es : x4 := by show (0 : Int) = ((rmSize (opd σ 1) : Nat) : Int); rw [rmSize, hk]; exact Eq.refl _
    exact ⟨True.intro, Eq.refl _, Eq.refl _, ⟨True.intro, Eq.refl _, e2⟩, es⟩
  have hR : isR (opd σ 1) = false := h
  have hok' : (opd σ 1).rip = true ∨ (opd σ 1).fs = true ∨ (0 ≤ (opd σ 1).base ∧ (opd σ 1).base ≤ 15 ∧ -1 ≤ (opd σ 1).index ∧ (opd σ 1).index ≤ 15) := by
    rcases hok with h | h
    · rw [hR] at h; cases h.1
    · exact h.2.2.2.2.2
  clear hok
  refine ⟨fun hr => ?_, fun hrip => ?_⟩
  · have hr' : (opd σ 1).rip = true := hr
    have e2 : x5 = x3 := by
      have eh : rmHead (σ.I 0 % 8) (opd σ 1) = [8 * (σ.I 0 % 8) + 5] := by
        rw [rmHead, hR, hr']
        show [modrm 0 _ 5] = _
        unfold modrm; simp
      rw [e3, eh]
      refine rows1 ?_
      rw [e1]; simp only [IntKind.wrap_u8]; omega
    have es : x6 := by show (4 : Int) = ((rmSize (opd σ 1) : Nat) : Int); rw [rmSize, hR, hr']; exact Eq.refl _
    exact ⟨True.intro, Eq.refl _, Eq.refl _, ⟨True.intro, Eq.refl _, e2⟩, es⟩
  have hp' : (opd σ 1).rip = false := hrip
  refine ⟨fun hf => ?_, fun hfs => ?_⟩
  · have hf' : (opd σ 1).fs = true := hf
    have e2 : x7 = x3 := by
      have eh : rmHead (σ.I 0 % 8) (opd σ 1) = [8 * (σ.I 0 % 8) + 4, 37] := by
        rw [rmHead, hR, hp', hf']
        show [modrm 0 _ 4, 37] = _
        unfold modrm; simp
      rw [e3, eh]
      refine rows2 ?_ rfl
      rw [e1]; simp only [IntKind.wrap_u8]; omega
    have es : x6 := by show (4 : Int) = ((rmSize (opd σ 1) : Nat) : Int); rw [rmSize, hR, hp', hf']; exact Eq.refl _
    exact ⟨True.intro, Eq.refl _, Eq.refl _, ⟨True.intro, Eq.refl _, e2⟩, es⟩
  have hf' : (opd σ 1).fs = false := hfs
  obtain ⟨b0, b1, i0, i1⟩ : 0 ≤ σ.I 3 ∧ σ.I 3 ≤ 15 ∧ -1 ≤ σ.I 4 ∧ σ.I 4 ≤ 15 := by
    rcases hok' with h | h | h
    · rw [hp'] at h; cases h
    · rw [hf'] at h; cases h
    · exact h
  clear hok'
  have e9 : x9 = σ.I 3 % 8 := rfl
  have e17 : x17 = 8 * (σ.I 4 % 8) := by show IntKind.u8.wrap (IntKind.i64.wrap (8 * (σ.I 4 % 8))) = _; rw [i64_in _ (by omega), IntKind.wrap_u8]; omega
  have e18 : x18 = σ.I 3 % 8 := by show IntKind.u8.wrap (σ.I 3 % 8) = _; rw [IntKind.wrap_u8]; omega
  clear_value x17 x18
  have c19 : x13 = true → ∃ a, x19 = [[Value.int .u8 a]] ∧ a = 64 * logS (σ.I 5) + 8 * (σ.I 4 % 8) + σ.I 3 % 8 := fun h => ⟨_, rfl, by rw [log_2 h, e17, e18]; simp only [IntKind.wrap_u8]; omega⟩
  have c24 : x22 = true → ∃ a, x24 = [[Value.int .u8 a]] ∧ a = 64 * logS (σ.I 5) + 8 * (σ.I 4 % 8) + σ.I 3 % 8 := fun h => ⟨_, rfl, by rw [log_4 h, e17, e18]; simp only [IntKind.wrap_u8]; omega⟩
  have c28 : x13 = false → x22 = false → ∃ a, x28 = [[Value.int .u8 a]] ∧ a = 64 * logS (σ.I 5) + 8 * (σ.I 4 % 8) + σ.I 3 % 8 := fun h1 h2 => ⟨_, rfl, by
    cases h3 : x27 with
    | true => rw [log_8 h3, e17, e18]; simp only [cond_true, IntKind.wrap_u8]; omega
    | false => rw [log_0 h1 h2 h3, e17, e18]; simp only [cond_false, IntKind.wrap_u8]; omega⟩
  clear_value x19 x24 x28
  have hdisp : anon (opd σ 1) = x8 := rfl
  have hd0 : disp0 (opd σ 1) = (bif x8 then (bif σ.I 8 == 0 then (σ.I 3).tmod 8 != 5 else false) else disp0 (opd σ 1)) := by
    cases h : x8 with
    | false => rfl
    | true => unfold disp0 dispN; rw [hdisp, h]; rfl
  rw [tmod8 _ b0] at hd0
  refine ⟨fun h10 => ?_, fun h10 => ?_⟩
  · obtain ⟨h8, hz, h5⟩ : x8 = true ∧ σ.I 8 = 0 ∧ σ.I 3 % 8 ≠ 5 := by
      have h10' : (bif x8 then bif σ.I 8 == (0 : Int) then σ.I 3 % 8 != (5 : Int) else false else false) = true := h10
      revert h10'; cases x8 <;> cases hz : σ.I 8 == 0 <;> simp_all
    have hm : modO (opd σ 1) = 0 := by unfold modO; rw [hd0, hdisp, h8, hz]; show (bif ((σ.I 3) % 8 != 5) then (0 : Int) else _) = 0; rw [show (σ.I 3 % 8 != 5) = true from bne_iff_ne.2 h5]; rfl
    have hs : sizO (opd σ 1) = 0 := by unfold sizO; rw [hd0, hdisp, h8, hz]; show (bif ((σ.I 3) % 8 != 5) then (0 : Nat) else _) = 0; rw [show (σ.I 3 % 8 != 5) = true from bne_iff_ne.2 h5]; rfl
    have es : x4 := by show (0 : Int) = ((rmSize (opd σ 1) : Nat) : Int); rw [size_m 0 hR hp' hf' hs]; exact Eq.refl _
    have x15e : x15 = 8 * (σ.I 0 % 8) := by show IntKind.u8.wrap (0 + x1) = _; rw [e1, IntKind.wrap_u8]; omega
    have eh4 : x16 = 64 * 0 + 8 * (σ.I 0 % 8) + 4 := by show IntKind.u8.wrap (x15 + 4) = _; rw [x15e, IntKind.wrap_u8]; omega
    clear_value x15 x16
    refine ⟨fun hx => ?_, fun hx => ?_⟩
    · have hx' : 0 ≤ (opd σ 1).index := of_decide_eq_true hx
      have eh := head_x (σ.I 0 % 8) 0 hR hp' hf' hx' b0 hm
      refine ⟨fun h2 => ?_, fun h2 => ⟨fun h4 => ?_, fun h4 => ?_⟩⟩
      · obtain ⟨q, hq, hq'⟩ := c19 h2
        have e2 : x20 = x3 := by
          show [Value.int .u8 x16] :: x19 = x3; rw [hq, e3, eh]; exact rows2 eh4 hq'
        exact ⟨True.intro, Eq.refl _, Eq.refl _, ⟨True.intro, by rw [e2, e3, eh]; exact Eq.refl _, e2⟩, es⟩
      · obtain ⟨q, hq, hq'⟩ := c24 h4
        have e2 : x25 = x3 := by
          show [Value.int .u8 x16] :: x24 = x3; rw [hq, e3, eh]; exact rows2 eh4 hq'
        exact ⟨True.intro, Eq.refl _, Eq.refl _, ⟨True.intro, by rw [e2, e3, eh]; exact Eq.refl _, e2⟩, es⟩
      · obtain ⟨q, hq, hq'⟩ := c28 h2 h4
        have e2 : x29 = x3 := by
          show [Value.int .u8 (bif x27 then x16 else x16)] :: x28 = x3; rw [bsame, hq, e3, eh]; exact rows2 eh4 hq'
        exact ⟨True.intro, Eq.refl _, Eq.refl _, ⟨True.intro, by rw [e2, e3, eh]; exact Eq.refl _, e2⟩, es⟩
    · have hx' : ¬ 0 ≤ (opd σ 1).index := of_decide_eq_false hx
      refine ⟨fun h4 => ?_, fun h4 => ?_⟩
      · have eh := head_s (σ.I 0 % 8) 0 hR hp' hf' hx' b0 (eq_of_beq h4) hm
        have e2 : x34 = x3 := by show [Value.int .u8 x16] :: [[Value.int .u8 36]] = x3; rw [e3, eh]; exact rows2 eh4 rfl
        exact ⟨True.intro, Eq.refl _, Eq.refl _, ⟨True.intro, by rw [e2, e3, eh]; exact Eq.refl _, e2⟩, es⟩
      · have eh := head_b (σ.I 0 % 8) 0 hR hp' hf' hx' b0 (beq_eq_false_iff_ne.1 (show ((opd σ 1).base % 8 == 4) = false from h4)) hm
        have e2 : x36 = x3 := by show [[Value.int .u8 (IntKind.u8.wrap (x15 + x18))]] = x3; rw [e3, eh]; refine rows1 ?_; rw [x15e, e18]; show _ = 64 * _ + _ + σ.I 3 % 8; simp only [IntKind.wrap_u8]; omega
        exact ⟨True.intro, Eq.refl _, Eq.refl _, ⟨True.intro, by rw [e2, e3, eh]; exact Eq.refl _, e2⟩, es⟩
  have hq0 : x8 = true → (bif σ.I 8 == (0 : Int) then σ.I 3 % 8 != (5 : Int) else false) = false := fun h => by
    have h10' : (bif x8 then bif σ.I 8 == (0 : Int) then σ.I 3 % 8 != (5 : Int) else false else false) = false := h10
    rw [h] at h10'; exact h10'
  have h53 : modO (opd σ 1) = 2 → sizO (opd σ 1) = 4 → x53 := fun hm hs => by
    have es : x6 := by show (4 : Int) = ((rmSize (opd σ 1) : Nat) : Int); rw [size_m 4 hR hp' hf' hs]; exact Eq.refl _
    have x46e : x46 = 128 + 8 * (σ.I 0 % 8) := by show IntKind.u8.wrap (128 + x1) = _; rw [e1, IntKind.wrap_u8]; omega
    have eh4 : x47 = 64 * 2 + 8 * (σ.I 0 % 8) + 4 := by show IntKind.u8.wrap (x46 + 4) = _; rw [x46e, IntKind.wrap_u8]; omega
    clear_value x46 x47
    refine ⟨fun hx => ?_, fun hx => ?_⟩
    · have hx' : 0 ≤ (opd σ 1).index := of_decide_eq_true hx
      have eh := head_x (σ.I 0 % 8) 2 hR hp' hf' hx' b0 hm
      refine ⟨fun h2 => ?_, fun h2 => ⟨fun h4 => ?_, fun h4 => ?_⟩⟩
      · obtain ⟨q, hq, hq'⟩ := c19 h2
        have e2 : x48 = x3 := by
          show [Value.int .u8 x47] :: x19 = x3; rw [hq, e3, eh]; exact rows2 eh4 hq'
        exact ⟨True.intro, Eq.refl _, Eq.refl _, ⟨True.intro, by rw [e2, e3, eh]; exact Eq.refl _, e2⟩, es⟩
      · obtain ⟨q, hq, hq'⟩ := c24 h4
        have e2 : x49 = x3 := by
          show [Value.int .u8 x47] :: x24 = x3; rw [hq, e3, eh]; exact rows2 eh4 hq'
        exact ⟨True.intro, Eq.refl _, Eq.refl _, ⟨True.intro, by rw [e2, e3, eh]; exact Eq.refl _, e2⟩, es⟩
      · obtain ⟨q, hq, hq'⟩ := c28 h2 h4
        have e2 : x50 = x3 := by
          show [Value.int .u8 (bif x27 then x47 else x47)] :: x28 = x3; rw [bsame, hq, e3, eh]; exact rows2 eh4 hq'
        exact ⟨True.intro, Eq.refl _, Eq.refl _, ⟨True.intro, by rw [e2, e3, eh]; exact Eq.refl _, e2⟩, es⟩
    · have hx' : ¬ 0 ≤ (opd σ 1).index := of_decide_eq_false hx
      refine ⟨fun h4 => ?_, fun h4 => ?_⟩
      · have eh := head_s (σ.I 0 % 8) 2 hR hp' hf' hx' b0 (eq_of_beq h4) hm
        have e2 : x51 = x3 := by show [Value.int .u8 x47] :: [[Value.int .u8 36]] = x3; rw [e3, eh]; exact rows2 eh4 rfl
        exact ⟨True.intro, Eq.refl _, Eq.refl _, ⟨True.intro, by rw [e2, e3, eh]; exact Eq.refl _, e2⟩, es⟩
      · have eh := head_b (σ.I 0 % 8) 2 hR hp' hf' hx' b0 (beq_eq_false_iff_ne.1 (show ((opd σ 1).base % 8 == 4) = false from h4)) hm
        have e2 : x52 = x3 := by show [[Value.int .u8 (IntKind.u8.wrap (x46 + x18))]] = x3; rw [e3, eh]; refine rows1 ?_; rw [x46e, e18]; show _ = 64 * _ + _ + σ.I 3 % 8; simp only [IntKind.wrap_u8]; omega
        exact ⟨True.intro, Eq.refl _, Eq.refl _, ⟨True.intro, by rw [e2, e3, eh]; exact Eq.refl _, e2⟩, es⟩
  refine ⟨fun h8 => ⟨fun h37 => ?_, fun h37 => h53 ?_ ?_⟩, fun h8 => h53 ?_ ?_⟩
  · have hdn : dispN (opd σ 1) = σ.I 8 := by unfold dispN; rw [hdisp, h8]; rfl
    have h1 : disp1 (opd σ 1) = true := by unfold disp1; rw [hdn]; exact h37
    have h0 : disp0 (opd σ 1) = false := by rw [hd0, h8]; exact hq0 h8
    have hm : modO (opd σ 1) = 1 := by unfold modO; rw [hdisp, h8, h0, h1]; rfl
    have hs : sizO (opd σ 1) = 1 := by unfold sizO; rw [hdisp, h8, h0, h1]; rfl
    have es : x41 := by show (1 : Int) = ((rmSize (opd σ 1) : Nat) : Int); rw [size_m 1 hR hp' hf' hs]; exact Eq.refl _
    have x38e : x38 = 64 + 8 * (σ.I 0 % 8) := by show IntKind.u8.wrap (64 + x1) = _; rw [e1, IntKind.wrap_u8]; omega
    have eh4 : x39 = 64 * 1 + 8 * (σ.I 0 % 8) + 4 := by show IntKind.u8.wrap (x38 + 4) = _; rw [x38e, IntKind.wrap_u8]; omega
    clear_value x38 x39
    refine ⟨fun hx => ?_, fun hx => ?_⟩
    · have hx' : 0 ≤ (opd σ 1).index := of_decide_eq_true hx
      have eh := head_x (σ.I 0 % 8) 1 hR hp' hf' hx' b0 hm
      refine ⟨fun h2 => ?_, fun h2 => ⟨fun h4 => ?_, fun h4 => ?_⟩⟩
      · obtain ⟨q, hq, hq'⟩ := c19 h2
        have e2 : x40 = x3 := by
          show [Value.int .u8 x39] :: x19 = x3; rw [hq, e3, eh]; exact rows2 eh4 hq'
        exact ⟨True.intro, Eq.refl _, Eq.refl _, ⟨True.intro, by rw [e2, e3, eh]; exact Eq.refl _, e2⟩, es⟩
      · obtain ⟨q, hq, hq'⟩ := c24 h4
        have e2 : x42 = x3 := by
          show [Value.int .u8 x39] :: x24 = x3; rw [hq, e3, eh]; exact rows2 eh4 hq'
        exact ⟨True.intro, Eq.refl _, Eq.refl _, ⟨True.intro, by rw [e2, e3, eh]; exact Eq.refl _, e2⟩, es⟩
      · obtain ⟨q, hq, hq'⟩ := c28 h2 h4
        have e2 : x43 = x3 := by
          show [Value.int .u8 (bif x27 then x39 else x39)] :: x28 = x3; rw [bsame, hq, e3, eh]; exact rows2 eh4 hq'
        exact ⟨True.intro, Eq.refl _, Eq.refl _, ⟨True.intro, by rw [e2, e3, eh]; exact Eq.refl _, e2⟩, es⟩
    · have hx' : ¬ 0 ≤ (opd σ 1).index := of_decide_eq_false hx
      refine ⟨fun h4 => ?_, fun h4 => ?_⟩
      · have eh := head_s (σ.I 0 % 8) 1 hR hp' hf' hx' b0 (eq_of_beq h4) hm
        have e2 : x44 = x3 := by show [Value.int .u8 x39] :: [[Value.int .u8 36]] = x3; rw [e3, eh]; exact rows2 eh4 rfl
        exact ⟨True.intro, Eq.refl _, Eq.refl _, ⟨True.intro, by rw [e2, e3, eh]; exact Eq.refl _, e2⟩, es⟩
      · have eh := head_b (σ.I 0 % 8) 1 hR hp' hf' hx' b0 (beq_eq_false_iff_ne.1 (show ((opd σ 1).base % 8 == 4) = false from h4)) hm
        have e2 : x45 = x3 := by show [[Value.int .u8 (IntKind.u8.wrap (x38 + x18))]] = x3; rw [e3, eh]; refine rows1 ?_; rw [x38e, e18]; show _ = 64 * _ + _ + σ.I 3 % 8; simp only [IntKind.wrap_u8]; omega
        exact ⟨True.intro, Eq.refl _, Eq.refl _, ⟨True.intro, by rw [e2, e3, eh]; exact Eq.refl _, e2⟩, es⟩
  · have hdn : dispN (opd σ 1) = σ.I 8 := by unfold dispN; rw [hdisp, h8]; rfl
    have h1 : disp1 (opd σ 1) = false := by unfold disp1; rw [hdn]; exact h37
    have h0 : disp0 (opd σ 1) = false := by rw [hd0, h8]; exact hq0 h8
    unfold modO; rw [hdisp, h8, h0, h1]; rfl
  · have hdn : dispN (opd σ 1) = σ.I 8 := by unfold dispN; rw [hdisp, h8]; rfl
    have h1 : disp1 (opd σ 1) = false := by unfold disp1; rw [hdn]; exact h37
    have h0 : disp0 (opd σ 1) = false := by rw [hd0, h8]; exact hq0 h8
    unfold sizO; rw [hdisp, h8, h0, h1]; rfl
  · unfold modO; rw [hdisp, h8]; rfl
  · unfold sizO; rw [hdisp, h8]; rfl
end Go.Proofs.YthmighgfefjcmaaGreat.Enc
end

section
/- The document's layer 4: REX and holes: shown. No condition. -/
set_option maxRecDepth 100000
namespace Go.Proofs.YthmighgfefjcmaaGreat.Enc
open Go.RowKit Go.Proofs.YthmighgfefjcmaaGreat.X Go.IntWalk

theorem good_rex : Lib.Good Tryz.prog Lrex := lib_con good_roper Tryz.func19 cRex 2000 fun σ α hp => by
  rw [rex_goal]
  intro x0 x2 x3 x5 x6 x8 x9 x13 x14 x15 x16 x17 x18 x19
  have er : rexRow (rowOf' σ 30 []) = 64 + (bif σ.B 30 then 8 else 0) + (bif x0 then 4 else 0) + (bif x3 then 2 else 0) + (bif x6 then 1 else 0) := by
    unfold rexRow
    have e1 : (σ.B 33 && decide (σ.I 32 ≥ 8)) = x0 := by show _ = (bif σ.B 33 then _ else false); cases σ.B 33 <;> rfl
    have e2 : (σ.B 33 && (σ.I 34 == 3 && decide (σ.I 37 ≥ 8))) = x3 := by show _ = (bif σ.B 33 then (bif σ.I 34 == 3 then _ else false) else false); cases σ.B 33 <;> cases (σ.I 34 == 3) <;> rfl
    have e3 : (decide (σ.I 31 ≥ 8) || (σ.B 33 && ((σ.I 34 == 1 && decide (σ.I 35 ≥ 8)) || (σ.I 34 == 3 && decide (σ.I 36 ≥ 8))))) = x6 := by
      show _ = (bif decide (σ.I 31 ≥ 8) then true else bif σ.B 33 then bif σ.I 34 == 1 then bif decide (σ.I 35 ≥ 8) then true else (bif σ.I 34 == 3 then decide (σ.I 36 ≥ 8) else false) else (bif σ.I 34 == 3 then decide (σ.I 36 ≥ 8) else false) else false)
      cases decide (σ.I 31 ≥ 8) <;> cases σ.B 33 <;> cases (σ.I 34 == 1) <;> cases decide (σ.I 35 ≥ 8) <;> cases (σ.I 34 == 3) <;> rfl
    rw [← e1, ← e2, ← e3]; rfl
  have es : (!smallR (ins σ 0)) = x19 := by
    show (!(bif (bif σ.I 0 == 17 then σ.I 0 == 17 else bif σ.I 0 == 18 then σ.I 0 == 18 else σ.I 0 == 19) then _ else bif (σ.I 0 == 29 || σ.I 0 == 30) then _ else (_ || (_ && σ.I 1 == 1)))) = (!bif bif σ.I 0 == 17 then σ.I 0 == 17 else bif σ.I 0 == 18 then σ.I 0 == 18 else σ.I 0 == 19 then x16 else bif bif σ.I 0 == 29 then σ.I 0 == 29 else σ.I 0 == 30 then x18 else bif x16 then true else bif x18 then σ.I 1 == 1 else false)
    have e16 : (bif (ins σ 0).size == 1 then smallReg (ins σ 0).to else false) = x16 := rfl
    have e18 : smallReg (ins σ 0).src = x18 := rfl
    rw [e16, e18]
    cases (σ.I 0 == 29) <;> cases x16 <;> cases x18 <;> rfl
  have e8 : x8 = (bif (64 + (bif σ.B 30 then 8 else 0) + (bif x0 then 4 else 0) + (bif x3 then 2 else 0) + (bif x6 then 1 else 0) : Int) == 64 && x19 then 0 else 64 + (bif σ.B 30 then 8 else 0) + (bif x0 then 4 else 0) + (bif x3 then 2 else 0) + (bif x6 then 1 else 0)) := by
    show rexB _ _ = _
    unfold rexB; rw [er, es]
  clear_value x0 x3 x6 x8 x19
  refine ⟨fun h1 => ⟨fun h2 => ⟨fun h3 => ⟨fun h4 => ?_, fun h4 => ?_⟩, fun h3 => ⟨fun h4 => ?_, fun h4 => ?_⟩⟩, fun h2 => ⟨fun h3 => ⟨fun h4 => ?_, fun h4 => ?_⟩, fun h3 => ⟨fun h4 => ?_, fun h4 => ?_⟩⟩⟩,
    fun h1 => ⟨fun h2 => ⟨fun h3 => ⟨fun h4 => ?_, fun h4 => ?_⟩, fun h3 => ⟨fun h4 => ?_, fun h4 => ?_⟩⟩, fun h2 => ⟨fun h3 => ⟨fun h4 => ?_, fun h4 => ?_⟩, fun h3 => ⟨fun h4 => ?_, fun h4 => ⟨fun h5 => ?_, fun h5 => ?_⟩⟩⟩⟩⟩
  all_goals (refine ⟨True.intro, Eq.refl _, Eq.refl _, ⟨True.intro, ?_⟩, Eq.refl _, Eq.refl _⟩; rw [e8, h1, h2, h3, h4])
  all_goals first | rfl | (rw [h5]; rfl)
theorem good_rhole : Lib.Good Tryz.prog Lrhole := lib_con good_rex Tryz.func22 cHole 2000 fun σ α hp => by
  rw [rhole_goal]
  intro x0 x1 x2 x3 x4 x5 x6 x7 x8 x9
  have e5 : x5 = σ.I 10 := bsame _ _
  have e8 : x8 = σ.I 11 := bsame _ _
  have e9 : x9 = σ.S 8 := bsame _ _
  have e1 : x1 = (x0 && σ.I 11 == 1) := by show (bif x0 then _ else false) = _; cases x0 <;> rfl
  have e7 : x7 = (bif x0 && σ.I 11 == 1 then ⟨σ.I 10, σ.I 11, 0, σ.S 8, -1⟩
    else bif x0 then ⟨σ.I 10, σ.I 11, bif x2 then 4 else 2, σ.S 8, -4⟩
    else bif σ.B 5 then ⟨σ.I 10, σ.I 11, bif x3 then 22 else bif x4 then 9 else 2, σ.S 8, IntKind.i64.wrap (σ.I 7 - σ.I 12)⟩
    else ⟨σ.I 10, σ.I 11, bif x6 then 23 else 21, σ.S 8, σ.I 7⟩) := rfl
  rw [e1, e7, e5, e8, e9]
  refine ⟨True.intro, Eq.refl _, Eq.refl _, ?_⟩
  clear e7 e1 e5 e8 e9
  clear_value x0 x2 x3 x4 x6
  cases x0 <;> cases (σ.I 11 == 1) <;> cases σ.B 5 <;> cases x2 <;> cases x3 <;> cases x4 <;> cases x6 <;> exact ⟨⟨⟨⟨⟨True.intro, Eq.refl _⟩, Eq.refl _⟩, Eq.refl _⟩, Eq.refl _⟩, Eq.refl _⟩
end Go.Proofs.YthmighgfefjcmaaGreat.Enc
end

section
/- The document's layer 4: all bytes: shown. No condition. -/
set_option maxRecDepth 100000
namespace Go.Proofs.YthmighgfefjcmaaGreat.Enc
open Go.RowKit Go.Proofs.YthmighgfefjcmaaGreat.X Go.IntWalk

theorem addLast_rows (l : List Int) (hl : 1 ≤ l.length) (m n : Int) (hm : m = n) : (rowsB l).set (l.length - 1) (setRow ((rowsB l).getD (l.length - 1) []) 0 [Value.int .u8 (IntKind.u8.wrap (asI (((rowsB l).getD (l.length - 1) []).getD 0 (Value.tuple #[])) + m))]) = rowsB (addLast l n) := by
  subst hm
  obtain ⟨a, b, rfl⟩ : ∃ a b, l = a ++ [b] := ⟨l.dropLast, l.getLast (by intro h; rw [h] at hl; simp at hl), (List.dropLast_concat_getLast _).symm⟩
  have e : (a ++ [b]).length - 1 = a.length := by simp
  unfold addLast
  rw [e]
  have e2 : (rowsB (a ++ [b])).getD a.length [] = [Value.int .u8 b] := by
    rw [rowsB_app, List.getD_eq_getElem?_getD, List.getElem?_append_right (by rw [rowsB_len]; exact Nat.le_refl _), rowsB_len, Nat.sub_self]; rfl
  rw [e2, List.take_left, List.drop_left, rowsB_app, rowsB_app, List.set_append_right _ _ (by rw [rowsB_len]; omega), rowsB_len, Nat.sub_self]
  rfl
theorem addLast_len (l : List Int) (n : Int) : (addLast l n).length = l.length := by
  unfold addLast; simp
theorem rb_tail {i : Ins} {r : RowS} (hg : rowGood r) {pre : List Int} (hp : pre.length ≤ 2) (hh : rHead i r = bif decide (r.plus ≥ 0) then addLast (pre ++ r.code) (r.plus % 8) else pre ++ r.code) {C : Bool} (hC : C = true) {x45 : List (List Value)} (hB : x45 = rowsB (pre ++ r.code)) :
    let x3 := rowsB (rBytes i r)
    let x4 := rowsH (rHols i r)
    let x5 := 0 = 0 ∧ [] = x4
    let x12 := r.reg
    let x13 := r.hasRm
    let x25 := r.rm
    let x26 := r.num
    let x27 := r.n
    let x46 := x45.length
    let x47 := decide (r.plus ≥ (0 : Int))
    let x49 := (↑x46 : Int)
    let x50 := IntKind.i64.wrap (x49 - (1 : Int))
    let x51 := (0 : Int) ≤ x50 ∧ x50 < x49 ∧ x46 ≤ x46
    let x52 := x50.toNat
    let x53 := x52 < x46
    let x55 := True ∧ (0 : Int) ≤ x12 ∧ x12 ≤ (15 : Int) ∧ rmOk x25
    let x56 := IntKind.u8.wrap (IntKind.i64.wrap (↑(BitVec.ofInt 64 r.plus &&& BitVec.ofInt 64 (7 : Int)).toNat : Int))
    let x57 := bif x47 then x45.set x52 (setRow (x45.getD x52 []) 0 [Value.int IntKind.u8 (IntKind.u8.wrap (asI ((x45.getD x52 []).getD 0 (Value.tuple #[])) + x56))]) else x45
    let x58 := x46 = x57.length
    let x59 := rowsB (rmHead (x12 % (8 : Int)) x25)
    let x60 := x59.length
    let x61 := x60 ≤ x60
    let x62 := List.take x60 x59
    let x63 := x57 ++ x62
    let x64 := x63.length
    let x65 := (↑(rmSize x25) : Int)
    let x66 := True ∧ (0 : Int) ≤ x65 ∧ x65 ≤ (8 : Int)
    let x67 := !r.rm.name.toList == []
    let x68 := rowsB (leL (bif x67 then (0 : Int) else r.rm.n) x65.toNat)
    let x69 := x68.length
    let x70 := x69 ≤ x69
    let x71 := List.take x69 x68
    let x72 := x63 ++ x71
    let x73 := x72.length
    let x74 := True ∧ (0 : Int) ≤ x26 ∧ x26 ≤ (8 : Int)
    let x75 := !r.name.name.toList == []
    let x76 := rowsB (leL (bif x75 then (0 : Int) else x27) x26.toNat)
    let x77 := x76.length
    let x78 := x77 ≤ x77
    let x79 := List.take x77 x76
    let x80 := x72 ++ x79
    let x81 := x80.length
    let x82 := bif x75 then (↑x73 : Int) else bif x67 then (↑x64 : Int) else (-1 : Int)
    let x83 := decide (x82 < (0 : Int))
    let x84 := True ∧ x81 = x81 ∧ x80 = x3
    let x85 := (Opd.mk (bif x75 then r.name.kind else bif x67 then r.rm.kind else (0 : Int)) (bif x75 then r.name.r else bif x67 then r.rm.r else (0 : Int)) (bif x75 then r.name.base else bif x67 then r.rm.base else (0 : Int)) (bif x75 then r.name.index else bif x67 then r.rm.index else (0 : Int)) (bif x75 then r.name.scale else bif
      x67 then r.rm.scale else (0 : Int)) (bif x75 then r.name.rip else bif x67 then r.rm.rip else false) (bif x75 then r.name.fs else bif x67 then r.rm.fs else false) (bif x75 then r.name.n else bif x67 then r.rm.n else (0 : Int)) (bif x75 then r.name.name else bif x67 then r.rm.name else (ByteArray.mk (#[]))) (bif
      x75 then r.name.mod else bif x67 then r.rm.mod else (0 : Int)))
    let x86 := bif x75 then x26 else bif x67 then x65 else (0 : Int)
    let x87 := holeR' x85 x82 x86 (IntKind.i64.wrap ((↑x81 : Int) - x82))
    let x88 := [[Value.int IntKind.i64 x87.at_, Value.int IntKind.i64 x87.size, Value.int IntKind.i64 x87.type, Value.string x87.name, Value.int IntKind.i64 x87.add]]
    let x90 := x57 ++ x79
    let x91 := x90.length
    let x92 := bif x75 then x49 else (-1 : Int)
    let x93 := decide (x92 < (0 : Int))
    let x94 := True ∧ x91 = x91 ∧ x90 = x3
    let x95 := (Opd.mk (bif x75 then r.name.kind else (0 : Int)) (bif x75 then r.name.r else (0 : Int)) (bif x75 then r.name.base else (0 : Int)) (bif x75 then r.name.index else (0 : Int)) (bif x75 then r.name.scale else (0 : Int)) (bif x75 then r.name.rip else false) (bif x75 then r.name.fs else false) (bif x75
      then r.name.n else (0 : Int)) (bif x75 then r.name.name else (ByteArray.mk (#[]))) (bif x75 then r.name.mod else (0 : Int)))
    let x96 := bif x75 then x26 else (0 : Int)
    let x97 := holeR' x95 x92 x96 (IntKind.i64.wrap ((↑x91 : Int) - x92))
    let x98 := [[Value.int IntKind.i64 x97.at_, Value.int IntKind.i64 x97.size, Value.int IntKind.i64 x97.type, Value.string x97.name, Value.int IntKind.i64 x97.add]]
    (True ∧ (rowsB r.code).length ≤ (rowsB r.code).length ∧ x46 ≤ 9223372036854775807 ∧ x46 * 1 ≤ 140737488355328) ∧ (x47 = true → x51 ∧ x53 ∧ x51 ∧ x53) ∧ (x13 = true → x55 ∧
    (x58 ∧ x61 ∧ x64 ≤ 9223372036854775807 ∧ x64 * 1 ≤ 140737488355328) ∧ x66 ∧ (x64 = x64 ∧ x70 ∧ x73 ≤ 9223372036854775807 ∧ x73 * 1 ≤ 140737488355328) ∧ x74 ∧ (x73 = x73 ∧ x78 ∧ x81 ≤ 9223372036854775807 ∧ x81 * 1 ≤ 140737488355328) ∧ (x83 = true → True ∧ (C = true → Ex.ret = Ex.ret
    ∧ true = true ∧ x84 ∧ x5) ∧ (C = false → Ex.ret = Ex.ret ∧ true = true ∧ False)) ∧ (x83 = false → (True ∧ True) ∧ True ∧ (C = true → Ex.ret = Ex.ret ∧ true = true ∧ x84 ∧ 1 = x88.length ∧ x88 = x4) ∧ (C = false → Ex.ret = Ex.ret ∧ true = true ∧ False))) ∧
    (x13 = false → x74 ∧ (x58 ∧ x78 ∧ x91 ≤ 9223372036854775807 ∧ x91 * 1 ≤ 140737488355328) ∧ (x93 = true → True ∧ (C = true → Ex.ret = Ex.ret ∧ true = true ∧ x94 ∧ x5) ∧ (C = false → Ex.ret = Ex.ret ∧ true = true ∧ False)) ∧ (x93 = false → (True ∧ True) ∧ True ∧ (C =
    true → Ex.ret = Ex.ret ∧ true = true ∧ x94 ∧ 1 = x98.length ∧ x98 = x4) ∧ (C = false → Ex.ret = Ex.ret ∧ true = true ∧ False))) := by
  intro x3 x4 x5 x12 x13 x25 x26 x27 x46 x47 x49 x50 x51 x52 x53 x55 x56 x57 x58 x59 x60 x61 x62 x63 x64 x65 x66 x67 x68 x69 x70 x71 x72 x73 x74 x75 x76 x77 x78 x79 x80 x81 x82 x83 x84 x85 x86 x87 x88 x90 x91 x92 x93 x94 x95 x96 x97 x98
  obtain ⟨c1, c4, hrm, n0, n8⟩ := hg
  have l46 : x46 = pre.length + r.code.length := by show x45.length = _; rw [hB, rowsB_len, List.length_append]
  have e50 : x50 = x49 - 1 := i64_in _ (by omega)
  have e52 : x52 = (pre ++ r.code).length - 1 := by show x50.toNat = _; rw [e50, List.length_append, ← l46]; show ((x46 : Int) - 1).toNat = _; omega
  have h51 : x51 := ⟨by rw [e50]; omega, by rw [e50]; omega, Nat.le_refl _⟩
  have h53 : x53 := by show x52 < x46; rw [e52, List.length_append]; omega
  have e56 : x56 = r.plus % 8 := by show IntKind.u8.wrap (IntKind.i64.wrap _) = _; rw [and7, IntKind.wrap_u8]; omega
  have e57 : x57 = rowsB (rHead i r) := by
    show (bif x47 then x45.set x52 _ else x45) = _
    rw [hh]
    show _ = rowsB (bif x47 then _ else _)
    cases x47 with
    | true =>
      show x45.set x52 _ = rowsB (addLast _ _)
      rw [hB, e52]
      exact addLast_rows _ (by rw [List.length_append]; omega) _ _ e56
    | false => exact hB
  have lh : (rHead i r).length = x46 := by
    rw [hh, l46, ← List.length_append]
    cases decide (r.plus ≥ 0) with
    | true => exact addLast_len _ _
    | false => rfl
  have h58 : x58 := by show x46 = x57.length; rw [e57, rowsB_len, lh]
  have e62 : x62 = rowsB (rmHead (r.reg % 8) r.rm) := List.take_length
  have e71 : x71 = rowsB (leL (bif !anon r.rm then 0 else r.rm.n) (rmSize r.rm)) := List.take_length
  have e79 : x79 = rowsB (rNum r) := List.take_length
  have e63 : x63 = rowsB (rHead i r ++ rmHead (r.reg % 8) r.rm) := by show x57 ++ x62 = _; rw [e57, e62, rowsB_app]
  have e72 : x72 = rowsB (rHead i r ++ (rmHead (r.reg % 8) r.rm ++ leL (bif !anon r.rm then 0 else r.rm.n) (rmSize r.rm))) := by show x63 ++ x71 = _; rw [e63, e71, ← rowsB_app, List.append_assoc]
  have e80 : x80 = rowsB (rHead i r ++ (rmHead (r.reg % 8) r.rm ++ leL (bif !anon r.rm then 0 else r.rm.n) (rmSize r.rm)) ++ rNum r) := by show x72 ++ x79 = _; rw [e72, e79, ← rowsB_app]
  have e90 : x90 = rowsB (rHead i r ++ rNum r) := by show x57 ++ x79 = _; rw [e57, e79, ← rowsB_app]
  have lr := rmHead_len (r.reg % 8) r.rm
  have ls : rmSize r.rm ≤ 4 := by unfold rmSize; have := sizO_le r.rm; cases isR r.rm <;> cases r.rm.rip <;> cases r.rm.fs <;> simp <;> omega
  have l64 : x64 = x46 + (rmHead (r.reg % 8) r.rm).length := by show x63.length = _; rw [e63, rowsB_len, List.length_append, lh]
  have l73 : x73 = x64 + rmSize r.rm := by show x72.length = _; rw [e72, rowsB_len, List.length_append, List.length_append, leL_len _ _ (by omega), lh, l64]; omega
  have lN : (rNum r).length = r.num.toNat := leL_len _ _ (by omega)
  have l81 : x81 = x73 + r.num.toNat := by
    show x80.length = _
    rw [show x80 = x72 ++ x79 from rfl, List.length_append, e79, rowsB_len, lN]
  have l91 : x91 = x46 + r.num.toNat := by show x90.length = _; rw [e90, rowsB_len, List.length_append, lN, lh]
  have h74 : x74 := ⟨True.intro, n0, n8⟩
  have a75 : x75 = !anon r.name := rfl
  have a67 : x67 = !anon r.rm := rfl
  refine ⟨⟨True.intro, Nat.le_refl _, by omega, by omega⟩, fun _ => ⟨h51, h53, h51, h53⟩, fun h13 => ?_, fun h13 => ?_⟩
  · have hR : r.hasRm = true := h13
    obtain ⟨g0, g1, g2⟩ := hrm h13
    have hb : rBytes i r = rHead i r ++ (rmHead (r.reg % 8) r.rm ++ leL (bif !anon r.rm then 0 else r.rm.n) (rmSize r.rm)) ++ rNum r := by
      unfold rBytes rMod; rw [hR]; rfl
    have h84 : x84 := ⟨True.intro, rfl, by rw [e80]; show _ = rowsB (rBytes i r); rw [hb]⟩
    have lB : ((rBytes i r).length : Int) = x81 := by rw [hb, ← rowsB_len, ← e80]
    have lM : (((rHead i r ++ rMod r).length : Nat) : Int) = x73 := by unfold rMod; rw [hR]; show ((List.length (rHead i r ++ (rmHead (r.reg % 8) r.rm ++ leL (bif !anon r.rm then 0 else r.rm.n) (rmSize r.rm))) : Nat) : Int) = _; rw [← rowsB_len, ← e72]
    have lH : (((rHead i r ++ rmHead (r.reg % 8) r.rm).length : Nat) : Int) = x64 := by rw [← rowsB_len, ← e63]
    refine ⟨⟨True.intro, g0, g1, g2⟩, ⟨h58, Nat.le_refl _, by omega, by omega⟩, ⟨True.intro, Int.natCast_nonneg _, by show ((rmSize r.rm : Nat) : Int) ≤ 8; omega⟩, ⟨rfl, Nat.le_refl _, by omega, by omega⟩, h74, ⟨rfl, Nat.le_refl _, by omega, by omega⟩, fun h83 => ?_, fun h83 => ?_⟩
    · have h82 : x82 < 0 := of_decide_eq_true h83
      refine ⟨True.intro, fun _ => ⟨rfl, rfl, h84, rfl, ?_⟩, fun h => by rw [hC] at h; cases h⟩
      show [] = rowsH (rHols i r)
      have h82' : (bif x75 then (↑x73 : Int) else bif x67 then (↑x64 : Int) else (-1 : Int)) < 0 := h82
      unfold rHols
      rw [← a75, hR, ← a67]
      cases h75 : x75 with
      | true => rw [h75] at h82'; simp only [cond_true] at h82'; omega
      | false =>
        cases h67 : x67 with
        | true => rw [h75, h67] at h82'; simp only [cond_true, cond_false] at h82'; omega
        | false => rfl
    · have h82 : ¬ x82 < 0 := of_decide_eq_false h83
      refine ⟨⟨True.intro, True.intro⟩, True.intro, fun _ => ⟨rfl, rfl, h84, ?_⟩, fun h => by rw [hC] at h; cases h⟩
      have h82' : ¬ (bif x75 then (↑x73 : Int) else bif x67 then (↑x64 : Int) else (-1 : Int)) < 0 := h82
      have e87 : rHols i r = [x87] := by
        show _ = [holeR' (Opd.mk (bif x75 then r.name.kind else bif x67 then r.rm.kind else (0 : Int)) (bif x75 then r.name.r else bif x67 then r.rm.r else (0 : Int)) (bif x75 then r.name.base else bif x67 then r.rm.base else (0 : Int)) (bif x75 then r.name.index else bif x67 then r.rm.index else (0 : Int)) (bif x75 then r.name.scale else bif
      x67 then r.rm.scale else (0 : Int)) (bif x75 then r.name.rip else bif x67 then r.rm.rip else false) (bif x75 then r.name.fs else bif x67 then r.rm.fs else false) (bif x75 then r.name.n else bif x67 then r.rm.n else (0 : Int)) (bif x75 then r.name.name else bif x67 then r.rm.name else (ByteArray.mk (#[]))) (bif
      x75 then r.name.mod else bif x67 then r.rm.mod else (0 : Int))) (bif x75 then (↑x73 : Int) else bif x67 then (↑x64 : Int) else (-1 : Int)) (bif x75 then x26 else bif x67 then x65 else (0 : Int)) (IntKind.i64.wrap ((↑x81 : Int) - (bif x75 then (↑x73 : Int) else bif x67 then (↑x64 : Int) else (-1 : Int))))]
        unfold rHols
        rw [← a75, hR, ← a67, lB, lM, lH]
        cases h75 : x75 with
        | true =>
          simp only [cond_true]
          rw [i64_in _ (by omega)]
        | false =>
          cases h67 : x67 with
          | true =>
            simp only [cond_true, cond_false, Bool.and_true]
            rw [i64_in _ (by omega)]
          | false => rw [h75, h67] at h82'; simp only [cond_false] at h82'; omega
      exact ⟨by show 1 = 1; rfl, by show _ = rowsH (rHols i r); rw [e87]; rfl⟩
  · have hR : r.hasRm = false := h13
    have hb : rBytes i r = rHead i r ++ rNum r := by
      unfold rBytes rMod; rw [hR]; show rHead i r ++ [] ++ _ = _; rw [List.append_nil]
    have h94 : x94 := ⟨True.intro, rfl, by rw [e90]; show _ = rowsB (rBytes i r); rw [hb]⟩
    have lB : ((rBytes i r).length : Int) = x91 := by rw [hb, ← rowsB_len, ← e90]
    have lM : (((rHead i r ++ rMod r).length : Nat) : Int) = x49 := by unfold rMod; rw [hR]; show ((List.length (rHead i r ++ []) : Nat) : Int) = _; rw [List.append_nil, lh]
    refine ⟨h74, ⟨h58, Nat.le_refl _, by omega, by omega⟩, fun h93 => ?_, fun h93 => ?_⟩
    · have h92 : x92 < 0 := of_decide_eq_true h93
      refine ⟨True.intro, fun _ => ⟨rfl, rfl, h94, rfl, ?_⟩, fun h => by rw [hC] at h; cases h⟩
      show [] = rowsH (rHols i r)
      have h92' : (bif x75 then x49 else (-1 : Int)) < 0 := h92
      unfold rHols
      rw [← a75, hR, ← a67]
      cases h75 : x75 with
      | true => rw [h75] at h92'; simp only [cond_true] at h92'; omega
      | false => rfl
    · have h92 : ¬ x92 < 0 := of_decide_eq_false h93
      refine ⟨⟨True.intro, True.intro⟩, True.intro, fun _ => ⟨rfl, rfl, h94, ?_⟩, fun h => by rw [hC] at h; cases h⟩
      have h92' : ¬ (bif x75 then x49 else (-1 : Int)) < 0 := h92
      have e97 : rHols i r = [x97] := by
        show _ = [holeR' (Opd.mk (bif x75 then r.name.kind else (0 : Int)) (bif x75 then r.name.r else (0 : Int)) (bif x75 then r.name.base else (0 : Int)) (bif x75 then r.name.index else (0 : Int)) (bif x75 then r.name.scale else (0 : Int)) (bif x75 then r.name.rip else false) (bif x75 then r.name.fs else false) (bif x75
      then r.name.n else (0 : Int)) (bif x75 then r.name.name else (ByteArray.mk (#[]))) (bif x75 then r.name.mod else (0 : Int))) (bif x75 then x49 else (-1 : Int)) (bif x75 then x26 else (0 : Int)) (IntKind.i64.wrap ((↑x91 : Int) - (bif x75 then x49 else (-1 : Int))))]
        unfold rHols
        rw [← a75, hR, ← a67, lB, lM]
        cases h75 : x75 with
        | true =>
          simp only [cond_true]
          rw [i64_in _ (by omega)]
        | false => rw [h75] at h92'; simp only [cond_false] at h92'; omega
      exact ⟨by show 1 = 1; rfl, by show _ = rowsH (rHols i r); rw [e97]; rfl⟩
theorem rpre {i : Ins} {a : Bool} (h : (bif i.to.fs then true else i.src.fs) = a) : (i.to.fs || i.src.fs) = a := by rw [← h]; cases i.to.fs <;> rfl
theorem takeB (p c : List Int) : rowsB p ++ List.take (rowsB c).length (rowsB c) = rowsB (p ++ c) := by rw [List.take_length, rowsB_app]
theorem form_cond {i : Ins} (f : Form i) : 0 ≤ i.cond ∧ i.cond ≤ 15 := by
  cases f <;> (first | exact ⟨by assumption, by assumption⟩ | omega)
set_option maxHeartbeats 4000000 in
theorem good_rbytes : Lib.Good Tryz.prog Lrbytes := lib_con good_rhole Tryz.func5 cRbytes 3000 fun σ α hp => by
  rw [rbytes_goal]
  obtain ⟨p1, p2, hgood⟩ := (show (σ.S 11).size ≤ big ∧ (σ.S 21).size ≤ big ∧ (chkB (ins σ 0) = true → rowGood (rowR (ins σ 0))) from hp)
  intro x0 x1 x2
  have e0 : x0 = ins σ 0 := rfl
  refine ⟨⟨True.intro, p1, p2⟩, fun h2 => ?_, fun h2 => ?_⟩
  · have hc : chkB (ins σ 0) = false := by
      cases h : chkB (ins σ 0) with
      | false => rfl
      | true => have : ((bif chkB (ins σ 0) then (0 : Int) else 30) != 0) = true := h2; rw [h] at this; cases this
    have h1 : x1 = 30 := by show (bif chkB (ins σ 0) then (0 : Int) else 30) = 30; rw [hc]; rfl
    exact ⟨trivial, fun h => (by rw [hc] at h; cases h), fun _ => ⟨rfl, rfl, trivial, by rw [h1]⟩⟩
  · have hc : chkB (ins σ 0) = true := by
      cases h : chkB (ins σ 0) with
      | true => rfl
      | false => have : ((bif chkB (ins σ 0) then (0 : Int) else 30) != 0) = false := h2; rw [h] at this; cases this
    have hg := hgood hc
    have hcond : 0 ≤ σ.I 2 ∧ σ.I 2 ≤ 15 := form_cond (chk_form hc)
    refine ⟨⟨True.intro, hcond.1, hcond.2⟩, fun h6 => ⟨⟨⟨True.intro, Eq.refl _⟩, True.intro⟩, fun h40 => ?_, fun h40 => ?_⟩, fun h6 => ⟨⟨⟨True.intro, Eq.refl _⟩, True.intro⟩, fun h40 => ?_, fun h40 => ?_⟩⟩
    · have hr : rHead (ins σ 0) (rowR (ins σ 0)) = (bif decide ((rowR (ins σ 0)).plus ≥ 0) then addLast ([100, rexB (ins σ 0) (rowR (ins σ 0))] ++ (rowR (ins σ 0)).code) ((rowR (ins σ 0)).plus % 8) else [100, rexB (ins σ 0) (rowR (ins σ 0))] ++ (rowR (ins σ 0)).code) := by
        unfold rHead; rw [rpre h6, show (rexB (ins σ 0) (rowR (ins σ 0)) != 0) = true from h40]; rfl
      exact rb_tail hg (by simp) hr hc (takeB [100, rexB (ins σ 0) (rowR (ins σ 0))] (rowR (ins σ 0)).code)
    · have hr : rHead (ins σ 0) (rowR (ins σ 0)) = (bif decide ((rowR (ins σ 0)).plus ≥ 0) then addLast ([100] ++ (rowR (ins σ 0)).code) ((rowR (ins σ 0)).plus % 8) else [100] ++ (rowR (ins σ 0)).code) := by
        unfold rHead; rw [rpre h6, show (rexB (ins σ 0) (rowR (ins σ 0)) != 0) = false from h40]; rfl
      exact rb_tail hg (by simp) hr hc (takeB [100] (rowR (ins σ 0)).code)
    · have hr : rHead (ins σ 0) (rowR (ins σ 0)) = (bif decide ((rowR (ins σ 0)).plus ≥ 0) then addLast ([rexB (ins σ 0) (rowR (ins σ 0))] ++ (rowR (ins σ 0)).code) ((rowR (ins σ 0)).plus % 8) else [rexB (ins σ 0) (rowR (ins σ 0))] ++ (rowR (ins σ 0)).code) := by
        unfold rHead; rw [rpre h6, show (rexB (ins σ 0) (rowR (ins σ 0)) != 0) = true from h40]; rfl
      exact rb_tail hg (by simp) hr hc (takeB [rexB (ins σ 0) (rowR (ins σ 0))] (rowR (ins σ 0)).code)
    · have hr : rHead (ins σ 0) (rowR (ins σ 0)) = (bif decide ((rowR (ins σ 0)).plus ≥ 0) then addLast ([] ++ (rowR (ins σ 0)).code) ((rowR (ins σ 0)).plus % 8) else [] ++ (rowR (ins σ 0)).code) := by
        unfold rHead; rw [rpre h6, show (rexB (ins σ 0) (rowR (ins σ 0)) != 0) = false from h40]; rfl
      exact rb_tail hg (by simp) hr hc (takeB [] (rowR (ins σ 0)).code)
end Go.Proofs.YthmighgfefjcmaaGreat.Enc
end

section
/- Each form's bytes are made of its parts. No condition. -/
set_option maxRecDepth 100000
namespace Go.Proofs.YthmighgfefjcmaaGreat.Enc
open Go.RowKit Go.Proofs.YthmighgfefjcmaaGreat.X Go.IntWalk

def WfE (e : Enc) : Prop := e.pc.Wf ∧ e.pc.flat = e.bytes
theorem pc_ne {i : Ins} (h : i.op ≠ 32) : pcI i = (encI i).pc := by unfold pcI; rw [if_neg h]
theorem wfm {W k : Int} {o : Opd} (ho : RmO o) (force : Bool) {op num : List Int} (hW : W ≤ 15) (h0 : 0 ≤ k) (h1 : k ≤ 7) (hop : opOk op) (hm : hasM op) (hn : num.length = nlen op (rexM W o force) k) (hb : InB num := by first | exact leL_b _ _ | exact inB_nil) : WfE (mE W k o force op num) := wf_m ho force hW h0 h1 hop hm hn hb
theorem m_1 {o : Int} (h : hasM1 o) : hasM [o] := h
theorem rexW_le15 (s : Int) : rexW s ≤ 15 := by have := rexW_le8 s; omega
theorem mod8 (r : Int) : 0 ≤ r % 8 ∧ r % 8 ≤ 7 := by omega
theorem leL_l1 (n : Int) : (leL n 1).length = 1 := by rw [leL_lm]; rfl
theorem leL_l4 (n : Int) : (leL n 4).length = 4 := by rw [leL_lm]; rfl
theorem rexM_w8 {r : Int} {force : Bool} : (rexL r force).getD 0 0 / 8 % 2 = r / 8 % 2 := by
  unfold rexL
  cases h : (bif r != 0 then true else force) with
  | true => simp only [cond_true, List.getD_cons_zero]; omega
  | false =>
    have : r = 0 := by
      cases hr : r != 0 with
      | true => rw [hr] at h; cases h
      | false => simpa using hr
    rw [this]; rfl
theorem rexOr1W (r s : Int) : rexOr (bif decide (r ≥ 8) then 1 else 0) (rexW s) = (if s = 8 then 8 else 0) + (if r ≥ 8 then 1 else 0) := by
  unfold rexW
  by_cases h : s = 8
  · by_cases h2 : r ≥ 8
    · rw [decide_eq_true h2, h, if_pos rfl, if_pos h2]; rfl
    · rw [decide_eq_false h2, h, if_pos rfl, if_neg h2]; rfl
  · rw [beqF h, if_neg h]
    by_cases h2 : r ≥ 8
    · rw [decide_eq_true h2, if_pos h2]; rfl
    · rw [decide_eq_false h2, if_neg h2]; rfl
theorem form_wfE {i : Ins} (f : Form i) (h32 : i.op ≠ 32) : WfE (encI i) := by
  cases f with
  | rr op sz sz2 cd sh to src =>
    rw [e_rr op src]
    have hc := codes op
    have hv : 0 ≤ szOp i.size (codeS i.op) (codeG i.op) ∧ hasM1 (szOp i.size (codeS i.op) (codeG i.op)) ∧ szOp i.size (codeS i.op) (codeG i.op) ≠ 15 ∧ (szOp i.size (codeS i.op) (codeG i.op) < 64 ∨ (132 ≤ szOp i.size (codeS i.op) (codeG i.op) ∧ szOp i.size (codeS i.op) (codeG i.op) ≤ 144)) := by
      unfold hasM1
      rcases sz_or sz with s | s
      · rw [szOp_1 s]; omega
      · rw [szOp_n s]; omega
    exact wfm to _ (rexWR_le _ _).2 (mod8 _).1 (mod8 _).2 (opOk1 hv.2.2.1 (by omega) (by omega)) hv.2.1 (by rw [nlen_0 (by omega)]; rfl)
  | rm op sz cd sh to src =>
    rw [e_rm op to src]
    have hc := codes (op := i.op) (by omega)
    have hv : 0 ≤ szOp i.size (codeS i.op) (codeG i.op) ∧ hasM1 (szOp i.size (codeS i.op) (codeG i.op) + 2) ∧ szOp i.size (codeS i.op) (codeG i.op) + 2 ≠ 15 ∧ (szOp i.size (codeS i.op) (codeG i.op) + 2 < 64 ∨ (132 ≤ szOp i.size (codeS i.op) (codeG i.op) + 2 ∧ szOp i.size (codeS i.op) (codeG i.op) + 2 ≤ 144)) := by
      unfold hasM1
      rcases sz_or sz with s | s
      · rw [szOp_1 s]; omega
      · rw [szOp_n s]; omega
    exact wfm (.inr src) _ (rexWR_le _ _).2 (mod8 _).1 (mod8 _).2 (opOk1 hv.2.2.1 (by omega) (by omega)) hv.2.1 (by rw [nlen_0 (by omega)]; rfl)
  | ri op sz cd sh to src fits =>
    rcases op with op | op | op
    · by_cases hr : ∃ _ : RegO i.to, i.size < 8
      · obtain ⟨hr, h8⟩ := hr
        rw [e_mv op src hr (.inl h8), rexOr1W]
        have r0 := hr.r0
        have r1 := hr.r1
        rw [if_neg (by omega)]
        have hb : (0 : Int) ≤ 0 + (if i.to.r ≥ 8 then 1 else 0) ∧ (0 : Int) + (if i.to.r ≥ 8 then 1 else 0) ≤ 1 := by split <;> omega
        rcases sz_or sz with s | s
        · rw [szOp_1 s, s]
          exact wf_p (by omega) (opOk1 (by omega) (by omega) (by omega)) (fun h => by have : hasM1 _ := h; unfold hasM1 at this; omega) (by rw [nlen_1 (by omega)]; exact leL_l1 _)
        · have s4 : i.size = 4 := by rcases s with s | s <;> omega
          rw [szOp_n s, s4]
          exact wf_p (by omega) (opOk1 (by omega) (by omega) (by omega)) (fun h => by have : hasM1 _ := h; unfold hasM1 at this; omega) (by rw [nlen_4 (by rw [rexM_w8]; omega)]; exact leL_l4 _)
      · have hm : MemO i.to ∨ (RegO i.to ∧ i.size = 8 ∧ fits32 i.src.n = true) := by
          rcases to with to | to
          · right
            have s8 : i.size = 8 := by
              rcases sz with s | s | s
              · exact absurd ⟨to, by omega⟩ hr
              · exact absurd ⟨to, by omega⟩ hr
              · exact s
            refine ⟨to, s8, ?_⟩
            rw [s8] at fits
            exact fits
          · exact .inl to
        rw [e_mv2 op src hm]
        rcases sz_or sz with s | s
        · rw [szOp_1 s, min4_1 s]
          exact wfm to _ (rexW_le15 _) (by omega) (by omega) (opOk1 (by omega) (by omega) (by omega)) (m_1 (by unfold hasM1; omega)) (by rw [nlen_1 (by omega)]; exact leL_l1 _)
        · rw [szOp_n s, min4_4 s]
          exact wfm to _ (rexW_le15 _) (by omega) (by omega) (opOk1 (by omega) (by omega) (by omega)) (m_1 (by unfold hasM1; omega)) (by rw [nlen_4 (by omega)]; exact leL_l4 _)
    · by_cases h : i.size ≠ 1 ∧ short8 i.size i.src.n = true
      · rw [e_gi op src h]
        exact wfm to _ (rexW_le15 _) (by omega) (by omega) (opOk1 (by omega) (by omega) (by omega)) (m_1 (by unfold hasM1; omega)) (by rw [nlen_1 (by omega)]; exact leL_l1 _)
      · have h2 : i.size = 1 ∨ short8 i.size i.src.n = false := by
          by_cases h1 : i.size = 1
          · exact .inl h1
          · right
            cases hh : short8 i.size i.src.n with
            | false => rfl
            | true => exact absurd ⟨h1, hh⟩ h
        rw [e_gi2 op src h2]
        rcases sz_or sz with s | s
        · rw [szOp_1 s, min4_1 s]
          exact wfm to _ (rexW_le15 _) (by omega) (by omega) (opOk1 (by omega) (by omega) (by omega)) (m_1 (by unfold hasM1; omega)) (by rw [nlen_1 (by omega)]; exact leL_l1 _)
        · rw [szOp_n s, min4_4 s]
          exact wfm to _ (rexW_le15 _) (by omega) (by omega) (opOk1 (by omega) (by omega) (by omega)) (m_1 (by unfold hasM1; omega)) (by rw [nlen_4 (by omega)]; exact leL_l4 _)
    · rw [e_ti op src]
      rcases sz_or sz with s | s
      · rw [szOp_1 s, min4_1 s]
        exact wfm to _ (rexW_le15 _) (by omega) (by omega) (opOk1 (by omega) (by omega) (by omega)) (m_1 (by unfold hasM1; omega)) (by rw [nlen_1 (by omega)]; exact leL_l1 _)
      · rw [szOp_n s, min4_4 s]
        exact wfm to _ (rexW_le15 _) (by omega) (by omega) (opOk1 (by omega) (by omega) (by omega)) (m_1 (by unfold hasM1; omega)) (by rw [nlen_4 (by omega)]; exact leL_l4 _)
  | mi op sz cd sh to src =>
    cases hf : fits32 i.src.n with
    | true =>
      rw [e_mv2 op src (.inr ⟨to, sz, hf⟩), szOp_n (.inr sz), min4_4 (.inr sz)]
      exact wfm (.inl to) _ (rexW_le15 _) (by omega) (by omega) (opOk1 (by omega) (by omega) (by omega)) (m_1 (by unfold hasM1; omega)) (by rw [nlen_4 (by omega)]; exact leL_l4 _)
    | false =>
      rw [e_mv op src to (.inr hf), rexOr1W, szOp_n (.inr sz), sz]
      have r0 := to.r0
      have r1 := to.r1
      have hb : (8 : Int) ≤ (if (8 : Int) = 8 then 8 else 0) + (if i.to.r ≥ 8 then 1 else 0) ∧ (if (8 : Int) = 8 then 8 else 0) + (if i.to.r ≥ 8 then 1 else 0) ≤ (9 : Int) := by split <;> split <;> omega
      exact wf_p (by omega) (opOk1 (by omega) (by omega) (by omega)) (fun h => by have : hasM1 _ := h; unfold hasM1 at this; omega) (by rw [nlen_8 (by rw [rexM_w8]; omega), leL_lm]; rfl)
  | lea op sz cd sh to src fs =>
    rw [e_ld (.inl op) to, op]
    exact wfm (.inr src) _ (rexWR_le _ _).2 (mod8 _).1 (mod8 _).2 (opOk1 (by omega) (by omega) (by omega)) (m_1 (by unfold hasM1; omega)) (by rw [show ldOp 2 i.cond = [141] from rfl, nlen_0 (by omega)]; rfl)
  | ld op sz c0 c1 cd sh to src =>
    rw [e_ld (.inr op) to]
    rcases op with op | op | op | op <;> rw [op]
    · exact wfm src _ (rexWR_le _ _).2 (mod8 _).1 (mod8 _).2 (opOk2 (by omega)) (by show hasM2 175; unfold hasM2; omega) rfl
    · refine wfm src _ (rexWR_le _ _).2 (mod8 _).1 (mod8 _).2 (opOk2 (by omega)) (by show hasM2 (64 + i.cond); unfold hasM2; omega) ?_
      show 0 = nlen2 (64 + i.cond)
      unfold nlen2; rw [if_neg (by omega)]
    · exact wfm src _ (rexWR_le _ _).2 (mod8 _).1 (mod8 _).2 (opOk2 (by omega)) (by show hasM2 182; unfold hasM2; omega) rfl
    · exact wfm src _ (rexWR_le _ _).2 (mod8 _).1 (mod8 _).2 (opOk2 (by omega)) (by show hasM2 190; unfold hasM2; omega) rfl
  | one op sz cd sh to src =>
    rw [e_one op]
    have hk : 0 ≤ oneK i.op ∧ oneK i.op ≤ 7 ∧ (i.op ≤ 14 → oneK i.op ≠ 0) := by unfold oneK; split <;> (try split) <;> (try split) <;> omega
    have ho : (oneOp i.op i.size = 246 ∨ oneOp i.op i.size = 247) ∧ i.op ≤ 14 ∨ 254 ≤ oneOp i.op i.size ∧ oneOp i.op i.size ≤ 255 := by
      unfold oneOp
      rcases sz_or sz with s | s
      · rw [szOp_1 s, szOp_1 s]; split <;> omega
      · rw [szOp_n s, szOp_n s]; split <;> omega
    exact wfm to _ (rexW_le15 _) hk.1 hk.2.1 (opOk1 (by omega) (by omega) (by omega)) (m_1 (by unfold hasM1; omega)) (by rw [nlen_0 (by omega)]; rfl)
  | set op sz c0 c1 sh to src =>
    rw [e_set op]
    refine wfm to _ (by decide) (by decide) (by decide) (opOk2 (by omega)) (by show hasM2 (144 + i.cond); unfold hasM2; omega) ?_
    show 0 = nlen2 (144 + i.cond)
    unfold nlen2; rw [if_neg (by omega)]
  | shr op sz cd sh to src r =>
    rw [e_shr op src]
    have hk : 0 ≤ shK i.op ∧ shK i.op ≤ 7 := by
      have : i.op = 17 ∨ i.op = 18 ∨ i.op = 19 := by omega
      rcases this with h | h | h <;> rw [h] <;> decide
    have ho : szOp i.size 210 211 = 210 ∨ szOp i.size 210 211 = 211 := by
      rcases sz_or sz with s | s
      · exact .inl (szOp_1 s)
      · exact .inr (szOp_n s)
    exact wfm to _ (rexW_le15 _) hk.1 hk.2 (opOk1 (by omega) (by omega) (by omega)) (m_1 (by unfold hasM1; omega)) (by rw [nlen_0 (by omega)]; rfl)
  | shi op sz cd sh to src n0 n1 =>
    rw [e_shi op src]
    have hk : 0 ≤ shK i.op ∧ shK i.op ≤ 7 := by
      have : i.op = 17 ∨ i.op = 18 ∨ i.op = 19 := by omega
      rcases this with h | h | h <;> rw [h] <;> decide
    have ho : szOp i.size 192 193 = 192 ∨ szOp i.size 192 193 = 193 := by
      rcases sz_or sz with s | s
      · exact .inl (szOp_1 s)
      · exact .inr (szOp_n s)
    exact wfm to _ (rexW_le15 _) hk.1 hk.2 (opOk1 (by omega) (by omega) (by omega)) (m_1 (by unfold hasM1; omega)) (by rw [nlen_1 (by omega)]; exact leL_l1 _)
  | push op sz cd sh to src =>
    rcases src with src | src
    · have r0 := src.r0
      have r1 := src.r1
      rw [e_pushr op src]
      unfold plusE
      rw [tmod8 _ r0]
      refine wf_p ?_ (opOk1 (by omega) (by omega) (by omega)) (fun h => by have : hasM1 _ := h; unfold hasM1 at this; omega) (by rw [nlen_0 (by omega)]; rfl)
      cases decide (i.src.r ≥ 8) <;> decide
    · rw [e_pushm op src]
      exact wfm (.inr src) _ (by omega) (by omega) (by omega) (opOk1 (by omega) (by omega) (by omega)) (m_1 (by unfold hasM1; omega)) (by rw [nlen_0 (by omega)]; rfl)
  | pushi op sz cd sh to src w =>
    rw [e_pushi op src]
    cases byteN i.src.n with
    | true => exact wf_p (by decide) (opOk1 (by omega) (by omega) (by omega)) (fun h => by have : hasM1 _ := h; unfold hasM1 at this; omega) (by rw [nlen_1 (by omega)]; exact leL_l1 _)
    | false => exact wf_p (by decide) (opOk1 (by omega) (by omega) (by omega)) (fun h => by have : hasM1 _ := h; unfold hasM1 at this; omega) (by rw [nlen_4 (by omega)]; exact leL_l4 _)
  | pop op sz cd sh to src =>
    rcases to with to | to
    · have r0 := to.r0
      have r1 := to.r1
      rw [e_popr op to]
      unfold plusE
      rw [tmod8 _ r0]
      refine wf_p ?_ (opOk1 (by omega) (by omega) (by omega)) (fun h => by have : hasM1 _ := h; unfold hasM1 at this; omega) (by rw [nlen_0 (by omega)]; rfl)
      cases decide (i.to.r ≥ 8) <;> decide
    · rw [e_popm op to]
      exact wfm (.inr to) _ (by omega) (by omega) (by omega) (opOk1 (by omega) (by omega) (by omega)) (m_1 (by unfold hasM1; omega)) (by rw [nlen_0 (by omega)]; rfl)
  | jt op sz c0 c1 cd sh to src =>
    rw [e_jt op to]
    unfold jOp jSize
    cases hs : i.short with
    | true =>
      have h22 := (sh hs).1
      rcases op with op | op | op
      · exact absurd op h22
      · rw [op]
        exact wf_p (by decide) (opOk1 (by omega) (by omega) (by omega)) (fun h => by have : hasM1 _ := h; unfold hasM1 at this; omega) (by show (leL i.to.n 1).length = nlen [235] _ _; rw [nlen_1 (by omega)]; exact leL_l1 _)
      · rw [op]
        exact wf_p (by decide) (opOk1 (by omega) (by omega) (by omega)) (fun h => by have : hasM1 _ := h; unfold hasM1 at this; omega) (by show (leL i.to.n 1).length = nlen [112 + i.cond] _ _; rw [nlen_1 (by omega)]; exact leL_l1 _)
    | false =>
      rcases op with op | op | op <;> rw [op]
      · exact wf_p (by decide) (opOk1 (by omega) (by omega) (by omega)) (fun h => by have : hasM1 _ := h; unfold hasM1 at this; omega) (by show (leL i.to.n 4).length = nlen [232] _ _; rw [nlen_4 (by omega)]; exact leL_l4 _)
      · exact wf_p (by decide) (opOk1 (by omega) (by omega) (by omega)) (fun h => by have : hasM1 _ := h; unfold hasM1 at this; omega) (by show (leL i.to.n 4).length = nlen [233] _ _; rw [nlen_4 (by omega)]; exact leL_l4 _)
      · refine wf_p (by decide) (opOk2 (by omega)) (fun h => by have : hasM2 (128 + i.cond) := h; unfold hasM2 at this; omega) ?_
        show (leL i.to.n 4).length = nlen2 (128 + i.cond)
        unfold nlen2; rw [if_pos (by omega)]; exact leL_l4 _
  | jm op sz cd sh to src =>
    rw [e_jm op to]
    have hk : (0 : Int) ≤ (if i.op = 22 then 2 else 4) ∧ (if i.op = 22 then 2 else 4) ≤ (7 : Int) := by split <;> omega
    exact wfm to _ (by omega) hk.1 hk.2 (opOk1 (by omega) (by omega) (by omega)) (m_1 (by unfold hasM1; omega)) (by rw [nlen_0 (by omega)]; rfl)
  | bare op sz cd sh to src =>
    rw [e_bare op]
    have : i.op = 25 ∨ i.op = 26 ∨ i.op = 33 ∨ i.op = 34 ∨ i.op = 35 := by omega
    rcases this with op | op | op | op | op <;> rw [op]
    · exact wf_p (by decide) (opOk1 (by omega) (by omega) (by omega)) (fun h => by have : hasM1 195 := h; unfold hasM1 at this; omega) rfl
    · exact wf_p (by decide) (opOk1 (by omega) (by omega) (by omega)) (fun h => by have : hasM1 201 := h; unfold hasM1 at this; omega) rfl
    · exact wf_p (by decide) (opOk1 (by omega) (by omega) (by omega)) (fun h => by have : hasM1 144 := h; unfold hasM1 at this; omega) rfl
    · exact wf_p (by decide) (opOk2 (by omega)) (fun h => by have : hasM2 11 := h; unfold hasM2 at this; omega) rfl
    · exact wf_p (by decide) (opOk2 (by omega)) (fun h => by have : hasM2 5 := h; unfold hasM2 at this; omega) rfl
theorem form_wf {i : Ins} (f : Form i) : (pcI i).Wf ∧ (pcI i).flat = (encI i).bytes := by
  by_cases h : i.op = 32
  · unfold pcI
    rw [if_pos h, e_bare (by omega), h]
    exact ⟨⟨.inr (by decide), opOk1 (by decide) (by decide) (by omega), fun h => by have : hasM1 153 := h; unfold hasM1 at this; omega, fun _ => rfl, rfl, inB_nil, inB_nil⟩, rfl⟩
  · rw [pc_ne h]; exact form_wfE f h
/-- No instruction's bytes begin another one's. -/
theorem bytes_inj {i k : Ins} (f : Form i) (g : Form k) {x y : List Int} (h : (encI i).bytes ++ x = (encI k).bytes ++ y) : pcI i = pcI k ∧ x = y := by
  rw [← (form_wf f).2, ← (form_wf g).2] at h
  exact flat_inj (form_wf f).1 (form_wf g).1 h
end Go.Proofs.YthmighgfefjcmaaGreat.Enc
end

section
/- The document's table and the program write the same bytes and holes. No condition. -/
set_option maxRecDepth 100000
namespace Go.Proofs.YthmighgfefjcmaaGreat.Enc
open Go.RowKit Go.Proofs.YthmighgfefjcmaaGreat.X Go.IntWalk

structure Ref (i : Ins) (r : RowS) (e : Enc) : Prop where
  good : rowGood r
  bytes : rBytes i r = e.bytes
  hols : rHols i r = e.hols

theorem rexOr_add {W x : Int} (hW : W = 0 ∨ W = 4 ∨ W = 8 ∨ W = 12) (hx : x = 0 ∨ x = 1 ∨ x = 2 ∨ x = 3) : rexOr W x = W + x := by
  rcases hW with rfl | rfl | rfl | rfl <;> rcases hx with rfl | rfl | rfl | rfl <;> decide
theorem rexL_eq (x : Int) (f : Bool) : (bif (bif 64 + x == 64 && !f then 0 else 64 + x) != 0 then [bif 64 + x == 64 && !f then 0 else 64 + x] else []) = (bif decide (64 + x = 0) then (bif (bif 64 + x == 64 && !f then 0 else 64 + x) != 0 then [bif 64 + x == 64 && !f then 0 else 64 + x] else []) else rexL x f) := by
  by_cases h0 : 64 + x = 0
  · rw [decide_eq_true h0]; rfl
  · rw [decide_eq_false h0, cond_false]
    unfold rexL
    by_cases h : x = 0
    · subst h
      cases f <;> rfl
    · rw [show (64 + x == 64) = false from beq_eq_false_iff_ne.2 (by omega), show (x != 0) = true from bne_iff_ne.2 h]
      simp only [Bool.false_and, cond_false, cond_true]
      rw [show (64 + x != 0) = true from bne_iff_ne.2 h0]; rfl
theorem rexL_row {i : Ins} {r : RowS} {x : Int} {f : Bool} (hx : 0 ≤ x) (hr : rexRow r = 64 + x) (hs : smallR i = f) : (bif rexB i r != 0 then [rexB i r] else []) = rexL x f := by
  unfold rexB
  rw [hr, hs, rexL_eq, decide_eq_false (by omega)]
  rfl
theorem anon_no : anon noO = true := by unfold anon noO; rw [ByteArray.toList_eq]; rfl
theorem isR_kind (o : Opd) : isR o = (o.kind == 1) := rfl
theorem rmRex_cases {o : Opd} (ho : RmO o) : rmRex o = (bif (o.kind == 3 && decide (o.index ≥ 8)) then 2 else 0) + (bif (o.kind == 1 && decide (o.r ≥ 8)) || (o.kind == 3 && decide (o.base ≥ 8)) then 1 else 0) := by
  unfold rmRex
  rcases ho with h | h
  · rw [isR_reg h, h.kind, h.index]
    simp
  · rw [isR_mem h, h.kind, cond_false]
    rcases h.how with hh | hh | hh
    · rw [hh.1, cond_true, hh.2.2.1, hh.2.2.2.1]; rfl
    · rw [hh.1, cond_false, hh.2.1, cond_true, hh.2.2.1, hh.2.2.2.1]; rfl
    · rw [hh.1, cond_false, hh.2.1, cond_false]
      cases decide (o.base ≥ 8) <;> cases decide (o.index ≥ 8) <;> rfl
theorem rmRex_in {o : Opd} (ho : RmO o) : rmRex o = 0 ∨ rmRex o = 1 ∨ rmRex o = 2 ∨ rmRex o = 3 := by
  rw [rmRex_cases ho]
  cases (o.kind == 3 && decide (o.index ≥ 8)) <;> cases ((o.kind == 1 && decide (o.r ≥ 8)) || (o.kind == 3 && decide (o.base ≥ 8))) <;> decide
theorem rmPre_fs {o : Opd} (ho : RmO o) : rmPre o = bif o.fs then [100] else [] := by
  unfold rmPre
  rcases ho with h | h
  · rw [isR_reg h, h.fs]; rfl
  · rw [isR_mem h, cond_false]
    rcases h.how with hh | hh | hh
    · rw [hh.1, hh.2.1]; rfl
    · rw [hh.1, hh.2.1]; rfl
    · rw [hh.1, hh.2.1]; rfl
theorem fin_hols {l : List Hol} : (∀ h ∈ l, True) := fun _ _ => trivial

theorem rm_row {i : Ins} {r : RowS} {W k : Int} {force : Bool} {op num : List Int} (hRm : r.hasRm = true) (hp : r.plus = -1) (ho : RmO r.rm) (hfs : (i.to.fs || i.src.fs) = r.rm.fs)
    (g0 : 0 ≤ r.reg) (g1 : r.reg ≤ 15) (hk : r.reg % 8 = k) (hW : W = (bif r.wide then 8 else 0) + (bif decide (r.reg ≥ 8) then 4 else 0)) (hsm : smallR i = force) (hcode : r.code = op) (hop : 1 ≤ op.length ∧ op.length ≤ 2)
    (hnum : leL r.n r.num.toNat = num) (hn : 0 ≤ r.num ∧ r.num ≤ 8) (hnm : r.name = noO) : Ref i r (mE W k r.rm force op num) := by
  have hWc : W = 0 ∨ W = 4 ∨ W = 8 ∨ W = 12 := by
    rw [hW]; cases r.wide <;> cases decide (r.reg ≥ 8) <;> decide
  have hx := rmRex_in ho
  have hrex : rexRow r = 64 + rexOr W (rmRex r.rm) := by
    rw [rexOr_add hWc hx, rmRex_cases ho, hW]
    unfold rexRow
    rw [hRm, hp]
    simp only [Bool.true_and, show decide ((-1 : Int) ≥ 8) = false from rfl, Bool.false_or]
    omega
  have hR := rexL_row (i := i) (f := force) (show 0 ≤ rexOr W (rmRex r.rm) by rw [rexOr_add hWc hx]; omega) hrex hsm
  have hhead : rHead i r = rmPre r.rm ++ rexL (rexOr W (rmRex r.rm)) force ++ op := by
    unfold rHead
    rw [hp, hfs, hR, hcode, rmPre_fs ho]; rfl
  have hnumN : rNum r = num := by unfold rNum; rw [hnm, ← hnum, anon_no]; rfl
  have hmod : rMod r = rmTail k r.rm := by unfold rMod rmTail dispN; rw [hRm, hk]; rfl
  have hb : rBytes i r = (mE W k r.rm force op num).bytes := by
    unfold rBytes Enc.bytes Enc.front; rw [hhead, hmod, hnumN]; rfl
  refine ⟨⟨by rw [hcode]; exact hop.1, by rw [hcode]; omega, fun _ => ⟨g0, g1, rmO_ok ho⟩, hn.1, hn.2⟩, hb, ?_⟩
  unfold rHols
  rw [hnm, hb, hRm, hhead, hk]
  unfold Enc.hols
  show (bif !anon noO then _ else bif true && !anon r.rm then _ else []) = (rmHoles k r.rm).map (movH (!(rmHoles k r.rm).isEmpty) (finAt (!(rmHoles k r.rm).isEmpty) (mE W k r.rm force op num).front.length _) _)
  rw [anon_no]
  unfold rmHoles
  rcases ho with ho | ho
  · rw [isR_reg ho, ho.name]; rfl
  · rw [isR_mem ho, cond_false]
    unfold namedH
    cases ha : anon r.rm with
    | true => rfl
    | false =>
      have hsz : rmSize r.rm = 4 := by
        unfold rmSize
        rw [isR_mem ho]
        have : sizO r.rm = 4 := by unfold sizO; rw [ha]; rfl
        rw [this]
        cases r.rm.rip <;> cases r.rm.fs <;> rfl
      show [holeR' r.rm (((rmPre r.rm ++ rexL (rexOr W (rmRex r.rm)) force ++ op ++ rmHead k r.rm).length : Nat) : Int) ((rmSize r.rm : Nat) : Int) _] = [movH true (((mE W k r.rm force op num).front.length : Nat) : Int) _ ⟨((rmHead k r.rm).length : Int), 4, relOf r.rm.mod, r.rm.name, r.rm.n⟩]
      have hat : ((rmPre r.rm ++ rexL (rexOr W (rmRex r.rm)) force ++ op ++ rmHead k r.rm).length : Int) = ((rmHead k r.rm).length : Int) + (((mE W k r.rm force op num).front.length : Nat) : Int) := by
        rw [List.length_append]
        show (((mE W k r.rm force op num).front.length + _ : Nat) : Int) = _
        omega
      rw [hat, hsz]
      unfold holeR' movH
      rw [ho.kind]
      have hm := ho.mode ha
      cases hrip : r.rm.rip with
      | true =>
        rcases hm.1 hrip with h | h | h <;> rw [h] <;> rfl
      | false =>
        rcases hm.2 hrip with h | h <;> rw [h] <;> rfl

theorem smallReg_reg {o : Opd} (h : isR o = false) : smallReg o = false := by unfold smallReg; rw [show (o.kind == 1) = false from h]; rfl
theorem lowF_small (o : Opd) (s : Int) : lowF o s = bif s == 1 then smallReg o else false := by
  unfold lowF smallReg isR
  cases s == 1 <;> cases o.kind == 1 <;> cases decide (o.r ≥ 4) <;> cases decide (o.r ≤ 7) <;> rfl

theorem plus_row {i : Ins} {r : RowS} {c rex : Int} {force : Bool} {num : List Int} (hRm : r.hasRm = false) (hcode : r.code = [c]) (c0 : 0 ≤ c) (c1 : c ≤ 248) (hp0 : 0 ≤ r.plus) (hp1 : r.plus ≤ 15) (hfs : (i.to.fs || i.src.fs) = false)
    (hrex : rex = (bif r.wide then 8 else 0) + (bif decide (r.plus ≥ 8) then 1 else 0)) (hsm : smallR i = force) (hnum : leL r.n r.num.toNat = num) (hn : 0 ≤ r.num ∧ r.num ≤ 8) (hnm : r.name = noO) :
    Ref i r { rex := rex, force := force, op := [c + r.plus % 8], number := num } := by
  have hr : rexRow r = 64 + rex := by
    rw [hrex]; unfold rexRow; rw [hRm]
    simp only [Bool.false_and, cond_false, Bool.or_false]
    omega
  have hx : 0 ≤ rex := by rw [hrex]; cases r.wide <;> cases decide (r.plus ≥ 8) <;> decide
  have hR := rexL_row (i := i) (f := force) hx hr hsm
  have hhead : rHead i r = rexL rex force ++ [c + r.plus % 8] := by
    unfold rHead
    rw [hfs, hR, hcode, decide_eq_true hp0]
    show addLast ([] ++ rexL rex force ++ [c]) _ = _
    rw [List.nil_append]
    unfold addLast
    rw [show (rexL rex force ++ [c]).length - 1 = (rexL rex force).length by simp, List.take_left, List.drop_left]
    show _ ++ [IntKind.u8.wrap (c + r.plus % 8)] = _
    rw [u8_in _ (by omega)]
  have hnumN : rNum r = num := by unfold rNum; rw [hnm, ← hnum, anon_no]; rfl
  have hmod : rMod r = [] := by unfold rMod; rw [hRm]; rfl
  refine ⟨⟨by rw [hcode]; exact Nat.le_refl _, by rw [hcode]; exact Nat.le_of_ble_eq_true rfl, fun h => (by rw [hRm] at h; cases h), hn.1, hn.2⟩, ?_, ?_⟩
  · unfold rBytes Enc.bytes Enc.front; rw [hhead, hmod, hnumN]; rfl
  · unfold rHols; rw [hnm, hRm, anon_no]; rfl
theorem plain_row {i : Ins} {r : RowS} {num : List Int} (hRm : r.hasRm = false) (hp : r.plus = -1) (hw : r.wide = false) (hc : 1 ≤ r.code.length ∧ r.code.length ≤ 2) (hfs : (i.to.fs || i.src.fs) = false) (hsm : smallR i = false) (hnum : rNum r = num) (hn : 0 ≤ r.num ∧ r.num ≤ 8)
    {hs : List Hol} (hh : (bif !anon r.name then [holeR' r.name ((r.code.length : Nat) : Int) r.num ((num.length : Nat) : Int)] else []) = hs.map (movH false ((r.code.length : Nat) : Int) ((r.code ++ num).length : Int))) :
    Ref i r { op := r.code, number := num, holes := hs } := by
  have hr : rexRow r = 64 + 0 := by
    unfold rexRow; rw [hRm, hp, hw]; rfl
  have hR := rexL_row (i := i) (f := false) (Int.le_refl 0) hr hsm
  have hhead : rHead i r = r.code := by
    unfold rHead
    rw [hfs, hR, hp]; rfl
  have hmod : rMod r = [] := by unfold rMod; rw [hRm]; rfl
  have hb : rBytes i r = r.code ++ num := by unfold rBytes; rw [hhead, hmod, hnum, List.append_nil]
  refine ⟨⟨hc.1, by omega, fun h => (by rw [hRm] at h; cases h), hn.1, hn.2⟩, ?_, ?_⟩
  · rw [hb]; unfold Enc.bytes Enc.front
    show _ = ([] ++ [] ++ r.code) ++ [] ++ num
    rw [List.nil_append, List.nil_append, List.append_nil]
  · unfold rHols
    rw [hb, hhead, hmod, List.append_nil, hRm]
    have e2 : ({ op := r.code, number := num, holes := hs } : Enc).hols = hs.map (movH false ((r.code.length : Nat) : Int) ((r.code ++ num).length : Int)) := by
      unfold Enc.hols Enc.bytes Enc.at_ Enc.front
      show hs.map (movH false (((([] ++ [] ++ r.code) ++ []).length : Nat) : Int) (((([] ++ [] ++ r.code) ++ [] ++ num).length : Nat) : Int)) = _
      rw [List.nil_append, List.nil_append, List.append_nil]
    rw [e2, ← hh]
    have e3 : (((r.code ++ num).length : Nat) : Int) - ((r.code.length : Nat) : Int) = ((num.length : Nat) : Int) := by rw [List.length_append]; omega
    dsimp only
    rw [e3]
    cases anon r.name <;> rfl
end Go.Proofs.YthmighgfefjcmaaGreat.Enc
end

section
/- The document's rows, form by form. No condition. -/
set_option maxRecDepth 100000
namespace Go.Proofs.YthmighgfefjcmaaGreat.Enc
open Go.RowKit Go.Proofs.YthmighgfefjcmaaGreat.X Go.IntWalk

section
variable {i : Ins}
theorem row_mov (h : i.op = 1) : rowR i = movR i := by unfold rowR; rw [h]; rfl
theorem row_grp (h : 3 ≤ i.op ∧ i.op ≤ 10) : rowR i = groupR i := by
  have : i.op = 3 ∨ i.op = 4 ∨ i.op = 5 ∨ i.op = 6 ∨ i.op = 7 ∨ i.op = 8 ∨ i.op = 9 ∨ i.op = 10 := by omega
  unfold rowR
  rcases this with h | h | h | h | h | h | h | h <;> rw [h] <;> rfl
theorem row_tst (h : i.op = 11) : rowR i = testR i := by unfold rowR; rw [h]; rfl
theorem row_xch (h : i.op = 31) : rowR i = modrmR [135] (i.size == 8) i.src.r i.to := by unfold rowR moreR; rw [h]; rfl
theorem row_lea (h : i.op = 2) : rowR i = modrmR [141] (i.size == 8) i.to.r i.src := by unfold rowR; rw [h]; rfl
theorem row_ld (h : i.op = 12 ∨ i.op = 28 ∨ i.op = 29 ∨ i.op = 30) : rowR i = modrmR (ldOp i.op i.cond) (i.size == 8) i.to.r i.src := by
  unfold rowR moreR ldOp
  rcases h with h | h | h | h <;> rw [h] <;> rfl
theorem row_one (h : 13 ≤ i.op ∧ i.op ≤ 16) : rowR i = modrmR [oneOp i.op i.size] (i.size == 8) (oneK i.op) i.to := by
  have : i.op = 13 ∨ i.op = 14 ∨ i.op = 15 ∨ i.op = 16 := by omega
  unfold rowR oneOp oneK
  rcases this with h | h | h | h <;> rw [h] <;> rfl
theorem row_set (h : i.op = 27) : rowR i = modrmR [15, 144 + i.cond] false 0 i.to := by unfold rowR moreR; rw [h]; rfl
theorem row_sh (h : 17 ≤ i.op ∧ i.op ≤ 19) : rowR i = shiftR i (shK i.op) := by
  have : i.op = 17 ∨ i.op = 18 ∨ i.op = 19 := by omega
  unfold rowR
  rcases this with h | h | h <;> rw [h] <;> rfl
theorem row_push (h : i.op = 20) : rowR i = pushR i := by unfold rowR moreR; rw [h]; rfl
theorem row_pop (h : i.op = 21) : rowR i = popR i := by unfold rowR moreR; rw [h]; rfl
theorem row_call (h : i.op = 22) : rowR i = jumpR i [232] 0 2 := by unfold rowR moreR; rw [h]; rfl
theorem row_jmp (h : i.op = 23) : rowR i = jumpR i [233] 235 4 := by unfold rowR moreR; rw [h]; rfl
theorem row_jcc (h : i.op = 24) : rowR i = jumpR i [15, 128 + i.cond] (112 + i.cond) 0 := by unfold rowR moreR; rw [h]; rfl
theorem row_bare (h : i.op = 25 ∨ i.op = 26 ∨ (32 ≤ i.op ∧ i.op ≤ 35)) : rowR i = plainR (bareOp i.op) := by
  have : i.op = 25 ∨ i.op = 26 ∨ i.op = 32 ∨ i.op = 33 ∨ i.op = 34 ∨ i.op = 35 := by omega
  unfold rowR moreR bareOp
  rcases this with h | h | h | h | h | h <;> rw [h] <;> rfl

theorem fs_reg {o : Opd} (h : RegO o) : o.fs = false := h.fs
theorem isSh_no (h : ¬(17 ≤ i.op ∧ i.op ≤ 19)) : isSh i.op = false := nsh h
theorem small_sh (h : 17 ≤ i.op ∧ i.op ≤ 19) : smallR i = lowF i.to i.size := by
  unfold smallR; rw [(isSh_iff i.op).2 h, lowF_small]; rfl
theorem small_x (h : i.op = 29 ∨ i.op = 30) : smallR i = lowF i.src 1 := by
  unfold smallR; rw [isSh_no (by omega), lowF_small]
  rcases h with h | h <;> rw [h] <;> rfl
theorem small_o (h : ¬(17 ≤ i.op ∧ i.op ≤ 19)) (h2 : i.op ≠ 29) (h3 : i.op ≠ 30) : smallR i = (lowF i.to i.size || lowF i.src i.size) := by
  unfold smallR; rw [isSh_no h, beqF h2, beqF h3, lowF_small, lowF_small]
  show (_ || (_ && _)) = _
  cases i.size == 1 <;> cases smallReg i.src <;> rfl
theorem low_big {o : Opd} (h : i.size ≠ 1) : lowF o i.size = false := by rw [lowF_small, beqF h]; rfl
theorem low_not {o : Opd} (s : Int) (h : isR o = false) : lowF o s = false := by rw [lowF_small, smallReg_reg h]; cases s == 1 <;> rfl
theorem isR_none {o : Opd} (h : NoneO o) : isR o = false := by unfold isR; rw [h.kind]; rfl
theorem fs_to {o p : Opd} (h : p.fs = false) : (o.fs || p.fs) = o.fs := by rw [h, Bool.or_false]
theorem fs_src {o p : Opd} (h : o.fs = false) : (o.fs || p.fs) = p.fs := by rw [h, Bool.false_or]
theorem w_size (s r : Int) : rexW s + rexR r = (bif s == 8 then 8 else 0) + (bif decide (r ≥ 8) then 4 else 0) := rfl
theorem w_size0 {s k : Int} (hk : k ≤ 7) : rexW s = (bif s == 8 then 8 else 0) + (bif decide (k ≥ 8) then 4 else 0) := by rw [decide_eq_false (show ¬ k ≥ 8 by omega)]; show _ = _ + (0 : Int); rw [Int.add_zero]; rfl
theorem num_size {s n : Int} (h : Sz9 s) : leL n (numR s).toNat = leL n (min4 s).toNat := by
  rcases h with h | h | h <;> rw [h] <;> rfl
theorem numR_le (s : Int) : 0 ≤ numR s ∧ numR s ≤ 8 := by unfold numR; cases s == 1 <;> decide
theorem ref_m {r : RowS} {W k : Int} {o : Opd} {force : Bool} {op num : List Int} {e : Enc} (he : e = mE W k o force op num) (hr : Ref i r (mE W k o force op num)) : Ref i r e := he ▸ hr

theorem ref_rr (op : i.op = 1 ∨ (3 ≤ i.op ∧ i.op ≤ 10) ∨ i.op = 11 ∨ i.op = 31) (to : RmO i.to) (src : RegO i.src) : Ref i (rowR i) (encI i) := by
  have hrow : rowR i = modrmR [szOp i.size (codeS i.op) (codeG i.op)] (i.size == 8) i.src.r i.to := by
    rcases op with op | op | op | op
    · rw [row_mov op]; unfold movR; rw [isR_reg src, cond_true]
      unfold twoR szOp codeS codeG; rw [op]; cases i.size == 1 <;> rfl
    · rw [row_grp op]; unfold groupR; rw [isR_reg src, cond_true]
      unfold twoR szOp codeS codeG; rw [beqF (show i.op ≠ 1 by omega), beqF (show i.op ≠ 11 by omega), beqF (show i.op ≠ 31 by omega)]; cases i.size == 1 <;> rfl
    · rw [row_tst op]; unfold testR; rw [isR_reg src, cond_true]
      unfold twoR szOp codeS codeG; rw [op]; cases i.size == 1 <;> rfl
    · rw [row_xch op]; unfold szOp codeS codeG; rw [op]; cases i.size == 1 <;> rfl
  refine ref_m (e_rr op src) ?_
  rw [hrow]
  exact rm_row rfl rfl to (fs_to src.fs) src.r0 src.r1 rfl (w_size _ _) (small_o (by omega) (by omega) (by omega)) rfl ⟨Nat.le_refl _, by show 1 ≤ 2; omega⟩ rfl ⟨Int.le_refl _, by show (0 : Int) ≤ 8; omega⟩ rfl
theorem ref_rm (op : i.op = 1 ∨ (3 ≤ i.op ∧ i.op ≤ 10)) (to : RegO i.to) (src : MemO i.src) : Ref i (rowR i) (encI i) := by
  have hrow : rowR i = modrmR [szOp i.size (codeS i.op) (codeG i.op) + 2] (i.size == 8) i.to.r i.src := by
    rcases op with op | op
    · rw [row_mov op]; unfold movR; rw [isR_mem src, isM_mem src, cond_false, cond_true]
      unfold twoR szOp codeS codeG; rw [op]; cases i.size == 1 <;> rfl
    · rw [row_grp op]; unfold groupR; rw [isR_mem src, isM_mem src, cond_false, cond_true]
      unfold twoR szOp codeS codeG; rw [beqF (show i.op ≠ 1 by omega), beqF (show i.op ≠ 11 by omega), beqF (show i.op ≠ 31 by omega)]
      cases i.size == 1
      · show modrmR [8 * (i.op - 3) + 3] _ _ _ = modrmR [8 * (i.op - 3) + 1 + 2] _ _ _
        rw [Int.add_assoc]; rfl
      · rfl
  refine ref_m (e_rm op to src) ?_
  rw [hrow]
  exact rm_row rfl rfl (.inr src) (fs_src to.fs) to.r0 to.r1 rfl (w_size _ _) (small_o (by omega) (by omega) (by omega)) rfl ⟨Nat.le_refl _, by show 1 ≤ 2; omega⟩ rfl ⟨Int.le_refl _, by show (0 : Int) ≤ 8; omega⟩ rfl
theorem imm_low (src : ImmO i.src) : (lowF i.to i.size || lowF i.src i.size) = lowF i.to i.size := by rw [low_not _ (isR_imm src), Bool.or_false]
theorem none_low (src : NoneO i.src) : (lowF i.to i.size || lowF i.src i.size) = lowF i.to i.size := by rw [low_not _ (isR_none src), Bool.or_false]
theorem w32 (n : Int) : IntKind.i32.wrap (IntKind.u32.wrap n) = IntKind.i32.wrap n := by rw [IntKind.wrap_i32, IntKind.wrap_i32, IntKind.wrap_u32]; omega
theorem grp_short : byteN (grpN i) = short8 i.size i.src.n := by
  unfold byteN grpN short8
  rw [w32]
theorem grp_leL : leL (grpN i) 1 = leL i.src.n 1 := by
  unfold grpN
  cases i.size == 4 with
  | false => rfl
  | true =>
    show leL (IntKind.i64.wrap (IntKind.i32.wrap (IntKind.u32.wrap i.src.n))) 1 = _
    rw [w32]
    show [_ % 256] = [_ % 256]
    rw [IntKind.wrap_i32, i64_in _ (by omega)]
    congr 1
    omega
theorem grp_num (sz : Sz9 i.size) : leL (grpN i) (numR i.size).toNat = leL i.src.n (min4 i.size).toNat := by
  rcases sz with s | s | s
  · have e : grpN i = i.src.n := by unfold grpN; rw [s]; rfl
    rw [e, s]; rfl
  · have e : grpN i = IntKind.i64.wrap (IntKind.i32.wrap i.src.n) := by unfold grpN; rw [s, w32]; rfl
    rw [e, s, IntKind.wrap_i32, i64_in _ (by omega)]
    show (le8 _).take 4 = (le8 _).take 4
    generalize i.src.n = n
    show [_, _, _, _] = [_, _, _, _]
    congr 1
    · omega
    · congr 1
      · omega
      · congr 1
        · omega
        · congr 1; omega
  · have e : grpN i = i.src.n := by unfold grpN; rw [s]; rfl
    rw [e, s]; rfl
theorem ref_imm (op : i.op = 1 ∨ (3 ≤ i.op ∧ i.op ≤ 10) ∨ i.op = 11) (sz : Sz9 i.size) (to : RmO i.to) (src : ImmO i.src) (hno : i.op = 1 → isR i.to = true → i.size = 8 ∧ fits32 i.src.n = true) : Ref i (rowR i) (encI i) := by
  have hfs := fs_to (o := i.to) src.fs
  rcases op with op | op | op
  · have hm : MemO i.to ∨ (RegO i.to ∧ i.size = 8 ∧ fits32 i.src.n = true) := by
      rcases to with to | to
      · exact .inr ⟨to, hno op (isR_reg to)⟩
      · exact .inl to
    refine ref_m (e_mv2 op src hm) ?_
    have hrow : rowR i = { modrmR (twoR i.size 198 199) (i.size == 8) 0 i.to with num := numR i.size, n := i.src.n } := by
      rw [row_mov op]; unfold movR
      rw [isR_imm src, isM_imm src, cond_false, cond_false]
      rcases hm with h | ⟨h, h2, h3⟩
      · rw [isR_mem h]; rfl
      · rw [isR_reg h, h2, h3]; rfl
    rw [hrow]
    exact rm_row rfl rfl to hfs (by show (0 : Int) ≤ 0; omega) (by show (0 : Int) ≤ 15; omega) rfl (w_size0 (k := 0) (by omega)) ((small_o (by omega) (by omega) (by omega)).trans (imm_low src)) (by unfold twoR szOp; rfl) ⟨Nat.le_refl _, by show 1 ≤ 2; omega⟩ (num_size sz) (numR_le _) rfl
  · by_cases h : i.size ≠ 1 ∧ short8 i.size i.src.n = true
    · refine ref_m (e_gi op src h) ?_
      have hrow : rowR i = { modrmR [131] (i.size == 8) (i.op - 3) i.to with num := 1, n := grpN i } := by
        rw [row_grp op]; unfold groupR
        rw [isR_imm src, isM_imm src, grp_short, h.2, show (i.size != 1) = true from bne_iff_ne.2 h.1]; rfl
      rw [hrow]
      exact rm_row rfl rfl to hfs (by show 0 ≤ i.op - 3; omega) (by show i.op - 3 ≤ 15; omega) (by show (i.op - 3) % 8 = _; omega) (w_size0 (k := i.op - 3) (by omega)) ((small_o (by omega) (by omega) (by omega)).trans (imm_low src)) rfl ⟨Nat.le_refl _, by show 1 ≤ 2; omega⟩ grp_leL ⟨by show (0 : Int) ≤ 1; omega, by show (1 : Int) ≤ 8; omega⟩ rfl
    · have h2 : i.size = 1 ∨ short8 i.size i.src.n = false := by
        by_cases h1 : i.size = 1
        · exact .inl h1
        · right
          cases hh : short8 i.size i.src.n with
          | false => rfl
          | true => exact absurd ⟨h1, hh⟩ h
      refine ref_m (e_gi2 op src h2) ?_
      have hrow : rowR i = { modrmR (twoR i.size 128 129) (i.size == 8) (i.op - 3) i.to with num := numR i.size, n := grpN i } := by
        rw [row_grp op]; unfold groupR
        rw [isR_imm src, isM_imm src, grp_short]
        rcases h2 with h2 | h2
        · rw [h2]; rfl
        · rw [h2]; cases i.size != 1 <;> rfl
      rw [hrow]
      exact rm_row rfl rfl to hfs (by show 0 ≤ i.op - 3; omega) (by show i.op - 3 ≤ 15; omega) (by show (i.op - 3) % 8 = _; omega) (w_size0 (k := i.op - 3) (by omega)) ((small_o (by omega) (by omega) (by omega)).trans (imm_low src)) (by unfold twoR szOp; rfl) ⟨Nat.le_refl _, by show 1 ≤ 2; omega⟩ (grp_num sz) (numR_le _) rfl
  · refine ref_m (e_ti op src) ?_
    have hrow : rowR i = { modrmR (twoR i.size 246 247) (i.size == 8) 0 i.to with num := numR i.size, n := i.src.n } := by
      rw [row_tst op]; unfold testR
      rw [isR_imm src]; rfl
    rw [hrow]
    exact rm_row rfl rfl to hfs (by show (0 : Int) ≤ 0; omega) (by show (0 : Int) ≤ 15; omega) rfl (w_size0 (k := 0) (by omega)) ((small_o (by omega) (by omega) (by omega)).trans (imm_low src)) (by unfold twoR szOp; rfl) ⟨Nat.le_refl _, by show 1 ≤ 2; omega⟩ (num_size sz) (numR_le _) rfl
theorem ref_mv (op : i.op = 1) (sz : Sz9 i.size) (to : RegO i.to) (src : ImmO i.src) (h : i.size < 8 ∨ fits32 i.src.n = false) : Ref i (rowR i) (encI i) := by
  rw [e_mv op src to h, row_mov op]
  unfold movR
  rw [isR_imm src, isM_imm src, isR_reg to]
  have hfs : (i.to.fs || i.src.fs) = false := by rw [to.fs, src.fs]; rfl
  have hsm := (small_o (i := i) (by omega) (by omega) (by omega)).trans (imm_low src)
  rw [rexOr1W]
  by_cases h8 : i.size = 8
  · have hf : fits32 i.src.n = false := h.resolve_left (by omega)
    rw [h8, hf]
    rw [h8] at hsm
    refine plus_row rfl rfl (by show (0 : Int) ≤ 184; omega) (by show (184 : Int) ≤ 248; omega) to.r0 to.r1 hfs ?_ hsm rfl ⟨by show (0 : Int) ≤ 8; omega, by show (8 : Int) ≤ 8; omega⟩ rfl
    show _ = (8 : Int) + (bif decide (i.to.r ≥ 8) then 1 else 0)
    by_cases h : i.to.r ≥ 8 <;> simp [h]
  · rw [show (i.size == 8) = false from beqF h8]
    have hs : leL i.src.n (numR i.size).toNat = leL i.src.n i.size.toNat := by
      rcases sz with s | s | s
      · rw [s]; rfl
      · rw [s]; rfl
      · exact absurd s h8
    refine plus_row rfl (by unfold szOp; rfl) ?_ ?_ to.r0 to.r1 hfs ?_ hsm hs (numR_le _) rfl
    · unfold szOp; cases i.size == 1 <;> decide
    · unfold szOp; cases i.size == 1 <;> decide
    · show _ = (0 : Int) + (bif decide (i.to.r ≥ 8) then 1 else 0)
      by_cases h : i.to.r ≥ 8 <;> simp [h, h8]
theorem ref_ld (op : i.op = 2 ∨ i.op = 12 ∨ i.op = 28 ∨ i.op = 29 ∨ i.op = 30) (sz : Sz4 i.size) (to : RegO i.to) (src : RmO i.src) : Ref i (rowR i) (encI i) := by
  refine ref_m (e_ld op to) ?_
  have hrow : rowR i = modrmR (ldOp i.op i.cond) (i.size == 8) i.to.r i.src := by
    rcases op with op | op
    · rw [row_lea op]; unfold ldOp; rw [op]; rfl
    · exact row_ld op
  have h1 : i.size ≠ 1 := by rcases sz with h | h <;> omega
  have hsm : smallR i = (bif i.op == 29 || i.op == 30 then lowF i.src 1 else false) := by
    by_cases hx : i.op = 29 ∨ i.op = 30
    · rw [small_x hx]; rcases hx with h | h <;> rw [h] <;> rfl
    · rw [small_o (by omega) (by omega) (by omega), low_big h1, low_big h1, beqF (show i.op ≠ 29 by omega), beqF (show i.op ≠ 30 by omega)]; rfl
  rw [hrow]
  refine rm_row rfl rfl src (fs_src to.fs) to.r0 to.r1 rfl (w_size _ _) hsm rfl ?_ rfl ⟨Int.le_refl _, by show (0 : Int) ≤ 8; omega⟩ rfl
  unfold ldOp
  split
  · exact ⟨Nat.le_refl _, by show 1 ≤ 2; omega⟩
  · split
    · exact ⟨by show 1 ≤ 2; omega, Nat.le_refl _⟩
    · split
      · exact ⟨by show 1 ≤ 2; omega, Nat.le_refl _⟩
      · split <;> exact ⟨by show 1 ≤ 2; omega, Nat.le_refl _⟩
theorem oneK_le (op : Int) : 0 ≤ oneK op ∧ oneK op ≤ 7 := by unfold oneK; split <;> (try split) <;> (try split) <;> omega
theorem shK_le' (op : Int) : 0 ≤ shK op ∧ shK op ≤ 7 := by
  unfold shK
  rcases h : (op - 17).toNat with _ | _ | _ | n
  · decide
  · decide
  · decide
  · simp
theorem ref_one (op : 13 ≤ i.op ∧ i.op ≤ 16) (to : RmO i.to) (src : NoneO i.src) : Ref i (rowR i) (encI i) := by
  refine ref_m (e_one op) ?_
  rw [row_one op]
  have := oneK_le i.op
  exact rm_row rfl rfl to (fs_to src.fs) this.1 (by show oneK i.op ≤ 15; omega) (by show oneK i.op % 8 = _; omega) (w_size0 (k := oneK i.op) (by omega)) ((small_o (by omega) (by omega) (by omega)).trans (none_low src)) rfl ⟨Nat.le_refl _, by show 1 ≤ 2; omega⟩ rfl ⟨Int.le_refl _, by show (0 : Int) ≤ 8; omega⟩ rfl
theorem ref_set (op : i.op = 27) (sz : i.size = 1) (to : RmO i.to) (src : NoneO i.src) : Ref i (rowR i) (encI i) := by
  refine ref_m (e_set op) ?_
  rw [row_set op]
  exact rm_row rfl rfl to (fs_to src.fs) (by show (0 : Int) ≤ 0; omega) (by show (0 : Int) ≤ 15; omega) rfl rfl ((small_o (by omega) (by omega) (by omega)).trans ((none_low src).trans (by rw [sz]))) rfl ⟨by show 1 ≤ 2; omega, Nat.le_refl _⟩ rfl ⟨Int.le_refl _, by show (0 : Int) ≤ 8; omega⟩ rfl
theorem ref_shr (op : 17 ≤ i.op ∧ i.op ≤ 19) (to : RmO i.to) (src : RegO i.src) : Ref i (rowR i) (encI i) := by
  refine ref_m (e_shr op src) ?_
  have hrow : rowR i = modrmR (twoR i.size 210 211) (i.size == 8) (shK i.op) i.to := by rw [row_sh op]; unfold shiftR; rw [isR_reg src]; rfl
  rw [hrow]
  have := shK_le' i.op
  exact rm_row rfl rfl to (fs_to src.fs) this.1 (by show shK i.op ≤ 15; omega) (by show shK i.op % 8 = _; omega) (w_size0 (k := shK i.op) (by omega)) (small_sh op) (by unfold twoR szOp; rfl) ⟨Nat.le_refl _, by show 1 ≤ 2; omega⟩ rfl ⟨Int.le_refl _, by show (0 : Int) ≤ 8; omega⟩ rfl
theorem ref_shi (op : 17 ≤ i.op ∧ i.op ≤ 19) (to : RmO i.to) (src : ImmO i.src) : Ref i (rowR i) (encI i) := by
  refine ref_m (e_shi op src) ?_
  have hrow : rowR i = { modrmR (twoR i.size 192 193) (i.size == 8) (shK i.op) i.to with num := 1, n := i.src.n } := by rw [row_sh op]; unfold shiftR; rw [isR_imm src]; rfl
  rw [hrow]
  have := shK_le' i.op
  exact rm_row rfl rfl to (fs_to src.fs) this.1 (by show shK i.op ≤ 15; omega) (by show shK i.op % 8 = _; omega) (w_size0 (k := shK i.op) (by omega)) (small_sh op) (by unfold twoR szOp; rfl) ⟨Nat.le_refl _, by show 1 ≤ 2; omega⟩ rfl ⟨by show (0 : Int) ≤ 1; omega, by show (1 : Int) ≤ 8; omega⟩ rfl
theorem small_8 (h : ¬(17 ≤ i.op ∧ i.op ≤ 19)) (h2 : i.op ≠ 29) (h3 : i.op ≠ 30) (sz : i.size ≠ 1) : smallR i = false := by
  rw [small_o h h2 h3, low_big sz, low_big sz]; rfl
theorem ref_push (op : i.op = 20) (sz : i.size = 8) (to : NoneO i.to) (src : RmO i.src) : Ref i (rowR i) (encI i) := by
  have hsm := small_8 (i := i) (by omega) (by omega) (by omega) (by omega)
  rcases src with src | src
  · rw [e_pushr op src, row_push op]; unfold pushR; rw [isR_reg src]
    show Ref i (plusR 80 false i.src.r) { rex := bif decide (i.src.r ≥ 8) then 1 else 0, op := [80 + i.src.r.tmod 8] }
    rw [tmod8 _ src.r0]
    refine plus_row rfl rfl (by show (0 : Int) ≤ 80; omega) (by show (80 : Int) ≤ 248; omega) src.r0 src.r1 (by rw [to.fs, src.fs]; rfl) ?_ hsm rfl ⟨Int.le_refl _, by show (0 : Int) ≤ 8; omega⟩ rfl
    show _ = (0 : Int) + _
    rw [Int.zero_add]; rfl
  · refine ref_m (e_pushm op src) ?_
    have hrow : rowR i = modrmR [255] false 6 i.src := by rw [row_push op]; unfold pushR; rw [isR_mem src, isM_mem src]; rfl
    rw [hrow]
    exact rm_row rfl rfl (.inr src) (fs_src to.fs) (by show (0 : Int) ≤ 6; omega) (by show (6 : Int) ≤ 15; omega) rfl rfl hsm rfl ⟨Nat.le_refl _, by show 1 ≤ 2; omega⟩ rfl ⟨Int.le_refl _, by show (0 : Int) ≤ 8; omega⟩ rfl
theorem plain_no {i : Ins} {r : RowS} {num : List Int} (hRm : r.hasRm = false) (hp : r.plus = -1) (hw : r.wide = false) (hc : 1 ≤ r.code.length ∧ r.code.length ≤ 2) (hfs : (i.to.fs || i.src.fs) = false) (hsm : smallR i = false) (hnm : r.name = noO) (hnum : leL r.n r.num.toNat = num) (hn : 0 ≤ r.num ∧ r.num ≤ 8) :
    Ref i r { op := r.code, number := num } :=
  plain_row hRm hp hw hc hfs hsm (by unfold rNum; rw [hnm, anon_no]; exact hnum) hn (by rw [hnm, anon_no]; rfl)
theorem ref_pushi (op : i.op = 20) (sz : i.size = 8) (to : NoneO i.to) (src : ImmO i.src) : Ref i (rowR i) (encI i) := by
  have hsm := small_8 (i := i) (by omega) (by omega) (by omega) (by omega)
  have hfs : (i.to.fs || i.src.fs) = false := by rw [to.fs, src.fs]; rfl
  rw [e_pushi op src, row_push op]
  unfold pushR
  rw [isR_imm src, isM_imm src]
  cases byteN i.src.n with
  | true => exact plain_no (r := { plainR [106] with num := 1, n := i.src.n }) rfl rfl rfl ⟨Nat.le_refl _, by show 1 ≤ 2; omega⟩ hfs hsm rfl rfl ⟨by show (0 : Int) ≤ 1; omega, by show (1 : Int) ≤ 8; omega⟩
  | false => exact plain_no (r := { plainR [104] with num := 4, n := i.src.n }) rfl rfl rfl ⟨Nat.le_refl _, by show 1 ≤ 2; omega⟩ hfs hsm rfl rfl ⟨by show (0 : Int) ≤ 4; omega, by show (4 : Int) ≤ 8; omega⟩
theorem ref_pop (op : i.op = 21) (sz : i.size = 8) (to : RmO i.to) (src : NoneO i.src) : Ref i (rowR i) (encI i) := by
  have hsm := small_8 (i := i) (by omega) (by omega) (by omega) (by omega)
  rcases to with to | to
  · rw [e_popr op to, row_pop op]; unfold popR; rw [isR_reg to]
    show Ref i (plusR 88 false i.to.r) { rex := bif decide (i.to.r ≥ 8) then 1 else 0, op := [88 + i.to.r.tmod 8] }
    rw [tmod8 _ to.r0]
    refine plus_row rfl rfl (by show (0 : Int) ≤ 88; omega) (by show (88 : Int) ≤ 248; omega) to.r0 to.r1 (by rw [to.fs, src.fs]; rfl) ?_ hsm rfl ⟨Int.le_refl _, by show (0 : Int) ≤ 8; omega⟩ rfl
    show _ = (0 : Int) + _
    rw [Int.zero_add]; rfl
  · refine ref_m (e_popm op to) ?_
    have hrow : rowR i = modrmR [143] false 0 i.to := by rw [row_pop op]; unfold popR; rw [isR_mem to]; rfl
    rw [hrow]
    exact rm_row rfl rfl (.inr to) (fs_to src.fs) (by show (0 : Int) ≤ 0; omega) (by show (0 : Int) ≤ 15; omega) rfl rfl hsm rfl ⟨Nat.le_refl _, by show 1 ≤ 2; omega⟩ rfl ⟨Int.le_refl _, by show (0 : Int) ≤ 8; omega⟩ rfl
theorem ref_jm (op : i.op = 22 ∨ i.op = 23) (sz : i.size = 8) (to : RmO i.to) (src : NoneO i.src) : Ref i (rowR i) (encI i) := by
  have hsm := small_8 (i := i) (by omega) (by omega) (by omega) (by omega)
  refine ref_m (e_jm op to) ?_
  have hrow : rowR i = modrmR [255] false (if i.op = 22 then 2 else 4) i.to := by
    rcases op with op | op
    · rw [row_call op, if_pos op]; unfold jumpR; rw [isT_rm to]; rfl
    · rw [row_jmp op, if_neg (by omega)]; unfold jumpR; rw [isT_rm to]; rfl
  rw [hrow]
  have hk : (if i.op = 22 then (2 : Int) else 4) = 2 ∨ (if i.op = 22 then (2 : Int) else 4) = 4 := by split <;> simp
  generalize (if i.op = 22 then (2 : Int) else 4) = k at hk
  exact rm_row rfl rfl to (fs_to src.fs) (by show (0 : Int) ≤ k; omega) (by show k ≤ 15; omega) (by show k % 8 = k; omega) (by show (0 : Int) = 0 + (bif decide (k ≥ 8) then 4 else 0); rw [decide_eq_false (by omega)]; rfl) hsm rfl ⟨Nat.le_refl _, by show 1 ≤ 2; omega⟩ rfl ⟨Int.le_refl _, by show (0 : Int) ≤ 8; omega⟩ rfl
theorem ref_bare (op : i.op = 25 ∨ i.op = 26 ∨ (32 ≤ i.op ∧ i.op ≤ 35)) (sz : i.size = 0) (to : NoneO i.to) (src : NoneO i.src) : Ref i (rowR i) (encI i) := by
  rw [e_bare op, row_bare op]
  refine plain_no (r := plainR (bareOp i.op)) rfl rfl rfl ?_ (by rw [to.fs, src.fs]; rfl) (small_8 (by omega) (by omega) (by omega) (by omega)) rfl rfl ⟨Int.le_refl _, by show (0 : Int) ≤ 8; omega⟩
  show 1 ≤ (bareOp i.op).length ∧ (bareOp i.op).length ≤ 2
  unfold bareOp
  (repeat' split) <;> exact ⟨by simp, by simp⟩
theorem ref_jt (op : i.op = 22 ∨ i.op = 23 ∨ i.op = 24) (sz : i.size = 8) (short : i.short = true → i.op ≠ 22) (to : TgtO i.to) (src : NoneO i.src) : Ref i (rowR i) (encI i) := by
  have hsm := small_8 (i := i) (by omega) (by omega) (by omega) (by omega)
  have hrow : rowR i = { plainR (jOp i) with num := jSize i, n := i.to.n, name := i.to } := by
    unfold jOp jSize
    rcases op with op | op | op
    · rw [row_call op, op]; unfold jumpR; rw [isT_tgt to]
      cases hs : i.short with
      | true => exact absurd op (short hs)
      | false => rfl
    · rw [row_jmp op, op]; unfold jumpR; rw [isT_tgt to]
      cases i.short <;> rfl
    · rw [row_jcc op, op]; unfold jumpR; rw [isT_tgt to]
      cases i.short <;> rfl
  rw [e_jt op to, hrow]
  have hjs : 0 ≤ jSize i ∧ jSize i ≤ 8 := by unfold jSize; cases i.short <;> decide
  refine plain_row (r := { plainR (jOp i) with num := jSize i, n := i.to.n, name := i.to }) rfl rfl rfl ?_ (by rw [to.fs, src.fs]; rfl) hsm ?_ hjs ?_
  · show 1 ≤ (jOp i).length ∧ (jOp i).length ≤ 2
    unfold jOp
    cases i.short <;> cases i.op == 23 <;> cases i.op == 22 <;> exact ⟨by simp, by simp⟩
  · show leL (bif !anon i.to then 0 else i.to.n) (jSize i).toNat = _
    cases ha : anon i.to with
    | true => rfl
    | false => rw [(to.named ha).1]; rfl
  · show (bif !anon i.to then [holeR' i.to (((jOp i).length : Nat) : Int) (jSize i) _] else []) = (jHole i).map (movH false (((jOp i).length : Nat) : Int) _)
    unfold jHole
    cases ha : anon i.to with
    | true => rfl
    | false =>
      show [holeR' i.to _ _ _] = [movH false _ _ ⟨0, jSize i, _, i.to.name, _⟩]
      unfold holeR' movH jSize
      rw [to.kind, Int.zero_add]
      cases i.short with
      | true => rfl
      | false =>
        rcases (to.named ha).2.1 with h | h <;> rw [h] <;> rfl
/-- The document and the program write the same. -/
theorem ref_eq (f : Form i) : Ref i (rowR i) (encI i) := by
  cases f with
  | rr op sz sz2 cd sh to src => exact ref_rr op to src
  | rm op sz cd sh to src => exact ref_rm op to src
  | ri op sz cd sh to src fits =>
    by_cases h : i.op = 1 ∧ isR i.to = true ∧ (i.size < 8 ∨ fits32 i.src.n = false)
    · have hr : RegO i.to := by
        rcases to with to | to
        · exact to
        · rw [isR_mem to] at h; cases h.2.1
      exact ref_mv h.1 sz hr src h.2.2
    · refine ref_imm op sz to src fun h1 h2 => ?_
      have h3 : ¬ (i.size < 8 ∨ fits32 i.src.n = false) := fun hh => h ⟨h1, h2, hh⟩
      refine ⟨?_, ?_⟩
      · rcases sz with s | s | s
        · exact absurd (.inl (by omega)) h3
        · exact absurd (.inl (by omega)) h3
        · exact s
      · cases hf : fits32 i.src.n with
        | true => rfl
        | false => exact absurd (.inr hf) h3
  | mi op sz cd sh to src =>
    cases hf : fits32 i.src.n with
    | true => exact ref_imm (.inl op) (.inr (.inr sz)) (.inl to) src fun _ _ => ⟨sz, hf⟩
    | false => exact ref_mv op (.inr (.inr sz)) to src (.inr hf)
  | lea op sz cd sh to src fs => exact ref_ld (.inl op) sz to (.inr src)
  | ld op sz c0 c1 cd sh to src => exact ref_ld (.inr op) sz to src
  | one op sz cd sh to src => exact ref_one op to src
  | set op sz c0 c1 sh to src => exact ref_set op sz to src
  | shr op sz cd sh to src r => exact ref_shr op to src
  | shi op sz cd sh to src n0 n1 => exact ref_shi op to src
  | push op sz cd sh to src => exact ref_push op sz to src
  | pushi op sz cd sh to src w => exact ref_pushi op sz to src
  | pop op sz cd sh to src => exact ref_pop op sz to src
  | jt op sz c0 c1 cd sh to src => exact ref_jt op sz (fun h => (sh h).1) to src
  | jm op sz cd sh to src => exact ref_jm op sz to src
  | bare op sz cd sh to src => exact ref_bare op sz to src
end
end Go.Proofs.YthmighgfefjcmaaGreat.Enc
end

section
/- EncodeBytes: its loops: shown. No condition. -/
set_option maxRecDepth 100000
namespace Go.Proofs.YthmighgfefjcmaaGreat.Enc
open Go.RowKit Go.Proofs.YthmighgfefjcmaaGreat.X Go.IntWalk

theorem good_llv : Lib.Good Tryz.prog Llv := lib_fs good_rbytes fun vs z hz w => by
  unfold liveS at hz
  split at hz
  · simp only [Option.some.injEq] at hz
    subst hz
    exact calls_of_run (good_str _) (fun _ _ _ _ h => h) Tryz.func9 3000 [] [] rfl rfl (.bool true) live_run w
  · cases hz
set_option maxHeartbeats 4000000 in
theorem good_hsL : Lib.Good Tryz.prog LhsL := lib_loop good_llv 4 "law.go:32" (by kernel_rfl) lHsL 2000 fun σ α rest hp => by
  obtain ⟨he, h0, h1, hl⟩ := (show σ.R 0 = σ.R 4 ∧ 0 ≤ σ.I 8 ∧ σ.I 8 ≤ (σ.R 0).length ∧ (σ.R 0).length ≤ 100 from hp)
  refine (hs_round σ α rest).mpr ?_
  intro x0 x1 x2 x3 x4 x5 x6
  have hl4 : (σ.R 4).length = (σ.R 0).length := by rw [he]
  refine ⟨rfl, fun hlt' => ?_, fun hge => ?_⟩
  · have hlt : σ.I 8 < ((σ.R 0).length : Int) := of_decide_eq_true hlt'
    have e6 : x6 = σ.I 8 + 1 := i64_in _ (by omega)
    have e2 : x2 = false := by
      show (!(_)) = false
      rw [he]
      simp only [beq_self_eq_true, Bool.and_true, Bool.not_true]
    refine ⟨⟨h0, hlt, Nat.le_refl _⟩, by omega, ⟨h0, by omega, Nat.le_refl _⟩, by omega, fun h => by (rw [e2] at h; cases h), fun _ => ⟨rfl, rfl, ⟨⟨trivial, rfl⟩, rfl⟩, ⟨he, by omega, by omega, hl⟩, by omega, rfl, rfl⟩⟩
  · exact ⟨rfl, rfl, rfl, ⟨⟨⟨trivial, rfl⟩, rfl⟩, rfl, rfl⟩, rfl, rfl⟩
theorem good_hs : Lib.Good Tryz.prog Lhs := lib_con good_hsL Tryz.func7 cHs 2000 fun σ α hp => by
  rw [hs_goal]
  obtain ⟨he, hl⟩ := (show σ.R 0 = σ.R 4 ∧ (σ.R 0).length ≤ 100 from hp)
  intro x0 x1 x2
  have e0 : x0 = false := by show (_ != _) = false; rw [he]; simp
  refine ⟨fun h => by (rw [e0] at h; cases h), fun _ => ?_⟩
  and_intros
  all_goals first | assumption | exact True.intro | exact Eq.refl _ | omega
set_option maxHeartbeats 4000000 in
theorem good_sev : Lib.Good Tryz.prog Lsev := lib_loop good_hs 7 "law.go:48" (by kernel_rfl) lSev 2000 fun σ α rest hp => by
  obtain ⟨h0, h1, hl⟩ := (show 0 ≤ σ.I 4 ∧ σ.I 4 ≤ (σ.R 0).length ∧ (σ.R 0).length ≤ 100 from hp)
  refine (sev_round σ α rest).mpr ?_
  intro x0 x1 x2 x3 x4
  have e2 : x2 = (σ.R 0).length := List.length_set ..
  refine ⟨rfl, fun hlt' => ?_, fun hge => ?_⟩
  · have hlt : σ.I 4 < ((σ.R 0).length : Int) := of_decide_eq_true hlt'
    have e3 : x3 = σ.I 4 + 1 := i64_in _ (by omega)
    have e4 : x4 = ((σ.R 0).length : Int) := by show ((x2 : Nat) : Int) = _; rw [e2]
    refine ⟨⟨h0, hlt, Nat.le_refl _⟩, by omega, rfl, rfl, ⟨trivial, e2.symm⟩, ⟨by omega, by omega, by omega⟩, by omega, rfl, rfl⟩
  · exact ⟨rfl, rfl, rfl, trivial⟩
end Go.Proofs.YthmighgfefjcmaaGreat.Enc
end

section
/- EncodeBytes: for every instruction the law hands back true. No condition. -/
set_option maxRecDepth 100000
namespace Go.Proofs.YthmighgfefjcmaaGreat.Enc
open Go.RowKit Go.Proofs.YthmighgfefjcmaaGreat.X Go.IntWalk

theorem good_LbT1 : Lib.Good Tryz.prog LbT1 := lib_way good_sev (c := cBytes) (fun _ => rfl) chkD true outB outN (fun _ => rfl) (fun _ => rfl)
theorem good_LbT : Lib.Good Tryz.prog LbT := lib_way good_LbT1 (c := cRbytes) (fun _ => rfl) chkD true outR outN (fun _ => rfl) (fun _ => rfl)
theorem good_LbN1 : Lib.Good Tryz.prog LbN1 := lib_way good_sev (c := cBytes) (fun _ => rfl) chkD false outN outB (fun _ => rfl) (fun _ => rfl)
theorem good_LbN : Lib.Good Tryz.prog LbN := lib_way good_LbN1 (c := cRbytes) (fun _ => rfl) chkD false outN outR (fun _ => rfl) (fun _ => rfl)

theorem form_ok {i : Ins} (f : Form i) : EncOk (encI i) := by
  by_cases h0 : i.op = 1 ∨ i.op = 11 ∨ i.op = 31 ∨ (3 ≤ i.op ∧ i.op ≤ 10)
  · rw [enc_sum h0]; exact ok_sum i
  · by_cases h1 : 17 ≤ i.op ∧ i.op ≤ 19
    · rw [enc_sh h1]; exact ok_sh i
    · by_cases h2 : i.op = 20 ∨ i.op = 21
      · rw [enc_st h2]; exact ok_st i
      · by_cases h3 : i.op = 22 ∨ i.op = 23 ∨ i.op = 24
        · rw [enc_j h3]; exact ok_j i
        · rw [enc_ot h0 h1 h2 h3]; exact (form_ot f h0 h1 h2 h3).2
theorem rexL_len (r : Int) (f : Bool) : (rexL r f).length ≤ 1 := by
  unfold rexL; cases (bif r != 0 then true else f) <;> simp
theorem bytes_len {e : Enc} (ok : EncOk e) : 1 ≤ e.bytes.length ∧ e.bytes.length ≤ 15 := by
  have h1 := ok.pre
  have h2 := rexL_len e.rex e.force
  have h3 := ok.op0
  have h4 := ok.op1
  have h5 := ok.all
  simp only [Enc.bytes, Enc.front, List.length_append]
  omega
theorem bytN_sat (σ : Dt) (α : At') (h : chkB (ins σ 0) = false) (s1 : (σ.S 11).size ≤ big) (s2 : (σ.S 21).size ≤ big) : SatB Tryz.prog LbN 3000 Tryz.f3 (argsV σ α aByt 0) := by
  constructor
  rw [bytN_law]
  intro x0 x1 x3
  have h1 : x1 = false := h
  have h3 : x3 := ⟨trivial, trivial, h1⟩
  have hg : x1 = true → rowGood (rowR x0) := fun hh => by rw [h1] at hh; cases hh
  refine ⟨h3, ⟨trivial, ⟨s1, s2, hg⟩, h1⟩, h3, ⟨⟨⟨trivial, rfl⟩, rfl⟩, rfl, Nat.zero_le _⟩, ⟨⟨trivial, rfl⟩, Int.le_refl _, Int.le_refl _, Nat.zero_le _⟩, h3, trivial, rfl⟩
theorem bytT_sat (σ : Dt) (α : At') (h : chkB (ins σ 0) = true) (s1 : (σ.S 11).size ≤ big) (s2 : (σ.S 21).size ≤ big) : SatB Tryz.prog LbT 3000 Tryz.f3 (argsV σ α aByt 0) := by
  constructor
  rw [bytT_law]
  have f := chk_form h
  have hr := ref_eq f
  have hl := bytes_len (form_ok f)
  have hh : (rowsH (encI (ins σ 0)).hols).length ≤ 100 := by
    rw [rowsH_len]; unfold Enc.hols; rw [List.length_map]
    exact Nat.le_trans (form_ok f).h1 (by omega)
  intro x0 x1 x2 x3 x4 x5 x6 x7 x8 x9 x10 x11 x12 x13 x14 x15 x16 x17 x18
  have h1 : x1 := h
  have h2 : x2 := ⟨trivial, trivial, h1⟩
  have e8 : x8 = x5 := congrArg rowsB hr.bytes
  have e15 : x15 = x13 := congrArg rowsH hr.hols
  have e9 : x9 = x6 := congrArg List.length e8
  have e11 : x11 = true := by
    show (_ == (ByteArray.mk (List.map (fun r => UInt8.ofNat (asI (r.getD 0 (Value.tuple #[]))).toNat) (List.take x8.length x8)).toArray).toList) = true
    rw [e8]
    exact beq_self_eq_true _
  have e12 : x12 = false := by show (!x11) = false; rw [e11]; rfl
  have e18 : x18 = false := by show (x17 != (↑x9 : Int)) = false; rw [e9]; exact bne_self_eq_false _
  have l6 : x6 ≤ 100 := by
    show (rowsB (encI (ins σ 0)).bytes).length ≤ 100
    rw [rowsB_len]; omega
  refine ⟨h2, ⟨trivial, ⟨s1, s2, fun _ => hr.good⟩, h1⟩, h2, Nat.le_refl _, Nat.le_refl _, fun _ => ⟨⟨⟨⟨trivial, rfl⟩, rfl⟩, e15.symm, hh⟩, fun _ => ⟨⟨⟨trivial, rfl⟩, Int.le_refl _, Int.natCast_nonneg _, l6⟩, h2, Nat.le_refl _, Nat.le_refl _⟩⟩, trivial, ?_⟩
  rw [e12, e18, e11]; rfl
theorem str_at {ks : List PK} {cs : List Value} (h : okCells ks cs) : ∀ n, ks[n]? = some PK.str → (asS (cs.getD n undef)).size ≤ maxLen := by
  induction ks generalizing cs with
  | nil => intro n hn; simp at hn
  | cons k ks ih =>
    cases cs with
    | nil => exact h.elim
    | cons c cs =>
      intro n hn
      cases n with
      | zero =>
        simp only [List.getElem?_cons_zero, Option.some.injEq] at hn
        subst hn
        obtain ⟨s, rfl, hs⟩ := h.1
        exact hs
      | succ n => exact ih h.2 n (by simpa using hn)
theorem byt_walk (vs cs : List Value) (hv : okArgs aByt vs cs) (w : World) : Calls Tryz.prog 3 vs.toArray w fun e w' => e = .returned (.bool true) ∧ Below w.heap.size w w' := by
  have hc := okArgs_cells hv
  have s1 : ((dtL cs).S 11).size ≤ big := str_at hc 11 rfl
  have s2 : ((dtL cs).S 21).size ≤ big := str_at hc 21 rfl
  cases h : chkB (ins (dtL cs) 0) with
  | true => exact law_calls1 good_LbT Tryz.func3 3000 aByt vs cs hv (bytT_sat _ _ h s1 s2) w
  | false => exact law_calls1 good_LbN Tryz.func3 3000 aByt vs cs hv (bytN_sat _ _ h s1 s2) w
end Go.Proofs.YthmighgfefjcmaaGreat.Enc
end
