/- Parts of the proof, laid together: EncMath2, EncForm, EncBytV, EncByt, EncDec, EncDec2, EncDec3, EncDec4, EncShp, EncUnd, EncUnd2, EncUnd3, EncCan, EncLive, Open, EncArg, EncUnlV, EncPfxV, EncPfx, EncUnl. No condition. -/
import Derived.Test.YthmighgfefjcmaaUxD
import Derived.Test.YthmighgfefjcmaaUxC
import Derived.ProofKit
import Derived.OpenShut
import Derived.Carry

section
/- What is written of an instruction that may be: its premises, its sizes. No condition. -/
set_option maxRecDepth 100000
namespace Go.Proofs.Ythmighgfefjcmaa.Enc
open Go.RowKit Go.Proofs.Ythmighgfefjcmaa.X Go.IntWalk

/-- An op with an operand as rm: W, the register's and the opcode's bits beside. -/
def mE (W k : Int) (o : Opd) (force : Bool) (op num : List Int) : Enc :=
  { pre := rmPre o, rex := rexOr W (rmRex o), force := force, op := op, tail := rmTail k o, number := num, holes := rmHoles k o, inTail := !(rmHoles k o).isEmpty }
theorem groupE_eq (o : Opd) (size small great k : Int) (num : List Int) : groupE o size small great k num = mE (rexW size) k o (lowF o size) [szOp size small great] num := rfl
theorem regE_eq (r : Int) (o : Opd) (size : Int) (force : Bool) (op : List Int) : regE r o size force op = mE (rexW size + rexR r) (r.tmod 8) o force op [] := rfl
theorem rmE_eq (o : Opd) (k : Int) (force : Bool) (op : List Int) : rmE o k force op = mE 0 k o force op [] := rfl

theorem leL_lm (n : Int) (k : Nat) : (leL n k).length = min k 8 := by
  unfold leL; rw [List.length_take]; rfl
theorem rmHead_len (k : Int) (o : Opd) : 1 ≤ (rmHead k o).length ∧ (rmHead k o).length ≤ 2 := by
  unfold rmHead
  cases isR o <;> cases o.rip <;> cases o.fs <;> cases hasX o <;> cases isSp o <;> simp
theorem sizO_le (o : Opd) : sizO o ≤ 4 := by
  unfold sizO; cases anon o <;> cases disp0 o <;> cases disp1 o <;> decide
theorem rmSize_le (o : Opd) : rmSize o ≤ 4 := by
  have := sizO_le o
  unfold rmSize; cases isR o <;> cases o.rip <;> cases o.fs <;> simp only [cond_true, cond_false] <;> omega
theorem rmTail_len (k : Int) (o : Opd) : 1 ≤ (rmTail k o).length ∧ (rmTail k o).length ≤ 6 := by
  have h1 := rmHead_len k o
  have h2 := rmSize_le o
  unfold rmTail
  rw [List.length_append, leL_lm]
  omega
theorem rmPre_len (o : Opd) : (rmPre o).length ≤ 1 := by
  unfold rmPre; cases isR o <;> cases o.rip <;> cases o.fs <;> simp
theorem rmRex_le (o : Opd) : 0 ≤ rmRex o ∧ rmRex o ≤ 3 := by
  unfold rmRex
  cases isR o <;> cases o.rip <;> cases o.fs <;> cases decide (o.r ≥ 8) <;> cases decide (o.base ≥ 8) <;> cases decide (o.index ≥ 8) <;> exact ⟨by decide, by decide⟩
theorem rexOr_le {x y : Int} (hx : x ≤ 15) (hy : y ≤ 15) : 0 ≤ rexOr x y ∧ rexOr x y ≤ 15 := by
  have h : x.toNat ||| y.toNat < 2 ^ 4 := Nat.or_lt_two_pow (by omega) (by omega)
  unfold rexOr
  omega

structure EncOk (e : Enc) : Prop where
  r0 : 0 ≤ e.rex
  r1 : e.rex ≤ 15
  pre : e.pre.length ≤ 1
  op0 : 1 ≤ e.op.length
  op1 : e.op.length ≤ 2
  tail : e.tail.length ≤ 6
  number : e.number.length ≤ 8
  all : e.tail.length + e.number.length ≤ 10
  h1 : e.holes.length ≤ 1
  hat : ∀ h ∈ e.holes, 0 ≤ h.at_ ∧ h.at_ ≤ 100

theorem ok_m {W k : Int} {o : Opd} {force : Bool} {op num : List Int} (hW : W ≤ 15) (h0 : 1 ≤ op.length) (h1 : op.length ≤ 2) (hn : num.length ≤ 4) : EncOk (mE W k o force op num) := by
  have hr := rexOr_le hW (show rmRex o ≤ 15 by have := rmRex_le o; omega)
  have ht := rmTail_len k o
  have hh : (rmHoles k o).length ≤ 1 ∧ ∀ h ∈ rmHoles k o, 0 ≤ h.at_ ∧ h.at_ ≤ 100 := by
    unfold rmHoles namedH
    have := rmHead_len k o
    cases isR o <;> cases anon o <;> refine ⟨by simp, fun h hh => ?_⟩ <;> simp at hh
    subst hh
    exact ⟨by simp, by show ((rmHead k o).length : Int) ≤ 100; omega⟩
  exact ⟨hr.1, hr.2, rmPre_len o, h0, h1, ht.2, by show num.length ≤ 8; omega, by show (rmTail k o).length + num.length ≤ 10; omega, hh.1, hh.2⟩
theorem ok_p {r : Int} {force : Bool} {op num : List Int} {hs : List Hol} (hr : 0 ≤ r ∧ r ≤ 15) (h0 : 1 ≤ op.length) (h1 : op.length ≤ 2) (hn : num.length ≤ 8) (hh : hs.length ≤ 1 ∧ ∀ h ∈ hs, 0 ≤ h.at_ ∧ h.at_ ≤ 100) : EncOk { rex := r, force := force, op := op, number := num, holes := hs } :=
  ⟨hr.1, hr.2, by simp, h0, h1, Nat.zero_le _, hn, by show 0 + num.length ≤ 10; omega, hh.1, hh.2⟩
theorem no_holes : ([] : List Hol).length ≤ 1 ∧ ∀ h ∈ ([] : List Hol), 0 ≤ h.at_ ∧ h.at_ ≤ 100 := ⟨by decide, fun h hh => by (cases hh)⟩
theorem rexR_le (r : Int) : rexR r ≤ 4 := by unfold rexR; cases decide (r ≥ 8) <;> decide
theorem rexW_le8 (s : Int) : rexW s ≤ 8 := by unfold rexW; cases s == 8 <;> decide
theorem min4_l4 (s : Int) : (min4 s).toNat ≤ 4 := by unfold min4; split <;> omega
theorem ok_grp (o : Opd) (size small great k : Int) {num : List Int} (hn : num.length ≤ 4) : EncOk (groupE o size small great k num) := by
  rw [groupE_eq]; exact ok_m (by have := rexW_le8 size; omega) (by simp) (by simp) hn
theorem ok_reg (r : Int) (o : Opd) (size : Int) (force : Bool) {op : List Int} (h0 : 1 ≤ op.length) (h1 : op.length ≤ 2) : EncOk (regE r o size force op) := by
  rw [regE_eq]; exact ok_m (by have := rexW_le8 size; have := rexR_le r; omega) h0 h1 (by decide)
theorem ok_rm (o : Opd) (k : Int) (force : Bool) {op : List Int} (h0 : 1 ≤ op.length) (h1 : op.length ≤ 2) : EncOk (rmE o k force op) := by
  rw [rmE_eq]; exact ok_m (by decide) h0 h1 (by decide)
theorem ok_imm (i : Ins) : EncOk (immE i) := by
  have h4 : (leL i.src.n (min4 i.size).toNat).length ≤ 4 := by rw [leL_lm]; have := min4_l4 i.size; omega
  have h1 : (leL i.src.n 1).length ≤ 4 := by rw [leL_lm]; decide
  unfold immE
  cases (bif i.op == 1 then bif isR i.to then bif decide (i.size < 8) then true else !fits32 i.src.n else false else false) with
  | true =>
    refine ok_p ?_ (by simp) (by simp) (by rw [leL_lm]; omega) no_holes
    exact rexOr_le (by cases decide (i.to.r ≥ 8) <;> decide) (by have := rexW_le8 i.size; omega)
  | false =>
    cases i.op == 1 with
    | true => exact ok_grp _ _ _ _ _ h4
    | false =>
      cases i.op == 11 with
      | true => exact ok_grp _ _ _ _ _ h4
      | false =>
        cases (bif i.size != 1 then short8 i.size i.src.n else false) with
        | true => exact ok_grp _ _ _ _ _ h1
        | false => exact ok_grp _ _ _ _ _ h4
theorem ok_sum (i : Ins) : EncOk (sumE i) := by
  unfold sumE
  cases isI i.src with
  | true => exact ok_imm i
  | false =>
    cases isR i.src with
    | true => exact ok_reg _ _ _ _ (by simp) (by simp)
    | false => exact ok_reg _ _ _ _ (by simp) (by simp)
theorem ok_sh (i : Ins) : EncOk (shE i) := by
  unfold shE
  cases isI i.src with
  | true => exact ok_grp _ _ _ _ _ (by rw [leL_lm]; decide)
  | false => exact ok_grp _ _ _ _ _ (by decide)
theorem ok_plus (r op : Int) : EncOk (plusE r op) := ok_p (by cases decide (r ≥ 8) <;> decide) (by simp) (by simp) (by simp) no_holes
theorem ok_st (i : Ins) : EncOk (stE i) := by
  unfold stE
  cases (bif i.op == 20 then isR i.src else false) with
  | true => exact ok_plus _ _
  | false =>
    cases (bif i.op == 21 then isR i.to else false) with
    | true => exact ok_plus _ _
    | false =>
      cases i.op == 21 with
      | true => exact ok_rm _ _ _ (by simp) (by simp)
      | false =>
        cases isM i.src with
        | true => exact ok_rm _ _ _ (by simp) (by simp)
        | false =>
          cases byteN i.src.n with
          | true => exact ok_p ⟨by decide, by decide⟩ (by simp) (by simp) (by rw [leL_lm]; decide) no_holes
          | false => exact ok_p ⟨by decide, by decide⟩ (by simp) (by simp) (by rw [leL_lm]; decide) no_holes
theorem ok_j (i : Ins) : EncOk (jE i) := by
  unfold jE
  cases !isT i.to with
  | true => exact ok_rm _ _ _ (by simp) (by simp)
  | false =>
    refine ok_p ⟨by decide, by decide⟩ ?_ ?_ (by rw [leL_lm]; omega) ?_
    · unfold jOp; cases i.short <;> cases i.op == 22 <;> cases i.op == 23 <;> simp
    · unfold jOp; cases i.short <;> cases i.op == 22 <;> cases i.op == 23 <;> simp
    · unfold jHole
      cases anon i.to with
      | true => exact no_holes
      | false => exact ⟨by simp, fun h hh => by simp at hh; subst hh; exact ⟨Int.le_refl _, by simp⟩⟩
end Go.Proofs.Ythmighgfefjcmaa.Enc
end

section
/- The forms of instructions that may be. No condition. -/
set_option maxRecDepth 100000
namespace Go.Proofs.Ythmighgfefjcmaa.Enc
open Go.RowKit Go.Proofs.Ythmighgfefjcmaa.X Go.IntWalk

def RmO (o : Opd) : Prop := RegO o ∨ MemO o
def Sz9 (s : Int) : Prop := s = 1 ∨ s = 4 ∨ s = 8
def Sz4 (s : Int) : Prop := s = 4 ∨ s = 8
inductive Form (i : Ins) : Prop where
  | rr (op : i.op = 1 ∨ (3 ≤ i.op ∧ i.op ≤ 10) ∨ i.op = 11 ∨ i.op = 31) (sz : Sz9 i.size) (sz2 : i.op = 31 → Sz4 i.size) (cond : i.cond = 0) (short : i.short = false) (to : RmO i.to) (src : RegO i.src)
  | rm (op : i.op = 1 ∨ (3 ≤ i.op ∧ i.op ≤ 10)) (sz : Sz9 i.size) (cond : i.cond = 0) (short : i.short = false) (to : RegO i.to) (src : MemO i.src)
  | ri (op : i.op = 1 ∨ (3 ≤ i.op ∧ i.op ≤ 10) ∨ i.op = 11) (sz : Sz9 i.size) (cond : i.cond = 0) (short : i.short = false) (to : RmO i.to) (src : ImmO i.src) (fits : fitsB i.src.n i.size = true)
  | mi (op : i.op = 1) (sz : i.size = 8) (cond : i.cond = 0) (short : i.short = false) (to : RegO i.to) (src : ImmO i.src)
  | lea (op : i.op = 2) (sz : Sz4 i.size) (cond : i.cond = 0) (short : i.short = false) (to : RegO i.to) (src : MemO i.src) (fs : i.src.fs = false)
  | ld (op : i.op = 12 ∨ i.op = 28 ∨ i.op = 29 ∨ i.op = 30) (sz : Sz4 i.size) (c0 : 0 ≤ i.cond) (c1 : i.cond ≤ 15) (cond : i.op ≠ 28 → i.cond = 0) (short : i.short = false) (to : RegO i.to) (src : RmO i.src)
  | one (op : 13 ≤ i.op ∧ i.op ≤ 16) (sz : Sz9 i.size) (cond : i.cond = 0) (short : i.short = false) (to : RmO i.to) (src : NoneO i.src)
  | set (op : i.op = 27) (sz : i.size = 1) (c0 : 0 ≤ i.cond) (c1 : i.cond ≤ 15) (short : i.short = false) (to : RmO i.to) (src : NoneO i.src)
  | shr (op : 17 ≤ i.op ∧ i.op ≤ 19) (sz : Sz9 i.size) (cond : i.cond = 0) (short : i.short = false) (to : RmO i.to) (src : RegO i.src) (r : i.src.r = 1)
  | shi (op : 17 ≤ i.op ∧ i.op ≤ 19) (sz : Sz9 i.size) (cond : i.cond = 0) (short : i.short = false) (to : RmO i.to) (src : ImmO i.src) (n0 : 0 ≤ i.src.n) (n1 : i.src.n ≤ 63)
  | push (op : i.op = 20) (sz : i.size = 8) (cond : i.cond = 0) (short : i.short = false) (to : NoneO i.to) (src : RmO i.src)
  | pushi (op : i.op = 20) (sz : i.size = 8) (cond : i.cond = 0) (short : i.short = false) (to : NoneO i.to) (src : ImmO i.src) (wide : wideB i.src.n = true)
  | pop (op : i.op = 21) (sz : i.size = 8) (cond : i.cond = 0) (short : i.short = false) (to : RmO i.to) (src : NoneO i.src)
  | jt (op : i.op = 22 ∨ i.op = 23 ∨ i.op = 24) (sz : i.size = 8) (c0 : 0 ≤ i.cond) (c1 : i.cond ≤ 15) (cond : i.op ≠ 24 → i.cond = 0) (short : i.short = true → i.op ≠ 22 ∧ (anon i.to = true → -128 ≤ i.to.n ∧ i.to.n ≤ 127)) (to : TgtO i.to) (src : NoneO i.src)
  | jm (op : i.op = 22 ∨ i.op = 23) (sz : i.size = 8) (cond : i.cond = 0) (short : i.short = false) (to : RmO i.to) (src : NoneO i.src)
  | bare (op : i.op = 25 ∨ i.op = 26 ∨ (32 ≤ i.op ∧ i.op ≤ 35)) (sz : i.size = 0) (cond : i.cond = 0) (short : i.short = false) (to : NoneO i.to) (src : NoneO i.src)

theorem nn {b : Bool} (h : (!(!b)) = true) : b = true := by cases b <;> simp_all
theorem s9_ok {s : Int} (h : s9 (s == 1) (s == 4) (s == 8) = true) : Sz9 s := by
  unfold s9 at h
  simp at h
  unfold Sz9; omega
theorem s4_ok {s : Int} (h : s4 (s == 1) (s == 4) (s == 8) = true) : Sz4 s := by
  unfold s4 at h
  simp at h
  unfold Sz4; omega
theorem s8_ok {s : Int} (h : s8 (s == 1) (s == 4) (s == 8) = true) : s = 8 := by
  unfold s8 at h
  simp at h
  omega
theorem sq_ok {s k : Int} (h : (!(!(s == k))) = true) : s = k := by simpa using h
theorem c_ok {c : Int} (h : (!(c != 0)) = true) : c = 0 := by simpa using h
theorem sz49 {s : Int} (h : Sz4 s) : Sz9 s := .inr h
section
variable {i : Ins}
theorem sum_ok (h : sumB i = true) : (rmB i.to = true ∧ regB i.src = true) ∨ (rmB i.to = true ∧ givenB i = true) ∨ (regB i.to = true ∧ memB i.src = true) := by
  unfold sumB loadB at h
  cases h1 : rmB i.to <;> cases h2 : regB i.src <;> cases h3 : givenB i <;> simp [h1, h2, h3] at h <;> simp_all
theorem given_ok (h : givenB i = true) : ImmO i.src ∧ fitsB i.src.n i.size = true := by
  unfold givenB at h
  simp [bif3] at h
  exact ⟨immO h.1, h.2⟩
theorem test_ok (h : testB i = true) : rmB i.to = true ∧ (regB i.src = true ∨ givenB i = true) := by
  unfold testB at h
  simpa using h
theorem lea_ok (h : leaB i = true) : RegO i.to ∧ MemO i.src ∧ i.src.fs = false := by
  unfold leaB at h
  simp at h
  exact ⟨regO h.1, memO h.2.1, h.2.2⟩
theorem ld_ok (h : ldB i = true) : RegO i.to ∧ RmO i.src := by
  unfold ldB at h
  simp at h
  exact ⟨regO h.1, rmB_or h.2⟩
theorem one_ok (h : oneB i = true) : RmO i.to ∧ NoneO i.src := by
  unfold oneB at h
  simp at h
  exact ⟨rmB_or h.1, noneO h.2⟩
theorem bare_ok (h : bareB i = true) : NoneO i.to ∧ NoneO i.src := by
  unfold bareB at h
  simp at h
  exact ⟨noneO h.1, noneO h.2⟩
theorem xchg_ok (h : xchgB i = true) : RmO i.to ∧ RegO i.src := by
  unfold xchgB at h
  simp at h
  exact ⟨rmB_or h.1, regO h.2⟩
theorem push_ok (h : pushB i = true) : NoneO i.to ∧ (RmO i.src ∨ (ImmO i.src ∧ wideB i.src.n = true)) := by
  unfold pushB at h
  simp at h
  exact ⟨noneO h.1, h.2.imp rmB_or fun h => ⟨immO h.1, h.2⟩⟩
theorem by_ok {m : Int} (h : byB i m = true) : ImmO i.src ∧ 0 ≤ i.src.n ∧ i.src.n ≤ m := by
  unfold byB at h
  simp at h
  exact ⟨immO h.1, h.2⟩
theorem shm_ok {m : Int} (h : shiftM i m = true) : RmO i.to ∧ ((RegO i.src ∧ i.src.r = 1) ∨ (ImmO i.src ∧ 0 ≤ i.src.n ∧ i.src.n ≤ m)) := by
  unfold shiftM at h
  cases h1 : rmB i.to with
  | false => rw [h1] at h; cases h
  | true =>
    refine ⟨rmB_or h1, ?_⟩
    rw [h1, cond_true] at h
    cases h2 : regB i.src with
    | false => rw [h2, cond_false] at h; exact .inr (by_ok h)
    | true =>
      rw [h2, cond_true] at h
      cases h3 : (i.src.r == 1) with
      | true => exact .inl ⟨regO h2, eq_of_beq h3⟩
      | false => rw [h3, cond_false] at h; exact .inr (by_ok h)
theorem sh_ok (h : shiftB i = true) : RmO i.to ∧ ((RegO i.src ∧ i.src.r = 1) ∨ (ImmO i.src ∧ 0 ≤ i.src.n ∧ i.src.n ≤ 63)) := by
  unfold shiftB at h
  cases h1 : (i.size == 8) with
  | true => rw [h1, cond_true] at h; exact shm_ok h
  | false => rw [h1, cond_false] at h; have := shm_ok h; exact ⟨this.1, this.2.imp id fun h => ⟨h.1, h.2.1, by omega⟩⟩
theorem near_ok (h : nearB i = true) : NoneO i.src ∧ TgtO i.to ∧ (i.short = true → anon i.to = true → -128 ≤ i.to.n ∧ i.to.n ≤ 127) := by
  unfold nearB at h
  simp at h
  refine ⟨noneO h.1, tgtO h.2.1, fun h1 h2 => ?_⟩
  have := h.2.2
  rw [h1, h2] at this
  simpa using this
end

theorem chk_form {i : Ins} (h : chkB i = true) : Form i := by
  have P := chk_parts h
  clear h
  obtain ⟨op, size, cond, to, src, short⟩ := i
  have h0 : 1 ≤ op := P.op0
  have h1 : op ≤ 35 := P.op1
  have hn : op ≠ 23 → op ≠ 24 → short = false := fun h2 h3 => by
    cases short with
    | false => rfl
    | true => exact absurd (P.short rfl) (by simp only; omega)
  have c0 : 0 ≤ cond := P.c0
  have c1 : cond ≤ 15 := P.c1
  have hs := P.short
  have hop : op = 1 ∨ op = 2 ∨ op = 3 ∨ op = 4 ∨ op = 5 ∨ op = 6 ∨ op = 7 ∨ op = 8 ∨ op = 9 ∨ op = 10 ∨ op = 11 ∨ op = 12 ∨ op = 13 ∨ op = 14 ∨ op = 15 ∨ op = 16 ∨ op = 17 ∨ op = 18 ∨ op = 19 ∨ op = 20 ∨ op = 21 ∨ op = 22 ∨ op = 23 ∨ op = 24 ∨ op = 25 ∨ op = 26 ∨ op = 27 ∨ op = 28 ∨ op = 29 ∨ op = 30 ∨ op = 31 ∨ op = 32 ∨ op = 33 ∨ op = 34 ∨ op = 35 := by omega
  rcases hop with rfl | rfl | rfl | rfl | rfl | rfl | rfl | rfl | rfl | rfl | rfl | rfl | rfl | rfl | rfl | rfl | rfl | rfl | rfl | rfl | rfl | rfl | rfl | rfl | rfl | rfl | rfl | rfl | rfl | rfl | rfl | rfl | rfl | rfl | rfl
  · have sz : Sz9 size := s9_ok P.size
    have cd : cond = 0 := c_ok P.cond
    have sh : short = false := hn (by decide) (by decide)
    have o : movB ⟨1, size, cond, to, src, short⟩ = true := nn P.ops
    have o2 : sumB ⟨1, size, cond, to, src, short⟩ = true ∨ (size = 8 ∧ regB to = true ∧ immB src = true) := by
      unfold movB at o
      simpa using o
    rcases o2 with o2 | o2
    · rcases sum_ok o2 with hh | hh | hh
      · exact .rr (by simp) sz (fun h => absurd h (by simp)) cd sh (rmB_or hh.1) (regO hh.2)
      · exact .ri (by simp) sz cd sh (rmB_or hh.1) (given_ok hh.2).1 (given_ok hh.2).2
      · exact .rm (by simp) sz cd sh (regO hh.1) (memO hh.2)
    · exact .mi rfl o2.1 cd sh (regO o2.2.1) (immO o2.2.2)
  · have sz : Sz4 size := s4_ok P.size
    have cd : cond = 0 := c_ok P.cond
    have sh : short = false := hn (by decide) (by decide)
    have o : leaB ⟨2, size, cond, to, src, short⟩ = true := nn P.ops
    exact .lea rfl sz cd sh (lea_ok o).1 (lea_ok o).2.1 (lea_ok o).2.2
  · have sz : Sz9 size := s9_ok P.size
    have cd : cond = 0 := c_ok P.cond
    have sh : short = false := hn (by decide) (by decide)
    have o : sumB ⟨3, size, cond, to, src, short⟩ = true := nn P.ops
    rcases sum_ok o with hh | hh | hh
    · exact .rr (by simp) sz (fun h => absurd h (by simp)) cd sh (rmB_or hh.1) (regO hh.2)
    · exact .ri (by simp) sz cd sh (rmB_or hh.1) (given_ok hh.2).1 (given_ok hh.2).2
    · exact .rm (by simp) sz cd sh (regO hh.1) (memO hh.2)
  · have sz : Sz9 size := s9_ok P.size
    have cd : cond = 0 := c_ok P.cond
    have sh : short = false := hn (by decide) (by decide)
    have o : sumB ⟨4, size, cond, to, src, short⟩ = true := nn P.ops
    rcases sum_ok o with hh | hh | hh
    · exact .rr (by simp) sz (fun h => absurd h (by simp)) cd sh (rmB_or hh.1) (regO hh.2)
    · exact .ri (by simp) sz cd sh (rmB_or hh.1) (given_ok hh.2).1 (given_ok hh.2).2
    · exact .rm (by simp) sz cd sh (regO hh.1) (memO hh.2)
  · have sz : Sz9 size := s9_ok P.size
    have cd : cond = 0 := c_ok P.cond
    have sh : short = false := hn (by decide) (by decide)
    have o : sumB ⟨5, size, cond, to, src, short⟩ = true := nn P.ops
    rcases sum_ok o with hh | hh | hh
    · exact .rr (by simp) sz (fun h => absurd h (by simp)) cd sh (rmB_or hh.1) (regO hh.2)
    · exact .ri (by simp) sz cd sh (rmB_or hh.1) (given_ok hh.2).1 (given_ok hh.2).2
    · exact .rm (by simp) sz cd sh (regO hh.1) (memO hh.2)
  · have sz : Sz9 size := s9_ok P.size
    have cd : cond = 0 := c_ok P.cond
    have sh : short = false := hn (by decide) (by decide)
    have o : sumB ⟨6, size, cond, to, src, short⟩ = true := nn P.ops
    rcases sum_ok o with hh | hh | hh
    · exact .rr (by simp) sz (fun h => absurd h (by simp)) cd sh (rmB_or hh.1) (regO hh.2)
    · exact .ri (by simp) sz cd sh (rmB_or hh.1) (given_ok hh.2).1 (given_ok hh.2).2
    · exact .rm (by simp) sz cd sh (regO hh.1) (memO hh.2)
  · have sz : Sz9 size := s9_ok P.size
    have cd : cond = 0 := c_ok P.cond
    have sh : short = false := hn (by decide) (by decide)
    have o : sumB ⟨7, size, cond, to, src, short⟩ = true := nn P.ops
    rcases sum_ok o with hh | hh | hh
    · exact .rr (by simp) sz (fun h => absurd h (by simp)) cd sh (rmB_or hh.1) (regO hh.2)
    · exact .ri (by simp) sz cd sh (rmB_or hh.1) (given_ok hh.2).1 (given_ok hh.2).2
    · exact .rm (by simp) sz cd sh (regO hh.1) (memO hh.2)
  · have sz : Sz9 size := s9_ok P.size
    have cd : cond = 0 := c_ok P.cond
    have sh : short = false := hn (by decide) (by decide)
    have o : sumB ⟨8, size, cond, to, src, short⟩ = true := nn P.ops
    rcases sum_ok o with hh | hh | hh
    · exact .rr (by simp) sz (fun h => absurd h (by simp)) cd sh (rmB_or hh.1) (regO hh.2)
    · exact .ri (by simp) sz cd sh (rmB_or hh.1) (given_ok hh.2).1 (given_ok hh.2).2
    · exact .rm (by simp) sz cd sh (regO hh.1) (memO hh.2)
  · have sz : Sz9 size := s9_ok P.size
    have cd : cond = 0 := c_ok P.cond
    have sh : short = false := hn (by decide) (by decide)
    have o : sumB ⟨9, size, cond, to, src, short⟩ = true := nn P.ops
    rcases sum_ok o with hh | hh | hh
    · exact .rr (by simp) sz (fun h => absurd h (by simp)) cd sh (rmB_or hh.1) (regO hh.2)
    · exact .ri (by simp) sz cd sh (rmB_or hh.1) (given_ok hh.2).1 (given_ok hh.2).2
    · exact .rm (by simp) sz cd sh (regO hh.1) (memO hh.2)
  · have sz : Sz9 size := s9_ok P.size
    have cd : cond = 0 := c_ok P.cond
    have sh : short = false := hn (by decide) (by decide)
    have o : sumB ⟨10, size, cond, to, src, short⟩ = true := nn P.ops
    rcases sum_ok o with hh | hh | hh
    · exact .rr (by simp) sz (fun h => absurd h (by simp)) cd sh (rmB_or hh.1) (regO hh.2)
    · exact .ri (by simp) sz cd sh (rmB_or hh.1) (given_ok hh.2).1 (given_ok hh.2).2
    · exact .rm (by simp) sz cd sh (regO hh.1) (memO hh.2)
  · have sz : Sz9 size := s9_ok P.size
    have cd : cond = 0 := c_ok P.cond
    have sh : short = false := hn (by decide) (by decide)
    have o : testB ⟨11, size, cond, to, src, short⟩ = true := nn P.ops
    rcases (test_ok o).2 with hh | hh
    · exact .rr (by simp) sz (fun h => absurd h (by simp)) cd sh (rmB_or (test_ok o).1) (regO hh)
    · exact .ri (by simp) sz cd sh (rmB_or (test_ok o).1) (given_ok hh).1 (given_ok hh).2
  · have sz : Sz4 size := s4_ok P.size
    have cd : cond = 0 := c_ok P.cond
    have sh : short = false := hn (by decide) (by decide)
    have o : ldB ⟨12, size, cond, to, src, short⟩ = true := nn P.ops
    exact .ld (by simp) sz c0 c1 (fun _ => cd) sh (ld_ok o).1 (ld_ok o).2
  · have sz : Sz9 size := s9_ok P.size
    have cd : cond = 0 := c_ok P.cond
    have sh : short = false := hn (by decide) (by decide)
    have o : oneB ⟨13, size, cond, to, src, short⟩ = true := nn P.ops
    exact .one (by simp) sz cd sh (one_ok o).1 (one_ok o).2
  · have sz : Sz9 size := s9_ok P.size
    have cd : cond = 0 := c_ok P.cond
    have sh : short = false := hn (by decide) (by decide)
    have o : oneB ⟨14, size, cond, to, src, short⟩ = true := nn P.ops
    exact .one (by simp) sz cd sh (one_ok o).1 (one_ok o).2
  · have sz : Sz9 size := s9_ok P.size
    have cd : cond = 0 := c_ok P.cond
    have sh : short = false := hn (by decide) (by decide)
    have o : oneB ⟨15, size, cond, to, src, short⟩ = true := nn P.ops
    exact .one (by simp) sz cd sh (one_ok o).1 (one_ok o).2
  · have sz : Sz9 size := s9_ok P.size
    have cd : cond = 0 := c_ok P.cond
    have sh : short = false := hn (by decide) (by decide)
    have o : oneB ⟨16, size, cond, to, src, short⟩ = true := nn P.ops
    exact .one (by simp) sz cd sh (one_ok o).1 (one_ok o).2
  · have sz : Sz9 size := s9_ok P.size
    have cd : cond = 0 := c_ok P.cond
    have sh : short = false := hn (by decide) (by decide)
    have o : shiftB ⟨17, size, cond, to, src, short⟩ = true := nn P.ops
    rcases (sh_ok o).2 with hh | hh
    · exact .shr (by simp) sz cd sh (sh_ok o).1 hh.1 hh.2
    · exact .shi (by simp) sz cd sh (sh_ok o).1 hh.1 hh.2.1 hh.2.2
  · have sz : Sz9 size := s9_ok P.size
    have cd : cond = 0 := c_ok P.cond
    have sh : short = false := hn (by decide) (by decide)
    have o : shiftB ⟨18, size, cond, to, src, short⟩ = true := nn P.ops
    rcases (sh_ok o).2 with hh | hh
    · exact .shr (by simp) sz cd sh (sh_ok o).1 hh.1 hh.2
    · exact .shi (by simp) sz cd sh (sh_ok o).1 hh.1 hh.2.1 hh.2.2
  · have sz : Sz9 size := s9_ok P.size
    have cd : cond = 0 := c_ok P.cond
    have sh : short = false := hn (by decide) (by decide)
    have o : shiftB ⟨19, size, cond, to, src, short⟩ = true := nn P.ops
    rcases (sh_ok o).2 with hh | hh
    · exact .shr (by simp) sz cd sh (sh_ok o).1 hh.1 hh.2
    · exact .shi (by simp) sz cd sh (sh_ok o).1 hh.1 hh.2.1 hh.2.2
  · have sz : size = 8 := s8_ok P.size
    have cd : cond = 0 := c_ok P.cond
    have sh : short = false := hn (by decide) (by decide)
    have o : pushB ⟨20, size, cond, to, src, short⟩ = true := nn P.ops
    rcases (push_ok o).2 with hh | hh
    · exact .push rfl sz cd sh (push_ok o).1 hh
    · exact .pushi rfl sz cd sh (push_ok o).1 hh.1 hh.2
  · have sz : size = 8 := s8_ok P.size
    have cd : cond = 0 := c_ok P.cond
    have sh : short = false := hn (by decide) (by decide)
    have o : oneB ⟨21, size, cond, to, src, short⟩ = true := nn P.ops
    exact .pop rfl sz cd sh (one_ok o).1 (one_ok o).2
  · have sz : size = 8 := sq_ok P.size
    have cd : cond = 0 := c_ok P.cond
    have sh : short = false := hn (by decide) (by decide)
    have o : callB ⟨22, size, cond, to, src, short⟩ = true := nn P.ops
    have o2 : nearB ⟨22, size, cond, to, src, short⟩ = true ∨ oneB ⟨22, size, cond, to, src, short⟩ = true := by
      unfold callB at o
      simp at o
      exact o.2
    rcases o2 with o2 | o2
    · exact .jt (by simp) sz c0 c1 (fun _ => cd) (fun h => by rw [sh] at h; cases h) (near_ok o2).2.1 (near_ok o2).1
    · exact .jm (by simp) sz cd sh (one_ok o2).1 (one_ok o2).2
  · have sz : size = 8 := sq_ok P.size
    have cd : cond = 0 := c_ok P.cond
    have o : jmpB ⟨23, size, cond, to, src, short⟩ = true := nn P.ops
    have o2 : nearB ⟨23, size, cond, to, src, short⟩ = true ∨ (short = false ∧ oneB ⟨23, size, cond, to, src, short⟩ = true) := by
      unfold jmpB at o
      simpa using o
    rcases o2 with o2 | o2
    · exact .jt (by simp) sz c0 c1 (fun _ => cd) (fun h => ⟨by simp, (near_ok o2).2.2 h⟩) (near_ok o2).2.1 (near_ok o2).1
    · exact .jm (by simp) sz cd o2.1 (one_ok o2.2).1 (one_ok o2.2).2
  · have sz : size = 8 := sq_ok P.size
    have o : nearB ⟨24, size, cond, to, src, short⟩ = true := nn P.ops
    exact .jt (by simp) sz c0 c1 (fun h => absurd rfl h) (fun h => ⟨by simp, (near_ok o).2.2 h⟩) (near_ok o).2.1 (near_ok o).1
  · have sz : size = 0 := sq_ok P.size
    have cd : cond = 0 := c_ok P.cond
    have sh : short = false := hn (by decide) (by decide)
    have o : bareB ⟨25, size, cond, to, src, short⟩ = true := nn P.ops
    exact .bare (by simp) sz cd sh (bare_ok o).1 (bare_ok o).2
  · have sz : size = 0 := sq_ok P.size
    have cd : cond = 0 := c_ok P.cond
    have sh : short = false := hn (by decide) (by decide)
    have o : bareB ⟨26, size, cond, to, src, short⟩ = true := nn P.ops
    exact .bare (by simp) sz cd sh (bare_ok o).1 (bare_ok o).2
  · have sz : size = 1 := sq_ok P.size
    have sh : short = false := hn (by decide) (by decide)
    have o : oneB ⟨27, size, cond, to, src, short⟩ = true := nn P.ops
    exact .set rfl sz c0 c1 sh (one_ok o).1 (one_ok o).2
  · have sz : Sz4 size := s4_ok P.size
    have sh : short = false := hn (by decide) (by decide)
    have o : ldB ⟨28, size, cond, to, src, short⟩ = true := nn P.ops
    exact .ld (by simp) sz c0 c1 (fun h => absurd rfl h) sh (ld_ok o).1 (ld_ok o).2
  · have sz : Sz4 size := s4_ok P.size
    have cd : cond = 0 := c_ok P.cond
    have sh : short = false := hn (by decide) (by decide)
    have o : ldB ⟨29, size, cond, to, src, short⟩ = true := nn P.ops
    exact .ld (by simp) sz c0 c1 (fun _ => cd) sh (ld_ok o).1 (ld_ok o).2
  · have sz : Sz4 size := s4_ok P.size
    have cd : cond = 0 := c_ok P.cond
    have sh : short = false := hn (by decide) (by decide)
    have o : ldB ⟨30, size, cond, to, src, short⟩ = true := nn P.ops
    exact .ld (by simp) sz c0 c1 (fun _ => cd) sh (ld_ok o).1 (ld_ok o).2
  · have sz : Sz4 size := s4_ok P.size
    have cd : cond = 0 := c_ok P.cond
    have sh : short = false := hn (by decide) (by decide)
    have o : xchgB ⟨31, size, cond, to, src, short⟩ = true := nn P.ops
    exact .rr (by simp) (sz49 sz) (fun _ => sz) cd sh (xchg_ok o).1 (xchg_ok o).2
  · have sz : size = 0 := sq_ok P.size
    have cd : cond = 0 := c_ok P.cond
    have sh : short = false := hn (by decide) (by decide)
    have o : bareB ⟨32, size, cond, to, src, short⟩ = true := nn P.ops
    exact .bare (by simp) sz cd sh (bare_ok o).1 (bare_ok o).2
  · have sz : size = 0 := sq_ok P.size
    have cd : cond = 0 := c_ok P.cond
    have sh : short = false := hn (by decide) (by decide)
    have o : bareB ⟨33, size, cond, to, src, short⟩ = true := nn P.ops
    exact .bare (by simp) sz cd sh (bare_ok o).1 (bare_ok o).2
  · have sz : size = 0 := sq_ok P.size
    have cd : cond = 0 := c_ok P.cond
    have sh : short = false := hn (by decide) (by decide)
    have o : bareB ⟨34, size, cond, to, src, short⟩ = true := nn P.ops
    exact .bare (by simp) sz cd sh (bare_ok o).1 (bare_ok o).2
  · have sz : size = 0 := sq_ok P.size
    have cd : cond = 0 := c_ok P.cond
    have sh : short = false := hn (by decide) (by decide)
    have o : bareB ⟨35, size, cond, to, src, short⟩ = true := nn P.ops
    exact .bare (by simp) sz cd sh (bare_ok o).1 (bare_ok o).2
end Go.Proofs.Ythmighgfefjcmaa.Enc
end

section
/- Written by vc.py: what is to be shown, read out. No condition. -/
set_option maxRecDepth 1000000
set_option maxHeartbeats 0
namespace Go.Proofs.Ythmighgfefjcmaa.Enc
open Go.RowKit Go.Proofs.Ythmighgfefjcmaa.X
theorem bytes_goal (σ : Dt) (α : At') : (cBytes.goal Try.prog Lchk.mk' 3000 Try.f9 σ α) = (
let x0 := (Ins.mk (σ.I 0) (σ.I 1) (σ.I 2) (Opd.mk (σ.I 3) (σ.I 4) (σ.I 5) (σ.I 6) (σ.I 7) (σ.B 8) (σ.B 9) (σ.I 10) (σ.S 11) (σ.I 12)) (Opd.mk (σ.I 13) (σ.I 14) (σ.I 15) (σ.I 16) (σ.I
    17) (σ.B 18) (σ.B 19) (σ.I 20) (σ.S 21) (σ.I 22)) (σ.B 23));
let x1 := bif chkB x0 then (0 : Int) else (30 : Int);
let x2 := x1 != (0 : Int);
let x3 := σ.I 0 == (1 : Int);
let x4 := σ.I 0 == (11 : Int);
let x5 := bif x3 then x3 else bif x4 then x4 else σ.I 0 == (31 : Int);
let x6 := sumE x0;
let x7 := rowsB x6.pre;
let x8 := x7.length;
let x9 := rowsB x6.op;
let x10 := x9.length;
let x11 := rowsB x6.tail;
let x12 := x11.length;
let x13 := rowsB x6.number;
let x14 := x13.length;
let x15 := rowsH x6.holes;
let x16 := x15.length;
let x17 := x6.rex;
let x18 := x7 ++ rowsB (rexL x17 x6.force) ++ x9;
let x19 := x18 ++ x11;
let x20 := x19 ++ x13;
let x21 := x20.length;
let x22 := x6.inTail;
let x23 := movRs x22 (finAt x22 x18.length x19.length) (↑x21 : Int) 0 x15;
let x24 := (True ∧ sumOk x0) ∧ ((((((True ∧ x8 = x8) ∧ x10 = x10) ∧ x12 = x12) ∧ x14 = x14) ∧ x16 = x16) ∧ (0 : Int) ≤ x17 ∧ x17 ≤ (15 : Int) ∧ x8 ≤ 10 ∧ x10 ≤ 10 ∧ x12 ≤ 10 ∧ x14 ≤ 10 ∧ ∃ l, x15 = rowsH l ∧ l.length ≤ 1 ∧ ∀ (h : Hol), h ∈ l → (0 : Int) ≤ h.at_ ∧ h.at_ ≤ (100 : Int)) ∧ True ∧ (chkB
    (ins σ 0) = true → Ex.ret = Ex.ret ∧ true = true ∧ (True ∧ x21 = x21 ∧ x20 = rowsB (encI (ins σ 0)).bytes) ∧ x16 = x23.length ∧ x23 = rowsH (encI (ins σ 0)).hols) ∧ (chkB (ins σ 0) = false → Ex.ret = Ex.ret ∧ true = true ∧ False);
let x25 := σ.I 0 == (3 : Int);
let x26 := σ.I 0 == (4 : Int);
let x27 := σ.I 0 == (5 : Int);
let x28 := σ.I 0 == (6 : Int);
let x29 := σ.I 0 == (7 : Int);
let x30 := σ.I 0 == (8 : Int);
let x31 := σ.I 0 == (9 : Int);
let x32 := bif x25 then x25 else bif x26 then x26 else bif x27 then x27 else bif x28 then x28 else bif x29 then x29 else bif x30 then x30 else bif x31 then x31 else σ.I 0 == (10 : Int);
let x33 := σ.I 0 == (17 : Int);
let x34 := σ.I 0 == (18 : Int);
let x35 := bif x33 then x33 else bif x34 then x34 else σ.I 0 == (19 : Int);
let x36 := shE x0;
let x37 := rowsB x36.pre;
let x38 := x37.length;
let x39 := rowsB x36.op;
let x40 := x39.length;
let x41 := rowsB x36.tail;
let x42 := x41.length;
let x43 := rowsB x36.number;
let x44 := x43.length;
let x45 := rowsH x36.holes;
let x46 := x45.length;
let x47 := x36.rex;
let x48 := x37 ++ rowsB (rexL x47 x36.force) ++ x39;
let x49 := x48 ++ x41;
let x50 := x49 ++ x43;
let x51 := x50.length;
let x52 := x36.inTail;
let x53 := movRs x52 (finAt x52 x48.length x49.length) (↑x51 : Int) 0 x45;
let x54 := σ.I 0 == (20 : Int);
let x55 := bif x54 then x54 else σ.I 0 == (21 : Int);
let x56 := stE x0;
let x57 := rowsB x56.pre;
let x58 := x57.length;
let x59 := rowsB x56.op;
let x60 := x59.length;
let x61 := rowsB x56.tail;
let x62 := x61.length;
let x63 := rowsB x56.number;
let x64 := x63.length;
let x65 := rowsH x56.holes;
let x66 := x65.length;
let x67 := x56.rex;
let x68 := x57 ++ rowsB (rexL x67 x56.force) ++ x59;
let x69 := x68 ++ x61;
let x70 := x69 ++ x63;
let x71 := x70.length;
let x72 := x56.inTail;
let x73 := movRs x72 (finAt x72 x68.length x69.length) (↑x71 : Int) 0 x65;
let x74 := σ.I 0 == (22 : Int);
let x75 := σ.I 0 == (23 : Int);
let x76 := bif x74 then x74 else bif x75 then x75 else σ.I 0 == (24 : Int);
let x77 := jE x0;
let x78 := rowsB x77.pre;
let x79 := x78.length;
let x80 := rowsB x77.op;
let x81 := x80.length;
let x82 := rowsB x77.tail;
let x83 := x82.length;
let x84 := rowsB x77.number;
let x85 := x84.length;
let x86 := rowsH x77.holes;
let x87 := x86.length;
let x88 := x77.rex;
let x89 := x78 ++ rowsB (rexL x88 x77.force) ++ x80;
let x90 := x89 ++ x82;
let x91 := x90 ++ x84;
let x92 := x91.length;
let x93 := x77.inTail;
let x94 := movRs x93 (finAt x93 x89.length x90.length) (↑x92 : Int) 0 x86;
let x95 := otE x0;
let x96 := rowsB x95.pre;
let x97 := x96.length;
let x98 := rowsB x95.op;
let x99 := x98.length;
let x100 := rowsB x95.tail;
let x101 := x100.length;
let x102 := rowsB x95.number;
let x103 := x102.length;
let x104 := rowsH x95.holes;
let x105 := x104.length;
let x106 := x95.rex;
let x107 := x96 ++ rowsB (rexL x106 x95.force) ++ x98;
let x108 := x107 ++ x100;
let x109 := x108 ++ x102;
let x110 := x109.length;
let x111 := x95.inTail;
let x112 := movRs x111 (finAt x111 x107.length x108.length) (↑x110 : Int) 0 x104;
(True ∧ True) ∧ (x2 = true → True ∧ (chkB (ins σ 0) = true → Ex.ret = Ex.ret ∧ true = true ∧ ((True ∧ 0 = 0 ∧ [] = rowsB (encI (ins σ 0)).bytes) ∧ 0 = 0 ∧ [] = rowsH (encI (ins σ 0)).hols) ∧ Value.int IntKind.i64 x1 = Value.int IntKind.i64 (0 : Int)) ∧ (chkB (ins σ 0) = false → Ex.ret = Ex.ret ∧
    true = true ∧ True ∧ Value.int IntKind.i64 x1 = Value.int IntKind.i64 (30 : Int))) ∧ (x2 = false → (x5 = true → x24) ∧ (x5 = false → (x32 = true → x24) ∧ (x32 = false → (x35 = true → (True ∧ (17 : Int) ≤ σ.I 0 ∧ σ.I 0 ≤ (19 : Int) ∧ rmOk x0.to) ∧ ((((((True ∧ x38 = x38) ∧ x40 = x40) ∧ x42 = x42)
    ∧ x44 = x44) ∧ x46 = x46) ∧ (0 : Int) ≤ x47 ∧ x47 ≤ (15 : Int) ∧ x38 ≤ 10 ∧ x40 ≤ 10 ∧ x42 ≤ 10 ∧ x44 ≤ 10 ∧ ∃ l, x45 = rowsH l ∧ l.length ≤ 1 ∧ ∀ (h : Hol), h ∈ l → (0 : Int) ≤ h.at_ ∧ h.at_ ≤ (100 : Int)) ∧ True ∧ (chkB (ins σ 0) = true → Ex.ret = Ex.ret ∧ true = true ∧ (True ∧ x51 = x51 ∧ x50
    = rowsB (encI (ins σ 0)).bytes) ∧ x46 = x53.length ∧ x53 = rowsH (encI (ins σ 0)).hols) ∧ (chkB (ins σ 0) = false → Ex.ret = Ex.ret ∧ true = true ∧ False)) ∧ (x35 = false → (x55 = true → (True ∧ stOk x0) ∧ ((((((True ∧ x58 = x58) ∧ x60 = x60) ∧ x62 = x62) ∧ x64 = x64) ∧ x66 = x66) ∧ (0 : Int) ≤
    x67 ∧ x67 ≤ (15 : Int) ∧ x58 ≤ 10 ∧ x60 ≤ 10 ∧ x62 ≤ 10 ∧ x64 ≤ 10 ∧ ∃ l, x65 = rowsH l ∧ l.length ≤ 1 ∧ ∀ (h : Hol), h ∈ l → (0 : Int) ≤ h.at_ ∧ h.at_ ≤ (100 : Int)) ∧ True ∧ (chkB (ins σ 0) = true → Ex.ret = Ex.ret ∧ true = true ∧ (True ∧ x71 = x71 ∧ x70 = rowsB (encI (ins σ 0)).bytes) ∧ x66 =
    x73.length ∧ x73 = rowsH (encI (ins σ 0)).hols) ∧ (chkB (ins σ 0) = false → Ex.ret = Ex.ret ∧ true = true ∧ False)) ∧ (x55 = false → (x76 = true → (True ∧ jOk x0) ∧ ((((((True ∧ x79 = x79) ∧ x81 = x81) ∧ x83 = x83) ∧ x85 = x85) ∧ x87 = x87) ∧ (0 : Int) ≤ x88 ∧ x88 ≤ (15 : Int) ∧ x79 ≤ 10 ∧ x81 ≤
    10 ∧ x83 ≤ 10 ∧ x85 ≤ 10 ∧ ∃ l, x86 = rowsH l ∧ l.length ≤ 1 ∧ ∀ (h : Hol), h ∈ l → (0 : Int) ≤ h.at_ ∧ h.at_ ≤ (100 : Int)) ∧ True ∧ (chkB (ins σ 0) = true → Ex.ret = Ex.ret ∧ true = true ∧ (True ∧ x92 = x92 ∧ x91 = rowsB (encI (ins σ 0)).bytes) ∧ x87 = x94.length ∧ x94 = rowsH (encI (ins σ
    0)).hols) ∧ (chkB (ins σ 0) = false → Ex.ret = Ex.ret ∧ true = true ∧ False)) ∧ (x76 = false → (True ∧ otOk x0) ∧ ((((((True ∧ x97 = x97) ∧ x99 = x99) ∧ x101 = x101) ∧ x103 = x103) ∧ x105 = x105) ∧ (0 : Int) ≤ x106 ∧ x106 ≤ (15 : Int) ∧ x97 ≤ 10 ∧ x99 ≤ 10 ∧ x101 ≤ 10 ∧ x103 ≤ 10 ∧ ∃ l, x104 =
    rowsH l ∧ l.length ≤ 1 ∧ ∀ (h : Hol), h ∈ l → (0 : Int) ≤ h.at_ ∧ h.at_ ≤ (100 : Int)) ∧ True ∧ (chkB (ins σ 0) = true → Ex.ret = Ex.ret ∧ true = true ∧ (True ∧ x110 = x110 ∧ x109 = rowsB (encI (ins σ 0)).bytes) ∧ x105 = x112.length ∧ x112 = rowsH (encI (ins σ 0)).hols) ∧ (chkB (ins σ 0) = false
    → Ex.ret = Ex.ret ∧ true = true ∧ False)))))))) := by kernel_rfl

end Go.Proofs.Ythmighgfefjcmaa.Enc
end

section
/- The bytes and the hole of an instruction: shown. No condition. -/
set_option maxRecDepth 100000
namespace Go.Proofs.Ythmighgfefjcmaa.Enc
open Go.RowKit Go.Proofs.Ythmighgfefjcmaa.X Go.IntWalk

theorem bif_or (a b : Bool) : (bif a then a else b) = (a || b) := by cases a <;> rfl
theorem isSums_iff (op : Int) : isSums op = true ↔ (op = 1 ∨ op = 11 ∨ op = 31 ∨ (3 ≤ op ∧ op ≤ 10)) := by
  unfold isSums; simp [or_assoc]
theorem isSh_iff (op : Int) : isSh op = true ↔ 17 ≤ op ∧ op ≤ 19 := by
  unfold isSh; simp only [bif_or, Bool.or_eq_true, beq_iff_eq]; omega
theorem enc_sum {i : Ins} (h : i.op = 1 ∨ i.op = 11 ∨ i.op = 31 ∨ (3 ≤ i.op ∧ i.op ≤ 10)) : encI i = sumE i := by
  unfold encI; rw [(isSums_iff i.op).2 h]; rfl
theorem nsum {i : Ins} (h : ¬(i.op = 1 ∨ i.op = 11 ∨ i.op = 31 ∨ (3 ≤ i.op ∧ i.op ≤ 10))) : isSums i.op = false := by
  cases hh : isSums i.op with
  | false => rfl
  | true => exact absurd ((isSums_iff i.op).1 hh) h
theorem nsh {i : Ins} (h : ¬(17 ≤ i.op ∧ i.op ≤ 19)) : isSh i.op = false := by
  cases hh : isSh i.op with
  | false => rfl
  | true => exact absurd ((isSh_iff i.op).1 hh) h
theorem enc_sh {i : Ins} (h : 17 ≤ i.op ∧ i.op ≤ 19) : encI i = shE i := by
  unfold encI; rw [nsum (by omega), (isSh_iff i.op).2 h]; rfl
theorem enc_st {i : Ins} (h : i.op = 20 ∨ i.op = 21) : encI i = stE i := by
  unfold encI; rw [nsum (by omega), nsh (by omega), show (i.op == 20 || i.op == 21) = true by simp [h]]; rfl
theorem enc_j {i : Ins} (h : i.op = 22 ∨ i.op = 23 ∨ i.op = 24) : encI i = jE i := by
  unfold encI; rw [nsum (by omega), nsh (by omega), show (i.op == 20 || i.op == 21) = false by simp; omega, show (i.op == 22 || i.op == 23 || i.op == 24) = true by simp [or_assoc, h]]; rfl
theorem enc_ot {i : Ins} (h0 : ¬(i.op = 1 ∨ i.op = 11 ∨ i.op = 31 ∨ (3 ≤ i.op ∧ i.op ≤ 10))) (h1 : ¬(17 ≤ i.op ∧ i.op ≤ 19)) (h2 : ¬(i.op = 20 ∨ i.op = 21)) (h3 : ¬(i.op = 22 ∨ i.op = 23 ∨ i.op = 24)) : encI i = otE i := by
  unfold encI; rw [nsum h0, nsh h1, show (i.op == 20 || i.op == 21) = false by simp; omega, show (i.op == 22 || i.op == 23 || i.op == 24) = false by simp; omega]; rfl
theorem rmO_ok {o : Opd} (h : RmO o) : rmOk o := h.elim rmOk_reg rmOk_mem
theorem isR_reg {o : Opd} (h : RegO o) : isR o = true := by unfold isR; rw [h.kind]; rfl
theorem isR_mem {o : Opd} (h : MemO o) : isR o = false := by unfold isR; rw [h.kind]; rfl
theorem isR_imm {o : Opd} (h : ImmO o) : isR o = false := by unfold isR; rw [h.kind]; rfl
theorem isR_tgt {o : Opd} (h : TgtO o) : isR o = false := by unfold isR; rw [h.kind]; rfl
theorem isI_reg {o : Opd} (h : RegO o) : isI o = false := by unfold isI; rw [h.kind]; rfl
theorem isI_mem {o : Opd} (h : MemO o) : isI o = false := by unfold isI; rw [h.kind]; rfl
theorem isI_imm {o : Opd} (h : ImmO o) : isI o = true := by unfold isI; rw [h.kind]; rfl
theorem isM_imm {o : Opd} (h : ImmO o) : isM o = false := by unfold isM; rw [h.kind]; rfl
theorem isM_mem {o : Opd} (h : MemO o) : isM o = true := by unfold isM; rw [h.kind]; rfl
theorem isM_reg {o : Opd} (h : RegO o) : isM o = false := by unfold isM; rw [h.kind]; rfl
theorem isT_rm {o : Opd} (h : RmO o) : isT o = false := by
  unfold isT; rcases h with h | h <;> rw [h.kind] <;> rfl
theorem isT_tgt {o : Opd} (h : TgtO o) : isT o = true := by unfold isT; rw [h.kind]; rfl

theorem form_sum {i : Ins} (f : Form i) (h : i.op = 1 ∨ i.op = 11 ∨ i.op = 31 ∨ (3 ≤ i.op ∧ i.op ≤ 10)) : sumOk i := by
  cases f with
  | rr op sz sz2 cd sh to src => exact ⟨h, sz, by rw [isI_reg src, isR_reg src]; exact ⟨src.r0, src.r1, rmO_ok to⟩⟩
  | rm op sz cd sh to src => exact ⟨h, sz, by rw [isI_mem src, isR_mem src]; exact ⟨to.r0, to.r1, rmOk_mem src⟩⟩
  | ri op sz cd sh to src fits => exact ⟨h, sz, by rw [isI_imm src]; exact ⟨by omega, sz, rmO_ok to⟩⟩
  | mi op sz cd sh to src => exact ⟨h, .inr (.inr sz), by rw [isI_imm src]; exact ⟨by omega, .inr (.inr sz), rmOk_reg to⟩⟩
  | _ => omega
theorem form_sh {i : Ins} (f : Form i) (h : 17 ≤ i.op ∧ i.op ≤ 19) : rmOk i.to := by
  cases f with
  | shr op sz cd sh to src r => exact rmO_ok to
  | shi op sz cd sh to src r => exact rmO_ok to
  | _ => omega
theorem form_st {i : Ins} (f : Form i) (h : i.op = 20 ∨ i.op = 21) : stOk i := by
  cases f with
  | push op sz cd sh to src => exact .inl ⟨op, fun _ => rmO_ok src⟩
  | pushi op sz cd sh to src w => exact .inl ⟨op, fun h => by rw [isR_imm src, isM_imm src] at h; cases h with | inl h => cases h | inr h => cases h⟩
  | pop op sz cd sh to src => exact .inr ⟨op, rmO_ok to⟩
  | _ => omega
theorem form_j {i : Ins} (f : Form i) (h : i.op = 22 ∨ i.op = 23 ∨ i.op = 24) : jOk i := by
  cases f with
  | jt op sz c0 c1 cd sh to src => exact ⟨c0, c1, fun h => by rw [isT_tgt to] at h; cases h⟩
  | jm op sz cd sh to src => exact ⟨by omega, by omega, fun _ => ⟨op, rmO_ok to⟩⟩
  | _ => omega
theorem form_ot {i : Ins} (f : Form i) (h0 : ¬(i.op = 1 ∨ i.op = 11 ∨ i.op = 31 ∨ (3 ≤ i.op ∧ i.op ≤ 10))) (h1 : ¬(17 ≤ i.op ∧ i.op ≤ 19)) (h2 : ¬(i.op = 20 ∨ i.op = 21)) (h3 : ¬(i.op = 22 ∨ i.op = 23 ∨ i.op = 24)) : otOk i ∧ EncOk (otE i) := by
  cases f with
  | lea op sz cd sh to src fs =>
    refine ⟨⟨by omega, by omega, fun _ => ⟨to.r0, to.r1, rmOk_mem src⟩, fun h => by omega⟩, ?_⟩
    unfold otE; rw [op]
    exact ok_reg _ _ _ _ (by simp) (by simp)
  | ld op sz c0 c1 cd sh to src =>
    refine ⟨⟨by omega, by omega, fun _ => ⟨to.r0, to.r1, rmO_ok src⟩, fun h => by omega⟩, ?_⟩
    unfold otE
    rcases op with op | op | op | op <;> rw [op] <;> exact ok_reg _ _ _ _ (by simp) (by simp)
  | one op sz cd sh to src =>
    refine ⟨⟨by omega, by omega, fun h => by omega, fun _ => rmO_ok to⟩, ?_⟩
    have : i.op = 13 ∨ i.op = 14 ∨ i.op = 15 ∨ i.op = 16 := by omega
    unfold otE
    rcases this with op | op | op | op <;> rw [op] <;> exact ok_grp _ _ _ _ _ (by simp)
  | set op sz c0 c1 sh to src =>
    refine ⟨⟨by omega, by omega, fun h => by omega, fun _ => rmO_ok to⟩, ?_⟩
    unfold otE; rw [op]
    exact ok_rm _ _ _ (by simp) (by simp)
  | bare op sz cd sh to src =>
    refine ⟨⟨by omega, by omega, fun h => by omega, fun h => by omega⟩, ?_⟩
    have : i.op = 25 ∨ i.op = 26 ∨ i.op = 32 ∨ i.op = 33 ∨ i.op = 34 ∨ i.op = 35 := by omega
    unfold otE
    rcases this with op | op | op | op | op | op <;> rw [op] <;> exact ok_p ⟨by decide, by decide⟩ (by simp) (by simp) (by simp) no_holes
  | _ => omega

theorem rowsB_app (a b : List Int) : rowsB (a ++ b) = rowsB a ++ rowsB b := List.map_append
theorem rowsH_len (a : List Hol) : (rowsH a).length = a.length := List.length_map _
theorem rows_bytes (e : Enc) : rowsB e.pre ++ rowsB (rexL e.rex e.force) ++ rowsB e.op ++ rowsB e.tail ++ rowsB e.number = rowsB e.bytes := by
  unfold Enc.bytes Enc.front; simp only [rowsB_app]
theorem rows_hols (e : Enc) : movRs e.inTail (finAt e.inTail (rowsB e.pre ++ rowsB (rexL e.rex e.force) ++ rowsB e.op).length (rowsB e.pre ++ rowsB (rexL e.rex e.force) ++ rowsB e.op ++ rowsB e.tail).length) ((rowsB e.pre ++ rowsB (rexL e.rex e.force) ++ rowsB e.op ++ rowsB e.tail ++ rowsB e.number).length : Int) 0 (rowsH e.holes) = rowsH e.hols := by
  rw [rows_bytes]
  unfold movRs Enc.hols Enc.at_ Enc.front
  simp only [← rowsB_app, rowsB_len]
  simp only [rowsH, List.take_zero, List.nil_append, List.drop_zero, List.map_map]
  rfl
/-- The end of each way of writing. -/
theorem bytes_fin {e : Enc} (ok : EncOk e) {A B : Prop} {C : Bool} (hC : C = true) (hA : A) (e' : Enc) (he : e' = e) :
    let x7 := rowsB e.pre
    let x9 := rowsB e.op
    let x11 := rowsB e.tail
    let x13 := rowsB e.number
    let x15 := rowsH e.holes
    let x18 := x7 ++ rowsB (rexL e.rex e.force) ++ x9
    let x19 := x18 ++ x11
    let x20 := x19 ++ x13
    let x23 := movRs e.inTail (finAt e.inTail x18.length x19.length) (↑x20.length : Int) 0 x15
    (True ∧ A) ∧ ((((((True ∧ x7.length = x7.length) ∧ x9.length = x9.length) ∧ x11.length = x11.length) ∧ x13.length = x13.length) ∧ x15.length = x15.length) ∧ (0 : Int) ≤ e.rex ∧ e.rex ≤ (15 : Int) ∧ x7.length ≤ 10 ∧ x9.length ≤ 10 ∧ x11.length ≤ 10 ∧ x13.length ≤ 10 ∧ ∃ l, x15 = rowsH l ∧ l.length ≤ 1 ∧ ∀ (h : Hol), h ∈ l → (0 : Int) ≤ h.at_ ∧ h.at_ ≤ (100 : Int)) ∧ True ∧
    (C = true → Ex.ret = Ex.ret ∧ true = true ∧ (True ∧ x20.length = x20.length ∧ x20 = rowsB e'.bytes) ∧ x15.length = x23.length ∧ x23 = rowsH e'.hols) ∧ (C = false → Ex.ret = Ex.ret ∧ true = true ∧ B) := by
  intro x7 x9 x11 x13 x15 x18 x19 x20 x23
  subst he
  have h1 : x20 = rowsB e'.bytes := rows_bytes e'
  have h2 : x23 = rowsH e'.hols := rows_hols e'
  refine ⟨⟨trivial, hA⟩, ⟨⟨⟨⟨⟨⟨trivial, rfl⟩, rfl⟩, rfl⟩, rfl⟩, rfl⟩, ok.r0, ok.r1, ?_, ?_, ?_, ?_, e'.holes, rfl, ok.h1, ok.hat⟩, trivial, fun _ => ⟨rfl, rfl, ⟨trivial, rfl, h1⟩, ?_, h2⟩, fun h => by rw [hC] at h; cases h⟩
  · show (rowsB _).length ≤ 10; rw [rowsB_len]; have := ok.pre; omega
  · show (rowsB _).length ≤ 10; rw [rowsB_len]; have := ok.op1; omega
  · show (rowsB _).length ≤ 10; rw [rowsB_len]; have := ok.tail; omega
  · show (rowsB _).length ≤ 10; rw [rowsB_len]; have := ok.number; omega
  · rw [h2]; show (rowsH _).length = _; rw [rowsH_len, rowsH_len]; unfold Enc.hols; rw [List.length_map]

set_option maxHeartbeats 4000000 in
theorem good_bytes : Lib.Good Try.prog Lbytes := lib_con good_chk Try.func9 cBytes 3000 fun σ α _ => by
  rw [bytes_goal]
  intro x0 x1 x2 x3 x4 x5 x6 x7 x8 x9 x10 x11 x12 x13 x14 x15 x16 x17 x18 x19 x20 x21 x22 x23 x24 x25 x26 x27 x28 x29 x30 x31 x32 x33 x34 x35 x36 x37 x38 x39 x40 x41 x42 x43 x44 x45 x46 x47 x48 x49 x50 x51 x52 x53 x54 x55 x56 x57 x58 x59 x60 x61 x62 x63 x64 x65 x66 x67 x68 x69 x70 x71 x72 x73 x74 x75 x76 x77 x78 x79 x80 x81 x82 x83 x84 x85 x86 x87 x88 x89 x90 x91 x92 x93 x94 x95 x96 x97 x98 x99 x100 x101 x102 x103 x104 x105 x106 x107 x108 x109 x110 x111 x112
  have e0 : ins σ 0 = x0 := rfl
  refine ⟨⟨trivial, trivial⟩, fun h2 => ?_, fun h2 => ?_⟩
  · have hc : chkB x0 = false := by
      cases h : chkB x0 with
      | false => rfl
      | true => have : ((bif chkB x0 then (0 : Int) else 30) != 0) = true := h2; rw [h] at this; cases this
    have h1 : x1 = 30 := by show (bif chkB x0 then (0 : Int) else 30) = 30; rw [hc]; rfl
    refine ⟨trivial, fun h => absurd (show chkB x0 = true from h) (by rw [hc]; decide), fun _ => ⟨rfl, rfl, trivial, by rw [h1]⟩⟩
  · have hc : chkB x0 = true := by
      cases h : chkB x0 with
      | true => rfl
      | false => have : ((bif chkB x0 then (0 : Int) else 30) != 0) = false := h2; rw [h] at this; cases this
    have f := chk_form hc
    have eop : x0.op = σ.I 0 := rfl
    refine ⟨fun c1 => ?_, fun c1 => ⟨fun c2 => ?_, fun c2 => ⟨fun c3 => ?_, fun c3 => ⟨fun c4 => ?_, fun c4 => ⟨fun c5 => ?_, fun c5 => ?_⟩⟩⟩⟩⟩
    · have hs : x0.op = 1 ∨ x0.op = 11 ∨ x0.op = 31 := by
        have : (bif σ.I 0 == 1 then σ.I 0 == 1 else bif σ.I 0 == 11 then σ.I 0 == 11 else σ.I 0 == 31) = true := c1
        rw [eop]; revert this; cases h1 : σ.I 0 == 1 <;> cases h2 : σ.I 0 == 11 <;> simp_all
      have hs' : x0.op = 1 ∨ x0.op = 11 ∨ x0.op = 31 ∨ (3 ≤ x0.op ∧ x0.op ≤ 10) := by omega
      exact bytes_fin (ok_sum x0) hc (form_sum f hs') (encI x0) (enc_sum hs')
    · have hs : 3 ≤ x0.op ∧ x0.op ≤ 10 := by
        have : (bif σ.I 0 == 3 then σ.I 0 == 3 else bif σ.I 0 == 4 then σ.I 0 == 4 else bif σ.I 0 == 5 then σ.I 0 == 5 else bif σ.I 0 == 6 then σ.I 0 == 6 else bif σ.I 0 == 7 then σ.I 0 == 7 else bif σ.I 0 == 8 then σ.I 0 == 8 else bif σ.I 0 == 9 then σ.I 0 == 9 else σ.I 0 == 10) = true := c2
        rw [eop]; generalize σ.I 0 = k at this
        simp only [bif_or, Bool.or_eq_true, beq_iff_eq] at this
        omega
      have hs' : x0.op = 1 ∨ x0.op = 11 ∨ x0.op = 31 ∨ (3 ≤ x0.op ∧ x0.op ≤ 10) := by omega
      exact bytes_fin (ok_sum x0) hc (form_sum f hs') (encI x0) (enc_sum hs')
    · have hs : 17 ≤ x0.op ∧ x0.op ≤ 19 := by
        have : (bif σ.I 0 == 17 then σ.I 0 == 17 else bif σ.I 0 == 18 then σ.I 0 == 18 else σ.I 0 == 19) = true := c3
        rw [eop]; generalize σ.I 0 = k at this
        simp only [bif_or, Bool.or_eq_true, beq_iff_eq] at this
        omega
      exact bytes_fin (ok_sh x0) hc ⟨hs.1, hs.2, form_sh f hs⟩ (encI x0) (enc_sh hs)
    · have hs : x0.op = 20 ∨ x0.op = 21 := by
        have : (bif σ.I 0 == 20 then σ.I 0 == 20 else σ.I 0 == 21) = true := c4
        rw [eop]; generalize σ.I 0 = k at this
        simp only [bif_or, Bool.or_eq_true, beq_iff_eq] at this
        omega
      exact bytes_fin (ok_st x0) hc (form_st f hs) (encI x0) (enc_st hs)
    · have hs : x0.op = 22 ∨ x0.op = 23 ∨ x0.op = 24 := by
        have : (bif σ.I 0 == 22 then σ.I 0 == 22 else bif σ.I 0 == 23 then σ.I 0 == 23 else σ.I 0 == 24) = true := c5
        rw [eop]; generalize σ.I 0 = k at this
        simp only [bif_or, Bool.or_eq_true, beq_iff_eq] at this
        omega
      exact bytes_fin (ok_j x0) hc (form_j f hs) (encI x0) (enc_j hs)
    · have a1 : (bif σ.I 0 == 1 then σ.I 0 == 1 else bif σ.I 0 == 11 then σ.I 0 == 11 else σ.I 0 == 31) = false := c1
      have a2 : (bif σ.I 0 == 3 then σ.I 0 == 3 else bif σ.I 0 == 4 then σ.I 0 == 4 else bif σ.I 0 == 5 then σ.I 0 == 5 else bif σ.I 0 == 6 then σ.I 0 == 6 else bif σ.I 0 == 7 then σ.I 0 == 7 else bif σ.I 0 == 8 then σ.I 0 == 8 else bif σ.I 0 == 9 then σ.I 0 == 9 else σ.I 0 == 10) = false := c2
      have a3 : (bif σ.I 0 == 17 then σ.I 0 == 17 else bif σ.I 0 == 18 then σ.I 0 == 18 else σ.I 0 == 19) = false := c3
      have a4 : (bif σ.I 0 == 20 then σ.I 0 == 20 else σ.I 0 == 21) = false := c4
      have a5 : (bif σ.I 0 == 22 then σ.I 0 == 22 else bif σ.I 0 == 23 then σ.I 0 == 23 else σ.I 0 == 24) = false := c5
      simp only [bif_or, Bool.or_eq_false_iff, beq_eq_false_iff_ne] at a1 a2 a3 a4 a5
      have b1 : ¬(x0.op = 1 ∨ x0.op = 11 ∨ x0.op = 31 ∨ (3 ≤ x0.op ∧ x0.op ≤ 10)) := by rw [eop]; omega
      have b2 : ¬(17 ≤ x0.op ∧ x0.op ≤ 19) := by rw [eop]; omega
      have b3 : ¬(x0.op = 20 ∨ x0.op = 21) := by rw [eop]; omega
      have b4 : ¬(x0.op = 22 ∨ x0.op = 23 ∨ x0.op = 24) := by rw [eop]; omega
      have fo := form_ot f b1 b2 b3 b4
      exact bytes_fin fo.2 hc fo.1 (encI x0) (enc_ot b1 b2 b3 b4)
end Go.Proofs.Ythmighgfefjcmaa.Enc
end

section
/- What bytes are made of: no two ways. No condition. -/
set_option maxRecDepth 100000
namespace Go.Proofs.Ythmighgfefjcmaa.Enc
open Go.RowKit Go.Proofs.Ythmighgfefjcmaa.X Go.IntWalk

/-- What an instruction's bytes are made of. -/
structure Pc where
  fs : Bool
  rex : Int
  op : List Int
  tail : List Int
  num : List Int
def fsL (fs : Bool) : List Int := bif fs then [100] else []
def rxL (rex : Int) : List Int := if rex = 0 then [] else [rex]
def Pc.flat (p : Pc) : List Int := fsL p.fs ++ (rxL p.rex ++ (p.op ++ (p.tail ++ p.num)))
def hasM1 (o : Int) : Prop := o < 64 ∨ (128 ≤ o ∧ o ≤ 143) ∨ o = 192 ∨ o = 193 ∨ o = 198 ∨ o = 199 ∨ o = 210 ∨ o = 211 ∨ o = 246 ∨ o = 247 ∨ o = 254 ∨ o = 255
def hasM2 (o : Int) : Prop := (64 ≤ o ∧ o < 80) ∨ (144 ≤ o ∧ o < 160) ∨ o = 175 ∨ o = 182 ∨ o = 190
def hasM : List Int → Prop
  | [o] => hasM1 o
  | [_, o] => hasM2 o
  | _ => False
def dlen (md : Int) (r : Int) : Nat := if md = 0 then (if r = 5 then 4 else 0) else if md = 1 then 1 else 4
def tlen (t : List Int) : Nat :=
  if t.getD 0 0 / 64 = 3 then 1 else if t.getD 0 0 % 8 = 4 then 2 + dlen (t.getD 0 0 / 64) (t.getD 1 0 % 8) else 1 + dlen (t.getD 0 0 / 64) (t.getD 0 0 % 8)
def regT (t : List Int) : Int := t.getD 0 0 / 8 % 8
def nlen1 (o rex reg : Int) : Nat :=
  if o = 128 ∨ o = 131 ∨ o = 192 ∨ o = 193 ∨ o = 198 ∨ o = 106 ∨ o = 235 ∨ (112 ≤ o ∧ o ≤ 127) ∨ (176 ≤ o ∧ o ≤ 183) then 1
  else if o = 129 ∨ o = 199 ∨ o = 104 ∨ o = 232 ∨ o = 233 then 4
  else if 184 ≤ o ∧ o ≤ 191 then (if rex / 8 % 2 = 1 then 8 else 4)
  else if o = 246 then (if reg = 0 then 1 else 0)
  else if o = 247 then (if reg = 0 then 4 else 0) else 0
def nlen2 (o : Int) : Nat := if 128 ≤ o ∧ o ≤ 143 then 4 else 0
def nlen (op : List Int) (rex reg : Int) : Nat :=
  match op with
  | [o] => nlen1 o rex reg
  | [_, o] => nlen2 o
  | _ => 0
def InB (l : List Int) : Prop := ∀ x ∈ l, 0 ≤ x ∧ x ≤ 255
structure Pc.Wf (p : Pc) : Prop where
  rex : p.rex = 0 ∨ (64 ≤ p.rex ∧ p.rex ≤ 79)
  op : (∃ o, p.op = [o] ∧ o ≠ 15 ∧ o ≠ 100 ∧ ¬(64 ≤ o ∧ o ≤ 79) ∧ 0 ≤ o ∧ o ≤ 255) ∨ (∃ o, p.op = [15, o] ∧ 0 ≤ o ∧ o ≤ 255)
  m : hasM p.op → p.tail ≠ [] ∧ p.tail.length = tlen p.tail
  nm : ¬hasM p.op → p.tail = []
  num : p.num.length = nlen p.op p.rex (regT p.tail)
  tb : InB p.tail
  nb : InB p.num

theorem opt_inj {C : Int → Prop} {u v s t : List Int} (hu : u = [] ∨ ∃ c, u = [c] ∧ C c) (hv : v = [] ∨ ∃ c, v = [c] ∧ C c) (hs : ∃ o r, s = o :: r ∧ ¬C o) (ht : ∃ o r, t = o :: r ∧ ¬C o) (h : u ++ s = v ++ t) : u = v ∧ s = t := by
  obtain ⟨o1, r1, rfl, hs⟩ := hs
  obtain ⟨o2, r2, rfl, ht⟩ := ht
  rcases hu with rfl | ⟨c1, rfl, hu⟩ <;> rcases hv with rfl | ⟨c2, rfl, hv⟩ <;> simp only [List.nil_append, List.cons_append, List.cons.injEq] at h ⊢
  · exact ⟨trivial, h⟩
  · rw [h.1] at hs; exact absurd hv hs
  · rw [← h.1] at ht; exact absurd hu ht
  · exact ⟨⟨h.1, trivial⟩, h.2⟩
theorem fsL_opt (fs : Bool) : fsL fs = [] ∨ ∃ c, fsL fs = [c] ∧ c = 100 := by cases fs <;> simp [fsL]
theorem rxL_opt {rex : Int} (h : rex = 0 ∨ (64 ≤ rex ∧ rex ≤ 79)) : rxL rex = [] ∨ ∃ c, rxL rex = [c] ∧ (64 ≤ c ∧ c ≤ 79) := by
  unfold rxL
  split
  · exact .inl rfl
  · exact .inr ⟨rex, rfl, by omega⟩
theorem Pc.Wf.head {p : Pc} (w : p.Wf) (x : List Int) : ∃ o r, p.op ++ x = o :: r ∧ ¬(64 ≤ o ∧ o ≤ 79) ∧ ¬o = 100 := by
  rcases w.op with ⟨o, h, h1, h2, h3, _⟩ | ⟨o, h, _⟩
  · exact ⟨o, x, by rw [h]; rfl, h3, h2⟩
  · exact ⟨15, o :: x, by rw [h]; rfl, by omega, by omega⟩
theorem tlen_eq {s t x y : List Int} (hs : s ≠ []) (ht : t ≠ []) (ls : s.length = tlen s) (lt : t.length = tlen t) (h : s ++ x = t ++ y) : tlen s = tlen t := by
  obtain ⟨a, s', rfl⟩ := List.exists_cons_of_ne_nil hs
  obtain ⟨b, t', rfl⟩ := List.exists_cons_of_ne_nil ht
  simp only [List.cons_append, List.cons.injEq] at h
  obtain ⟨rfl, h⟩ := h
  by_cases h3 : a / 64 = 3
  · simp [tlen, h3]
  · by_cases h4 : a % 8 = 4
    · have l1 : 2 ≤ (a :: s').length := by rw [ls]; unfold tlen; simp [h3, h4]
      have l2 : 2 ≤ (a :: t').length := by rw [lt]; unfold tlen; simp [h3, h4]
      cases s' with
      | nil => simp at l1
      | cons c s' =>
        cases t' with
        | nil => simp at l2
        | cons d t' =>
          simp only [List.cons_append, List.cons.injEq] at h
          unfold tlen
          simp [h.1]
    · unfold tlen; simp [h3, h4]
theorem flat_inj {a b : Pc} (wa : a.Wf) (wb : b.Wf) {x y : List Int} (h : a.flat ++ x = b.flat ++ y) : a = b ∧ x = y := by
  obtain ⟨fa, ra, oa, ta, na⟩ := a
  obtain ⟨fb, rb, ob, tb, nb⟩ := b
  simp only [Pc.flat, List.append_assoc] at h
  have hd : ∀ {r : Int} {o z : List Int}, (r = 0 ∨ (64 ≤ r ∧ r ≤ 79)) → (∃ q s, o ++ z = q :: s ∧ ¬(64 ≤ q ∧ q ≤ 79) ∧ ¬q = 100) → ∃ q s, rxL r ++ (o ++ z) = q :: s ∧ ¬q = 100 := by
    rintro r o z hr ⟨q, s, h1, h2, h3⟩
    unfold rxL
    split
    · exact ⟨q, s, by rw [List.nil_append]; exact h1, h3⟩
    · exact ⟨r, o ++ z, rfl, by omega⟩
  obtain ⟨h1, h⟩ := opt_inj (C := fun c => c = 100) (fsL_opt fa) (fsL_opt fb) (hd wa.rex (wa.head _)) (hd wb.rex (wb.head _)) h
  obtain ⟨oa1, ra1, ea, ca, _⟩ := wa.head (ta ++ (na ++ x))
  obtain ⟨ob1, rb1, eb, cb, _⟩ := wb.head (tb ++ (nb ++ y))
  obtain ⟨h2, h⟩ := opt_inj (C := fun c => 64 ≤ c ∧ c ≤ 79) (rxL_opt wa.rex) (rxL_opt wb.rex) ⟨_, _, ea, ca⟩ ⟨_, _, eb, cb⟩ h
  have hfs : fa = fb := by cases fa <;> cases fb <;> first | rfl | cases h1
  have hrx : ra = rb := by
    have r1 := wa.rex
    have r2 := wb.rex
    dsimp only at r1 r2
    unfold rxL at h2
    by_cases e1 : ra = 0 <;> by_cases e2 : rb = 0
    · omega
    · rw [if_pos e1, if_neg e2] at h2; cases h2
    · rw [if_neg e1, if_pos e2] at h2; cases h2
    · rw [if_neg e1, if_neg e2] at h2; simpa using h2
  subst hfs hrx
  have hop : oa = ob ∧ ta ++ (na ++ x) = tb ++ (nb ++ y) := by
    rcases wa.op with ⟨p, hp, p1, _⟩ | ⟨p, hp, _⟩ <;> rcases wb.op with ⟨q, hq, q1, _⟩ | ⟨q, hq, _⟩ <;> dsimp only at hp hq <;> subst hp hq <;> simp only [List.cons_append, List.nil_append, List.cons.injEq] at h
    · exact ⟨by rw [h.1], h.2⟩
    · exact absurd h.1 p1
    · exact absurd h.1.symm q1
    · exact ⟨by rw [h.2.1], h.2.2⟩
  obtain ⟨hop, g⟩ := hop
  clear h ea eb ca cb
  subst hop
  have ht : ta.length = tb.length := by
    by_cases hm : hasM oa
    · obtain ⟨a1, a2⟩ := wa.m hm
      obtain ⟨b1, b2⟩ := wb.m hm
      dsimp only at a1 a2 b1 b2
      rw [a2, b2]
      exact tlen_eq a1 b1 a2 b2 g
    · have a1 := wa.nm hm
      have b1 := wb.nm hm
      dsimp only at a1 b1
      rw [a1, b1]
  obtain ⟨h3, g2⟩ := List.append_inj g ht
  clear g ht
  subst h3
  have hn : na.length = nb.length := by
    have a1 := wa.num
    have b1 := wb.num
    dsimp only at a1 b1
    rw [a1, b1]
  obtain ⟨h4, g3⟩ := List.append_inj g2 hn
  exact ⟨by rw [h4], g3⟩

theorem inB_nil : InB [] := fun x h => by (cases h)
theorem inB_cons {a : Int} {l : List Int} (h0 : 0 ≤ a) (h1 : a ≤ 255) (h : InB l) : InB (a :: l) := fun x hx => by
  rcases List.mem_cons.1 hx with rfl | hx
  · exact ⟨h0, h1⟩
  · exact h x hx
theorem inB_app {l m : List Int} (h : InB l) (h' : InB m) : InB (l ++ m) := fun x hx => (List.mem_append.1 hx).elim (h x) (h' x)
theorem leL_b (n : Int) (k : Nat) : InB (leL n k) := fun x hx => by
  have : x ∈ le8 n := List.mem_of_mem_take hx
  simp only [le8, List.mem_cons, List.not_mem_nil, or_false] at this
  omega
theorem Pc.Wf.inB {p : Pc} (w : p.Wf) : InB p.flat := by
  unfold Pc.flat
  refine inB_app ?_ (inB_app ?_ (inB_app ?_ (inB_app w.tb w.nb)))
  · rcases fsL_opt p.fs with h | ⟨c, h, hc⟩ <;> rw [h]
    · exact inB_nil
    · exact inB_cons (by omega) (by omega) inB_nil
  · rcases rxL_opt w.rex with h | ⟨c, h, hc⟩ <;> rw [h]
    · exact inB_nil
    · exact inB_cons (by omega) (by omega) inB_nil
  · rcases w.op with ⟨o, h, _, _, _, h0, h1⟩ | ⟨o, h, h0, h1⟩ <;> rw [h]
    · exact inB_cons h0 h1 inB_nil
    · exact inB_cons (by omega) (by omega) (inB_cons h0 h1 inB_nil)

/-- An instruction's parts. -/
def Enc.pc (e : Enc) : Pc := ⟨!e.pre.isEmpty, (rexL e.rex e.force).getD 0 0, e.op, e.tail, e.number⟩
def pcI (i : Ins) : Pc := if i.op = 32 then ⟨false, 72, [153], [], []⟩ else (encI i).pc
/-- Bits of an op with a rm operand beside the operand's own. -/
theorem rexL_pos {r : Int} {f : Bool} (h0 : 0 ≤ r) (h1 : r ≤ 15) : rexL r f = rxL ((rexL r f).getD 0 0) ∧ ((rexL r f).getD 0 0 = 0 ∨ (64 ≤ (rexL r f).getD 0 0 ∧ (rexL r f).getD 0 0 ≤ 79)) := by
  unfold rexL rxL
  cases (bif r != 0 then true else f) with
  | true =>
    simp only [cond_true, List.getD_cons_zero]
    rw [if_neg (by omega)]
    exact ⟨rfl, by omega⟩
  | false => simp
end Go.Proofs.Ythmighgfefjcmaa.Enc
end

section
/- Each instruction's bytes are made so. No condition. -/
set_option maxRecDepth 100000
namespace Go.Proofs.Ythmighgfefjcmaa.Enc
open Go.RowKit Go.Proofs.Ythmighgfefjcmaa.X Go.IntWalk

theorem modO_siz (o : Opd) : (modO o = 0 ∧ sizO o = 0 ∧ o.base.tmod 8 ≠ 5 ∧ dispN o = 0) ∨ (modO o = 1 ∧ sizO o = 1 ∧ -128 ≤ dispN o ∧ dispN o ≤ 127 ∧ anon o = true) ∨ (modO o = 2 ∧ sizO o = 4) := by
  unfold modO sizO
  cases anon o with
  | false => exact .inr (.inr ⟨rfl, rfl⟩)
  | true =>
    cases h0 : disp0 o with
    | true =>
      refine .inl ⟨rfl, rfl, ?_⟩
      unfold disp0 at h0
      simp at h0
      exact ⟨h0.2, h0.1⟩
    | false =>
      cases h1 : disp1 o with
      | true =>
        refine .inr (.inl ⟨rfl, rfl, ?_⟩)
        unfold disp1 at h1
        simp at h1
        exact ⟨h1.1, h1.2, rfl⟩
      | false => exact .inr (.inr ⟨rfl, rfl⟩)
/-- How an rm operand is written: in each case, its head and how many bytes behind it. -/
theorem rm_cases {o : Opd} (h : RmO o) (k : Int) :
    (RegO o ∧ rmHead k o = [192 + 8 * k + o.r % 8] ∧ rmSize o = 0) ∨
    (MemO o ∧ o.rip = true ∧ rmHead k o = [8 * k + 5] ∧ rmSize o = 4) ∨
    (MemO o ∧ o.rip = false ∧ o.fs = true ∧ rmHead k o = [8 * k + 4, 37] ∧ rmSize o = 4) ∨
    (MemO o ∧ o.rip = false ∧ o.fs = false ∧ 0 ≤ o.index ∧ rmHead k o = [64 * modO o + 8 * k + 4, 64 * logS o.scale + 8 * (o.index % 8) + o.base % 8] ∧ rmSize o = sizO o) ∨
    (MemO o ∧ o.rip = false ∧ o.fs = false ∧ o.index = -1 ∧ o.base % 8 = 4 ∧ rmHead k o = [64 * modO o + 8 * k + 4, 36] ∧ rmSize o = sizO o) ∨
    (MemO o ∧ o.rip = false ∧ o.fs = false ∧ o.index = -1 ∧ o.base % 8 ≠ 4 ∧ rmHead k o = [64 * modO o + 8 * k + o.base % 8] ∧ rmSize o = sizO o) := by
  unfold rmHead rmSize modrm
  rcases h with h | h
  · left
    rw [isR_reg h, tmod8 _ h.r0]
    exact ⟨h, by simp, rfl⟩
  · right
    rw [isR_mem h]
    rcases h.how with hh | hh | hh
    · left
      rw [hh.1]
      exact ⟨h, rfl, by simp, rfl⟩
    · right; left
      rw [hh.1, hh.2.1]
      exact ⟨h, rfl, rfl, by simp, rfl⟩
    · right; right
      obtain ⟨h1, h2, h3, h4, h5⟩ := hh
      rw [h1, h2]
      unfold hasX isSp
      rw [tmod8 _ h3]
      rcases h5 with ⟨h5, _⟩ | ⟨h5, _⟩
      · right
        rw [show decide (o.index ≥ 0) = false from decide_eq_false (by omega)]
        by_cases h6 : o.base % 8 = 4
        · left; exact ⟨h, rfl, rfl, h5, h6, by simp [h6], rfl⟩
        · right; exact ⟨h, rfl, rfl, h5, h6, by rw [show (o.base % 8 == 4) = false from beq_eq_false_iff_ne.2 h6]; simp, rfl⟩
      · left
        rw [show decide (o.index ≥ 0) = true from decide_eq_true h5, tmod8 _ h5]
        exact ⟨h, rfl, rfl, h5, rfl, rfl⟩
theorem MemO.based {o : Opd} (h : MemO o) (h1 : o.rip = false) (h2 : o.fs = false) : 0 ≤ o.base ∧ o.base ≤ 15 ∧ ((o.index = -1 ∧ o.scale = 0) ∨ (0 ≤ o.index ∧ o.index ≤ 15 ∧ o.index ≠ 4 ∧ (o.scale = 1 ∨ o.scale = 2 ∨ o.scale = 4 ∨ o.scale = 8))) := by
  rcases h.how with hh | hh | hh
  · rw [h1] at hh; cases hh.1
  · rw [h2] at hh; cases hh.2.1
  · exact hh.2.2
theorem tail_wf {o : Opd} (h : RmO o) {k : Int} (h0 : 0 ≤ k) (h1 : k ≤ 7) : (rmTail k o).length = tlen (rmTail k o) ∧ regT (rmTail k o) = k ∧ rmTail k o ≠ [] := by
  unfold rmTail
  have hsz := modO_siz o
  have hl := leL_lm (dispN o)
  rcases rm_cases h k with ⟨c, e1, e2⟩ | ⟨c, _, e1, e2⟩ | ⟨c, _, _, e1, e2⟩ | ⟨c, c1, c2, _, e1, e2⟩ | ⟨c, c1, c2, _, c4, e1, e2⟩ | ⟨c, c1, c2, _, c4, e1, e2⟩ <;> rw [e1, e2]
  · have := c.r0
    simp only [tlen, regT, List.cons_append, List.nil_append, List.getD_cons_zero, List.length_cons, hl]
    rw [if_pos (by omega)]
    exact ⟨rfl, by omega, by simp⟩
  · simp only [tlen, regT, List.cons_append, List.nil_append, List.getD_cons_zero, List.length_cons, hl, dlen]
    rw [if_neg (by omega), if_neg (by omega), if_pos (by omega), if_pos (by omega)]
    exact ⟨rfl, by omega, by simp⟩
  · simp only [tlen, regT, List.cons_append, List.nil_append, List.getD_cons_zero, List.getD_cons_succ, List.length_cons, hl, dlen]
    rw [if_neg (by omega), if_pos (by omega), if_pos (by omega), if_pos (by omega)]
    exact ⟨rfl, by omega, by simp⟩
  · obtain ⟨b0, b1, b2⟩ := c.based c1 c2
    rw [tmod8 _ b0] at hsz
    have := logS_le o.scale
    simp only [tlen, regT, List.cons_append, List.nil_append, List.getD_cons_zero, List.getD_cons_succ, List.length_cons, hl, dlen]
    rcases hsz with ⟨m, s, hb, _⟩ | ⟨m, s, _⟩ | ⟨m, s⟩ <;> rw [m, s]
    · rw [if_neg (by omega), if_pos (by omega), if_pos (by omega), if_neg (by omega)]; exact ⟨rfl, by omega, by simp⟩
    · rw [if_neg (by omega), if_pos (by omega), if_neg (by omega), if_pos (by omega)]; exact ⟨rfl, by omega, by simp⟩
    · rw [if_neg (by omega), if_pos (by omega), if_neg (by omega), if_neg (by omega)]; exact ⟨rfl, by omega, by simp⟩
  · simp only [tlen, regT, List.cons_append, List.nil_append, List.getD_cons_zero, List.getD_cons_succ, List.length_cons, hl, dlen]
    rcases hsz with ⟨m, s, hb, _⟩ | ⟨m, s, _⟩ | ⟨m, s⟩ <;> rw [m, s]
    · rw [if_neg (by omega), if_pos (by omega), if_pos (by omega), if_neg (by omega)]; exact ⟨rfl, by omega, by simp⟩
    · rw [if_neg (by omega), if_pos (by omega), if_neg (by omega), if_pos (by omega)]; exact ⟨rfl, by omega, by simp⟩
    · rw [if_neg (by omega), if_pos (by omega), if_neg (by omega), if_neg (by omega)]; exact ⟨rfl, by omega, by simp⟩
  · obtain ⟨b0, b1, b2⟩ := c.based c1 c2
    rw [tmod8 _ b0] at hsz
    simp only [tlen, regT, List.cons_append, List.nil_append, List.getD_cons_zero, List.length_cons, hl, dlen]
    rcases hsz with ⟨m, s, hb, _⟩ | ⟨m, s, _⟩ | ⟨m, s⟩ <;> rw [m, s]
    · rw [if_neg (by omega), if_neg (by omega), if_pos (by omega), if_neg (by omega)]; exact ⟨rfl, by omega, by simp⟩
    · rw [if_neg (by omega), if_neg (by omega), if_neg (by omega), if_pos (by omega)]; exact ⟨rfl, by omega, by simp⟩
    · rw [if_neg (by omega), if_neg (by omega), if_neg (by omega), if_neg (by omega)]; exact ⟨rfl, by omega, by simp⟩

theorem tail_b {o : Opd} (h : RmO o) {k : Int} (h0 : 0 ≤ k) (h1 : k ≤ 7) : InB (rmTail k o) := by
  unfold rmTail
  refine inB_app ?_ (leL_b _ _)
  have hsz := modO_siz o
  have hlg := logS_le o.scale
  rcases rm_cases h k with ⟨c, e1, _⟩ | ⟨c, _, e1, _⟩ | ⟨c, _, _, e1, _⟩ | ⟨c, c1, c2, _, e1, _⟩ | ⟨c, c1, c2, _, c4, e1, _⟩ | ⟨c, c1, c2, _, c4, e1, _⟩ <;> rw [e1]
  · exact inB_cons (by omega) (by omega) inB_nil
  · exact inB_cons (by omega) (by omega) inB_nil
  · exact inB_cons (by omega) (by omega) (inB_cons (by omega) (by omega) inB_nil)
  · exact inB_cons (by omega) (by omega) (inB_cons (by omega) (by omega) inB_nil)
  · exact inB_cons (by omega) (by omega) (inB_cons (by omega) (by omega) inB_nil)
  · exact inB_cons (by omega) (by omega) inB_nil

/-- What an op with an rm operand is made of. -/
def rexM (W : Int) (o : Opd) (force : Bool) : Int := (rexL (rexOr W (rmRex o)) force).getD 0 0
theorem pc_m (W k : Int) (o : Opd) (force : Bool) (op num : List Int) : (mE W k o force op num).pc = ⟨!(rmPre o).isEmpty, rexM W o force, op, rmTail k o, num⟩ := rfl
theorem pre_fs (o : Opd) : rmPre o = fsL (!(rmPre o).isEmpty) := by
  unfold rmPre; cases isR o <;> cases o.rip <;> cases o.fs <;> rfl
def opOk (op : List Int) : Prop := (∃ o, op = [o] ∧ o ≠ 15 ∧ o ≠ 100 ∧ ¬(64 ≤ o ∧ o ≤ 79) ∧ 0 ≤ o ∧ o ≤ 255) ∨ (∃ o, op = [15, o] ∧ 0 ≤ o ∧ o ≤ 255)
theorem wf_m {W k : Int} {o : Opd} (ho : RmO o) (force : Bool) {op num : List Int} (hW : W ≤ 15) (h0 : 0 ≤ k) (h1 : k ≤ 7) (hop : opOk op) (hm : hasM op) (hn : num.length = nlen op (rexM W o force) k) (hb : InB num) :
    (mE W k o force op num).pc.Wf ∧ (mE W k o force op num).pc.flat = (mE W k o force op num).bytes := by
  have hr := rexOr_le hW (show rmRex o ≤ 15 by have := rmRex_le o; omega)
  have hr2 := rexL_pos (f := force) hr.1 hr.2
  have ht := tail_wf ho h0 h1
  rw [pc_m]
  refine ⟨⟨hr2.2, hop, fun _ => ⟨ht.2.2, ht.1⟩, fun h => absurd hm h, ?_, tail_b ho h0 h1, hb⟩, ?_⟩
  · show num.length = nlen op _ (regT (rmTail k o)); rw [ht.2.1]; exact hn
  · show fsL (!(rmPre o).isEmpty) ++ (rxL (rexM W o force) ++ (op ++ (rmTail k o ++ num))) = rmPre o ++ rexL (rexOr W (rmRex o)) force ++ op ++ rmTail k o ++ num
    rw [← pre_fs o, hr2.1]
    simp only [rexM, List.append_assoc]
theorem wf_p {r : Int} {force : Bool} {op num : List Int} {hs : List Hol} (hr : 0 ≤ r ∧ r ≤ 15) (hop : opOk op) (hm : ¬hasM op) (hn : num.length = nlen op ((rexL r force).getD 0 0) 0) (hb : InB num := by first | exact leL_b _ _ | exact inB_nil) :
    (Enc.pc { rex := r, force := force, op := op, number := num, holes := hs }).Wf ∧ (Enc.pc { rex := r, force := force, op := op, number := num, holes := hs }).flat = Enc.bytes { rex := r, force := force, op := op, number := num, holes := hs } := by
  have hr2 := rexL_pos (f := force) hr.1 hr.2
  refine ⟨⟨hr2.2, hop, fun h => absurd h hm, fun _ => rfl, hn, inB_nil, hb⟩, ?_⟩
  show fsL false ++ (rxL ((rexL r force).getD 0 0) ++ (op ++ ([] ++ num))) = [] ++ rexL r force ++ op ++ [] ++ num
  conv => rhs; rw [hr2.1]
  simp [fsL]
end Go.Proofs.Ythmighgfefjcmaa.Enc
end

section
/- What is written of each form; it is made so. No condition. -/
set_option maxRecDepth 100000
namespace Go.Proofs.Ythmighgfefjcmaa.Enc
open Go.RowKit Go.Proofs.Ythmighgfefjcmaa.X Go.IntWalk

theorem nlen_0 {o rex reg : Int} (h : o < 64 ∨ (132 ≤ o ∧ o ≤ 144) ∨ o = 210 ∨ o = 211 ∨ 254 ≤ o ∨ ((o = 246 ∨ o = 247) ∧ reg ≠ 0) ∨ (80 ≤ o ∧ o ≤ 95) ∨ o = 195 ∨ o = 201 ∨ o = 153) : nlen [o] rex reg = 0 := by
  unfold nlen nlen1
  dsimp only
  rw [if_neg (by omega), if_neg (by omega), if_neg (by omega)]
  split
  · rw [if_neg (by omega)]
  · split
    · rw [if_neg (by omega)]
    · rfl
theorem nlen_1 {o rex reg : Int} (h : o = 128 ∨ o = 131 ∨ o = 192 ∨ o = 193 ∨ o = 198 ∨ o = 106 ∨ o = 235 ∨ (112 ≤ o ∧ o ≤ 127) ∨ (176 ≤ o ∧ o ≤ 183) ∨ (o = 246 ∧ reg = 0)) : nlen [o] rex reg = 1 := by
  unfold nlen nlen1
  dsimp only
  by_cases h6 : o = 246
  · rw [if_neg (by omega), if_neg (by omega), if_neg (by omega), if_pos h6, if_pos (by omega)]
  · rw [if_pos (by omega)]
theorem nlen_4 {o rex reg : Int} (h : o = 129 ∨ o = 199 ∨ o = 104 ∨ o = 232 ∨ o = 233 ∨ (184 ≤ o ∧ o ≤ 191 ∧ rex / 8 % 2 ≠ 1) ∨ (o = 247 ∧ reg = 0)) : nlen [o] rex reg = 4 := by
  unfold nlen nlen1
  dsimp only
  rw [if_neg (by omega)]
  by_cases h7 : o = 247
  · rw [if_neg (by omega), if_neg (by omega), if_neg (by omega), if_pos h7, if_pos (by omega)]
  · by_cases h8 : 184 ≤ o ∧ o ≤ 191
    · rw [if_neg (by omega), if_pos h8, if_neg (by omega)]
    · rw [if_pos (by omega)]
theorem nlen_8 {o rex reg : Int} (h : 184 ≤ o ∧ o ≤ 191 ∧ rex / 8 % 2 = 1) : nlen [o] rex reg = 8 := by
  unfold nlen nlen1
  dsimp only
  rw [if_neg (by omega), if_neg (by omega), if_pos (by omega), if_pos (by omega)]

theorem codes {op : Int} (h : op = 1 ∨ (3 ≤ op ∧ op ≤ 10) ∨ op = 11 ∨ op = 31) : (op = 1 ∧ codeS op = 136 ∧ codeG op = 137) ∨ (op = 11 ∧ codeS op = 132 ∧ codeG op = 133) ∨ (op = 31 ∧ codeS op = 135 ∧ codeG op = 135) ∨ (3 ≤ op ∧ op ≤ 10 ∧ codeS op = 8 * (op - 3) ∧ codeG op = 8 * (op - 3) + 1) := by
  rcases h with rfl | h | rfl | rfl
  · exact .inl ⟨rfl, rfl, rfl⟩
  · refine .inr (.inr (.inr ⟨h.1, h.2, ?_, ?_⟩))
    · unfold codeS
      rw [show (op == 1) = false from beq_eq_false_iff_ne.2 (by omega), show (op == 11) = false from beq_eq_false_iff_ne.2 (by omega), show (op == 31) = false from beq_eq_false_iff_ne.2 (by omega)]; rfl
    · unfold codeG
      rw [show (op == 1) = false from beq_eq_false_iff_ne.2 (by omega), show (op == 11) = false from beq_eq_false_iff_ne.2 (by omega), show (op == 31) = false from beq_eq_false_iff_ne.2 (by omega)]; rfl
  · exact .inr (.inl ⟨rfl, rfl, rfl⟩)
  · exact .inr (.inr (.inl ⟨rfl, rfl, rfl⟩))
theorem szOp_1 {s a b : Int} (h : s = 1) : szOp s a b = a := by unfold szOp; rw [h]; rfl
theorem szOp_n {s a b : Int} (h : Sz4 s) : szOp s a b = b := by
  unfold szOp; rcases h with h | h <;> rw [h] <;> rfl
theorem sz_or {s : Int} (h : Sz9 s) : s = 1 ∨ Sz4 s := h
theorem min4_1 {s : Int} (h : s = 1) : (min4 s).toNat = 1 := by unfold min4; rw [h]; rfl
theorem min4_4 {s : Int} (h : Sz4 s) : (min4 s).toNat = 4 := by unfold min4; rcases h with h | h <;> rw [h] <;> rfl
theorem beqF {a b : Int} (h : a ≠ b) : (a == b) = false := beq_eq_false_iff_ne.2 h
theorem beqT {a b : Int} (h : a = b) : (a == b) = true := beq_iff_eq.2 h

section
variable {i : Ins}
/-- What is written of each form. -/
theorem e_rr (op : i.op = 1 ∨ (3 ≤ i.op ∧ i.op ≤ 10) ∨ i.op = 11 ∨ i.op = 31) (src : RegO i.src) :
    encI i = mE (rexW i.size + rexR i.src.r) (i.src.r % 8) i.to (lowF i.to i.size || lowF i.src i.size) [szOp i.size (codeS i.op) (codeG i.op)] [] := by
  rw [enc_sum (by omega)]
  unfold sumE
  rw [isI_reg src, isR_reg src, cond_false, cond_true, regE_eq, tmod8 _ src.r0]
theorem e_rm (op : i.op = 1 ∨ (3 ≤ i.op ∧ i.op ≤ 10)) (to : RegO i.to) (src : MemO i.src) :
    encI i = mE (rexW i.size + rexR i.to.r) (i.to.r % 8) i.src (lowF i.to i.size || lowF i.src i.size) [szOp i.size (codeS i.op) (codeG i.op) + 2] [] := by
  rw [enc_sum (by omega)]
  unfold sumE
  rw [isI_mem src, isR_mem src, cond_false, cond_false, regE_eq, tmod8 _ to.r0]
theorem e_imm (op : i.op = 1 ∨ (3 ≤ i.op ∧ i.op ≤ 10) ∨ i.op = 11) (src : ImmO i.src) : encI i = immE i := by
  rw [enc_sum (by omega)]
  unfold sumE
  rw [isI_imm src, cond_true]
theorem e_mv (op : i.op = 1) (src : ImmO i.src) (to : RegO i.to) (h : i.size < 8 ∨ fits32 i.src.n = false) :
    encI i = { rex := rexOr (bif decide (i.to.r ≥ 8) then 1 else 0) (rexW i.size), force := lowF i.to i.size, op := [szOp i.size 176 184 + i.to.r % 8], number := leL i.src.n i.size.toNat } := by
  rw [e_imm (.inl op) src]
  unfold immE
  rw [beqT op, isR_reg to, cond_true, cond_true, tmod8 _ to.r0]
  have : (bif decide (i.size < 8) then true else !fits32 i.src.n) = true := by
    rcases h with h | h
    · rw [decide_eq_true h]; rfl
    · rw [h]; cases decide (i.size < 8) <;> rfl
  rw [this]; rfl
theorem e_mv2 (op : i.op = 1) (src : ImmO i.src) (h : MemO i.to ∨ (RegO i.to ∧ i.size = 8 ∧ fits32 i.src.n = true)) :
    encI i = mE (rexW i.size) 0 i.to (lowF i.to i.size) [szOp i.size 198 199] (leL i.src.n (min4 i.size).toNat) := by
  rw [e_imm (.inl op) src]
  unfold immE
  rw [beqT op, cond_true]
  have : (bif isR i.to then bif decide (i.size < 8) then true else !fits32 i.src.n else false) = false := by
    rcases h with h | ⟨h, h2, h3⟩
    · rw [isR_mem h]; rfl
    · rw [isR_reg h, h2, h3]; rfl
  rw [this, cond_false, cond_true, groupE_eq]
theorem e_ti (op : i.op = 11) (src : ImmO i.src) :
    encI i = mE (rexW i.size) 0 i.to (lowF i.to i.size) [szOp i.size 246 247] (leL i.src.n (min4 i.size).toNat) := by
  rw [e_imm (by omega) src]
  unfold immE
  rw [op]
  exact groupE_eq _ _ _ _ _ _
theorem e_gi (op : 3 ≤ i.op ∧ i.op ≤ 10) (src : ImmO i.src) (h : i.size ≠ 1 ∧ short8 i.size i.src.n = true) :
    encI i = mE (rexW i.size) (i.op - 3) i.to (lowF i.to i.size) [131] (leL i.src.n 1) := by
  rw [e_imm (by omega) src]
  unfold immE
  simp only [beqF (show i.op ≠ 1 by omega), beqF (show i.op ≠ 11 by omega), cond_false, show (i.size != 1) = true by simp [h.1], h.2, cond_true]
  refine (groupE_eq _ _ _ _ _ _).trans ?_
  congr 2
  unfold szOp; cases i.size == 1 <;> rfl
theorem e_gi2 (op : 3 ≤ i.op ∧ i.op ≤ 10) (src : ImmO i.src) (h : i.size = 1 ∨ short8 i.size i.src.n = false) :
    encI i = mE (rexW i.size) (i.op - 3) i.to (lowF i.to i.size) [szOp i.size 128 129] (leL i.src.n (min4 i.size).toNat) := by
  rw [e_imm (by omega) src]
  unfold immE
  have : (bif i.size != 1 then short8 i.size i.src.n else false) = false := by
    rcases h with h | h
    · rw [h]; rfl
    · rw [h]; cases i.size != 1 <;> rfl
  simp only [beqF (show i.op ≠ 1 by omega), beqF (show i.op ≠ 11 by omega), cond_false, this]
  exact groupE_eq _ _ _ _ _ _
theorem enc_ot' (h : i.op = 2 ∨ (12 ≤ i.op ∧ i.op ≤ 16) ∨ (25 ≤ i.op ∧ i.op ≤ 30) ∨ (32 ≤ i.op ∧ i.op ≤ 35)) : encI i = otE i := enc_ot (by omega) (by omega) (by omega) (by omega)
def ldOp (op c : Int) : List Int := if op = 2 then [141] else if op = 12 then [15, 175] else if op = 28 then [15, 64 + c] else if op = 29 then [15, 182] else [15, 190]
theorem e_ld (op : i.op = 2 ∨ i.op = 12 ∨ i.op = 28 ∨ i.op = 29 ∨ i.op = 30) (to : RegO i.to) :
    encI i = mE (rexW i.size + rexR i.to.r) (i.to.r % 8) i.src (bif i.op == 29 || i.op == 30 then lowF i.src 1 else false) (ldOp i.op i.cond) [] := by
  rw [enc_ot' (by omega)]
  unfold otE
  rcases op with op | op | op | op | op <;> rw [op] <;> exact (regE_eq _ _ _ _ _).trans (by rw [tmod8 _ to.r0]; rfl)
def oneOp (op size : Int) : Int := if op ≤ 14 then szOp size 246 247 else szOp size 254 255
def oneK (op : Int) : Int := if op = 13 then 3 else if op = 14 then 2 else if op = 15 then 0 else 1
theorem e_one (op : 13 ≤ i.op ∧ i.op ≤ 16) : encI i = mE (rexW i.size) (oneK i.op) i.to (lowF i.to i.size) [oneOp i.op i.size] [] := by
  rw [enc_ot' (by omega)]
  have : i.op = 13 ∨ i.op = 14 ∨ i.op = 15 ∨ i.op = 16 := by omega
  unfold otE
  rcases this with op | op | op | op <;> rw [op] <;> exact groupE_eq _ _ _ _ _ _
theorem e_set (op : i.op = 27) : encI i = mE 0 0 i.to (lowF i.to 1) [15, 144 + i.cond] [] := by
  rw [enc_ot' (by omega)]
  unfold otE
  rw [op]; rfl
theorem e_shi (op : 17 ≤ i.op ∧ i.op ≤ 19) (src : ImmO i.src) : encI i = mE (rexW i.size) (shK i.op) i.to (lowF i.to i.size) [szOp i.size 192 193] (leL i.src.n 1) := by
  rw [enc_sh op]
  unfold shE
  rw [isI_imm src]; rfl
theorem e_shr (op : 17 ≤ i.op ∧ i.op ≤ 19) (src : RegO i.src) : encI i = mE (rexW i.size) (shK i.op) i.to (lowF i.to i.size) [szOp i.size 210 211] [] := by
  rw [enc_sh op]
  unfold shE
  rw [isI_reg src]; rfl
theorem e_pushr (op : i.op = 20) (src : RegO i.src) : encI i = plusE i.src.r 80 := by
  rw [enc_st (.inl op)]
  unfold stE
  rw [op, isR_reg src]; rfl
theorem e_pushm (op : i.op = 20) (src : MemO i.src) : encI i = mE 0 6 i.src false [255] [] := by
  rw [enc_st (.inl op)]
  unfold stE
  rw [op, isR_mem src, isM_mem src]; rfl
theorem e_pushi (op : i.op = 20) (src : ImmO i.src) : encI i = bif byteN i.src.n then { op := [106], number := leL i.src.n 1 } else { op := [104], number := leL i.src.n 4 } := by
  rw [enc_st (.inl op)]
  unfold stE
  rw [op, isR_imm src, isM_imm src]; rfl
theorem e_popr (op : i.op = 21) (to : RegO i.to) : encI i = plusE i.to.r 88 := by
  rw [enc_st (.inr op)]
  unfold stE
  rw [op, isR_reg to]; rfl
theorem e_popm (op : i.op = 21) (to : MemO i.to) : encI i = mE 0 0 i.to false [143] [] := by
  rw [enc_st (.inr op)]
  unfold stE
  rw [op, isR_mem to]; rfl
theorem e_jt (op : i.op = 22 ∨ i.op = 23 ∨ i.op = 24) (to : TgtO i.to) : encI i = { op := jOp i, number := leL i.to.n (jSize i).toNat, holes := jHole i } := by
  rw [enc_j op]
  unfold jE
  rw [isT_tgt to]; rfl
theorem e_jm (op : i.op = 22 ∨ i.op = 23) (to : RmO i.to) : encI i = mE 0 (if i.op = 22 then 2 else 4) i.to false [255] [] := by
  rw [enc_j (by omega)]
  unfold jE
  rw [isT_rm to]
  rcases op with op | op <;> rw [op] <;> rfl
def bareOp (op : Int) : List Int := if op = 25 then [195] else if op = 26 then [201] else if op = 33 then [144] else if op = 32 then [72, 153] else if op = 34 then [15, 11] else [15, 5]
theorem e_bare (op : i.op = 25 ∨ i.op = 26 ∨ (32 ≤ i.op ∧ i.op ≤ 35)) : encI i = { op := bareOp i.op } := by
  rw [enc_ot' (by omega)]
  have : i.op = 25 ∨ i.op = 26 ∨ i.op = 32 ∨ i.op = 33 ∨ i.op = 34 ∨ i.op = 35 := by omega
  unfold otE
  rcases this with op | op | op | op | op | op <;> rw [op] <;> rfl
end
theorem opOk1 {o : Int} (h1 : o ≠ 15) (h2 : o ≠ 100) (h3 : ¬(64 ≤ o ∧ o ≤ 79) ∧ 0 ≤ o ∧ o ≤ 255) : opOk [o] := .inl ⟨o, rfl, h1, h2, h3⟩
theorem opOk2 {o : Int} (h : 0 ≤ o ∧ o ≤ 255) : opOk [15, o] := .inr ⟨o, rfl, h⟩
end Go.Proofs.Ythmighgfefjcmaa.Enc
end

section
/- Each form's bytes are made of its parts. No condition. -/
set_option maxRecDepth 100000
namespace Go.Proofs.Ythmighgfefjcmaa.Enc
open Go.RowKit Go.Proofs.Ythmighgfefjcmaa.X Go.IntWalk

def WfE (e : Enc) : Prop := e.pc.Wf ∧ e.pc.flat = e.bytes
theorem pc_ne {i : Ins} (h : i.op ≠ 32) : pcI i = (encI i).pc := by unfold pcI; rw [if_neg h]
theorem wfm {W k : Int} {o : Opd} (ho : RmO o) (force : Bool) {op num : List Int} (hW : W ≤ 15) (h0 : 0 ≤ k) (h1 : k ≤ 7) (hop : opOk op) (hm : hasM op) (hn : num.length = nlen op (rexM W o force) k) (hb : InB num := by first | exact leL_b _ _ | exact inB_nil) : WfE (mE W k o force op num) := wf_m ho force hW h0 h1 hop hm hn hb
theorem m_1 {o : Int} (h : hasM1 o) : hasM [o] := h
theorem rexW_le15 (s : Int) : rexW s ≤ 15 := by have := rexW_le8 s; omega
theorem mod8 (r : Int) : 0 ≤ r % 8 ∧ r % 8 ≤ 7 := by omega
theorem leL_l1 (n : Int) : (leL n 1).length = 1 := by rw [leL_lm]; rfl
theorem leL_l4 (n : Int) : (leL n 4).length = 4 := by rw [leL_lm]; rfl
theorem rexM_w8 {r : Int} {force : Bool} : (rexL r force).getD 0 0 / 8 % 2 = r / 8 % 2 := by
  unfold rexL
  cases h : (bif r != 0 then true else force) with
  | true => simp only [cond_true, List.getD_cons_zero]; omega
  | false =>
    have : r = 0 := by
      cases hr : r != 0 with
      | true => rw [hr] at h; cases h
      | false => simpa using hr
    rw [this]; rfl
theorem rexOr1W (r s : Int) : rexOr (bif decide (r ≥ 8) then 1 else 0) (rexW s) = (if s = 8 then 8 else 0) + (if r ≥ 8 then 1 else 0) := by
  unfold rexW
  by_cases h : s = 8
  · by_cases h2 : r ≥ 8
    · rw [decide_eq_true h2, h, if_pos rfl, if_pos h2]; rfl
    · rw [decide_eq_false h2, h, if_pos rfl, if_neg h2]; rfl
  · rw [beqF h, if_neg h]
    by_cases h2 : r ≥ 8
    · rw [decide_eq_true h2, if_pos h2]; rfl
    · rw [decide_eq_false h2, if_neg h2]; rfl
theorem form_wfE {i : Ins} (f : Form i) (h32 : i.op ≠ 32) : WfE (encI i) := by
  cases f with
  | rr op sz sz2 cd sh to src =>
    rw [e_rr op src]
    have hc := codes op
    have hv : 0 ≤ szOp i.size (codeS i.op) (codeG i.op) ∧ hasM1 (szOp i.size (codeS i.op) (codeG i.op)) ∧ szOp i.size (codeS i.op) (codeG i.op) ≠ 15 ∧ (szOp i.size (codeS i.op) (codeG i.op) < 64 ∨ (132 ≤ szOp i.size (codeS i.op) (codeG i.op) ∧ szOp i.size (codeS i.op) (codeG i.op) ≤ 144)) := by
      unfold hasM1
      rcases sz_or sz with s | s
      · rw [szOp_1 s]; omega
      · rw [szOp_n s]; omega
    exact wfm to _ (rexWR_le _ _).2 (mod8 _).1 (mod8 _).2 (opOk1 hv.2.2.1 (by omega) (by omega)) hv.2.1 (by rw [nlen_0 (by omega)]; rfl)
  | rm op sz cd sh to src =>
    rw [e_rm op to src]
    have hc := codes (op := i.op) (by omega)
    have hv : 0 ≤ szOp i.size (codeS i.op) (codeG i.op) ∧ hasM1 (szOp i.size (codeS i.op) (codeG i.op) + 2) ∧ szOp i.size (codeS i.op) (codeG i.op) + 2 ≠ 15 ∧ (szOp i.size (codeS i.op) (codeG i.op) + 2 < 64 ∨ (132 ≤ szOp i.size (codeS i.op) (codeG i.op) + 2 ∧ szOp i.size (codeS i.op) (codeG i.op) + 2 ≤ 144)) := by
      unfold hasM1
      rcases sz_or sz with s | s
      · rw [szOp_1 s]; omega
      · rw [szOp_n s]; omega
    exact wfm (.inr src) _ (rexWR_le _ _).2 (mod8 _).1 (mod8 _).2 (opOk1 hv.2.2.1 (by omega) (by omega)) hv.2.1 (by rw [nlen_0 (by omega)]; rfl)
  | ri op sz cd sh to src fits =>
    rcases op with op | op | op
    · by_cases hr : ∃ _ : RegO i.to, i.size < 8
      · obtain ⟨hr, h8⟩ := hr
        rw [e_mv op src hr (.inl h8), rexOr1W]
        have r0 := hr.r0
        have r1 := hr.r1
        rw [if_neg (by omega)]
        have hb : (0 : Int) ≤ 0 + (if i.to.r ≥ 8 then 1 else 0) ∧ (0 : Int) + (if i.to.r ≥ 8 then 1 else 0) ≤ 1 := by split <;> omega
        rcases sz_or sz with s | s
        · rw [szOp_1 s, s]
          exact wf_p (by omega) (opOk1 (by omega) (by omega) (by omega)) (fun h => by have : hasM1 _ := h; unfold hasM1 at this; omega) (by rw [nlen_1 (by omega)]; exact leL_l1 _)
        · have s4 : i.size = 4 := by rcases s with s | s <;> omega
          rw [szOp_n s, s4]
          exact wf_p (by omega) (opOk1 (by omega) (by omega) (by omega)) (fun h => by have : hasM1 _ := h; unfold hasM1 at this; omega) (by rw [nlen_4 (by rw [rexM_w8]; omega)]; exact leL_l4 _)
      · have hm : MemO i.to ∨ (RegO i.to ∧ i.size = 8 ∧ fits32 i.src.n = true) := by
          rcases to with to | to
          · right
            have s8 : i.size = 8 := by
              rcases sz with s | s | s
              · exact absurd ⟨to, by omega⟩ hr
              · exact absurd ⟨to, by omega⟩ hr
              · exact s
            refine ⟨to, s8, ?_⟩
            rw [s8] at fits
            exact fits
          · exact .inl to
        rw [e_mv2 op src hm]
        rcases sz_or sz with s | s
        · rw [szOp_1 s, min4_1 s]
          exact wfm to _ (rexW_le15 _) (by omega) (by omega) (opOk1 (by omega) (by omega) (by omega)) (m_1 (by unfold hasM1; omega)) (by rw [nlen_1 (by omega)]; exact leL_l1 _)
        · rw [szOp_n s, min4_4 s]
          exact wfm to _ (rexW_le15 _) (by omega) (by omega) (opOk1 (by omega) (by omega) (by omega)) (m_1 (by unfold hasM1; omega)) (by rw [nlen_4 (by omega)]; exact leL_l4 _)
    · by_cases h : i.size ≠ 1 ∧ short8 i.size i.src.n = true
      · rw [e_gi op src h]
        exact wfm to _ (rexW_le15 _) (by omega) (by omega) (opOk1 (by omega) (by omega) (by omega)) (m_1 (by unfold hasM1; omega)) (by rw [nlen_1 (by omega)]; exact leL_l1 _)
      · have h2 : i.size = 1 ∨ short8 i.size i.src.n = false := by
          by_cases h1 : i.size = 1
          · exact .inl h1
          · right
            cases hh : short8 i.size i.src.n with
            | false => rfl
            | true => exact absurd ⟨h1, hh⟩ h
        rw [e_gi2 op src h2]
        rcases sz_or sz with s | s
        · rw [szOp_1 s, min4_1 s]
          exact wfm to _ (rexW_le15 _) (by omega) (by omega) (opOk1 (by omega) (by omega) (by omega)) (m_1 (by unfold hasM1; omega)) (by rw [nlen_1 (by omega)]; exact leL_l1 _)
        · rw [szOp_n s, min4_4 s]
          exact wfm to _ (rexW_le15 _) (by omega) (by omega) (opOk1 (by omega) (by omega) (by omega)) (m_1 (by unfold hasM1; omega)) (by rw [nlen_4 (by omega)]; exact leL_l4 _)
    · rw [e_ti op src]
      rcases sz_or sz with s | s
      · rw [szOp_1 s, min4_1 s]
        exact wfm to _ (rexW_le15 _) (by omega) (by omega) (opOk1 (by omega) (by omega) (by omega)) (m_1 (by unfold hasM1; omega)) (by rw [nlen_1 (by omega)]; exact leL_l1 _)
      · rw [szOp_n s, min4_4 s]
        exact wfm to _ (rexW_le15 _) (by omega) (by omega) (opOk1 (by omega) (by omega) (by omega)) (m_1 (by unfold hasM1; omega)) (by rw [nlen_4 (by omega)]; exact leL_l4 _)
  | mi op sz cd sh to src =>
    cases hf : fits32 i.src.n with
    | true =>
      rw [e_mv2 op src (.inr ⟨to, sz, hf⟩), szOp_n (.inr sz), min4_4 (.inr sz)]
      exact wfm (.inl to) _ (rexW_le15 _) (by omega) (by omega) (opOk1 (by omega) (by omega) (by omega)) (m_1 (by unfold hasM1; omega)) (by rw [nlen_4 (by omega)]; exact leL_l4 _)
    | false =>
      rw [e_mv op src to (.inr hf), rexOr1W, szOp_n (.inr sz), sz]
      have r0 := to.r0
      have r1 := to.r1
      have hb : (8 : Int) ≤ (if (8 : Int) = 8 then 8 else 0) + (if i.to.r ≥ 8 then 1 else 0) ∧ (if (8 : Int) = 8 then 8 else 0) + (if i.to.r ≥ 8 then 1 else 0) ≤ (9 : Int) := by split <;> split <;> omega
      exact wf_p (by omega) (opOk1 (by omega) (by omega) (by omega)) (fun h => by have : hasM1 _ := h; unfold hasM1 at this; omega) (by rw [nlen_8 (by rw [rexM_w8]; omega), leL_lm]; rfl)
  | lea op sz cd sh to src fs =>
    rw [e_ld (.inl op) to, op]
    exact wfm (.inr src) _ (rexWR_le _ _).2 (mod8 _).1 (mod8 _).2 (opOk1 (by omega) (by omega) (by omega)) (m_1 (by unfold hasM1; omega)) (by rw [show ldOp 2 i.cond = [141] from rfl, nlen_0 (by omega)]; rfl)
  | ld op sz c0 c1 cd sh to src =>
    rw [e_ld (.inr op) to]
    rcases op with op | op | op | op <;> rw [op]
    · exact wfm src _ (rexWR_le _ _).2 (mod8 _).1 (mod8 _).2 (opOk2 (by omega)) (by show hasM2 175; unfold hasM2; omega) rfl
    · refine wfm src _ (rexWR_le _ _).2 (mod8 _).1 (mod8 _).2 (opOk2 (by omega)) (by show hasM2 (64 + i.cond); unfold hasM2; omega) ?_
      show 0 = nlen2 (64 + i.cond)
      unfold nlen2; rw [if_neg (by omega)]
    · exact wfm src _ (rexWR_le _ _).2 (mod8 _).1 (mod8 _).2 (opOk2 (by omega)) (by show hasM2 182; unfold hasM2; omega) rfl
    · exact wfm src _ (rexWR_le _ _).2 (mod8 _).1 (mod8 _).2 (opOk2 (by omega)) (by show hasM2 190; unfold hasM2; omega) rfl
  | one op sz cd sh to src =>
    rw [e_one op]
    have hk : 0 ≤ oneK i.op ∧ oneK i.op ≤ 7 ∧ (i.op ≤ 14 → oneK i.op ≠ 0) := by unfold oneK; split <;> (try split) <;> (try split) <;> omega
    have ho : (oneOp i.op i.size = 246 ∨ oneOp i.op i.size = 247) ∧ i.op ≤ 14 ∨ 254 ≤ oneOp i.op i.size ∧ oneOp i.op i.size ≤ 255 := by
      unfold oneOp
      rcases sz_or sz with s | s
      · rw [szOp_1 s, szOp_1 s]; split <;> omega
      · rw [szOp_n s, szOp_n s]; split <;> omega
    exact wfm to _ (rexW_le15 _) hk.1 hk.2.1 (opOk1 (by omega) (by omega) (by omega)) (m_1 (by unfold hasM1; omega)) (by rw [nlen_0 (by omega)]; rfl)
  | set op sz c0 c1 sh to src =>
    rw [e_set op]
    refine wfm to _ (by decide) (by decide) (by decide) (opOk2 (by omega)) (by show hasM2 (144 + i.cond); unfold hasM2; omega) ?_
    show 0 = nlen2 (144 + i.cond)
    unfold nlen2; rw [if_neg (by omega)]
  | shr op sz cd sh to src r =>
    rw [e_shr op src]
    have hk : 0 ≤ shK i.op ∧ shK i.op ≤ 7 := by
      have : i.op = 17 ∨ i.op = 18 ∨ i.op = 19 := by omega
      rcases this with h | h | h <;> rw [h] <;> decide
    have ho : szOp i.size 210 211 = 210 ∨ szOp i.size 210 211 = 211 := by
      rcases sz_or sz with s | s
      · exact .inl (szOp_1 s)
      · exact .inr (szOp_n s)
    exact wfm to _ (rexW_le15 _) hk.1 hk.2 (opOk1 (by omega) (by omega) (by omega)) (m_1 (by unfold hasM1; omega)) (by rw [nlen_0 (by omega)]; rfl)
  | shi op sz cd sh to src n0 n1 =>
    rw [e_shi op src]
    have hk : 0 ≤ shK i.op ∧ shK i.op ≤ 7 := by
      have : i.op = 17 ∨ i.op = 18 ∨ i.op = 19 := by omega
      rcases this with h | h | h <;> rw [h] <;> decide
    have ho : szOp i.size 192 193 = 192 ∨ szOp i.size 192 193 = 193 := by
      rcases sz_or sz with s | s
      · exact .inl (szOp_1 s)
      · exact .inr (szOp_n s)
    exact wfm to _ (rexW_le15 _) hk.1 hk.2 (opOk1 (by omega) (by omega) (by omega)) (m_1 (by unfold hasM1; omega)) (by rw [nlen_1 (by omega)]; exact leL_l1 _)
  | push op sz cd sh to src =>
    rcases src with src | src
    · have r0 := src.r0
      have r1 := src.r1
      rw [e_pushr op src]
      unfold plusE
      rw [tmod8 _ r0]
      refine wf_p ?_ (opOk1 (by omega) (by omega) (by omega)) (fun h => by have : hasM1 _ := h; unfold hasM1 at this; omega) (by rw [nlen_0 (by omega)]; rfl)
      cases decide (i.src.r ≥ 8) <;> decide
    · rw [e_pushm op src]
      exact wfm (.inr src) _ (by omega) (by omega) (by omega) (opOk1 (by omega) (by omega) (by omega)) (m_1 (by unfold hasM1; omega)) (by rw [nlen_0 (by omega)]; rfl)
  | pushi op sz cd sh to src w =>
    rw [e_pushi op src]
    cases byteN i.src.n with
    | true => exact wf_p (by decide) (opOk1 (by omega) (by omega) (by omega)) (fun h => by have : hasM1 _ := h; unfold hasM1 at this; omega) (by rw [nlen_1 (by omega)]; exact leL_l1 _)
    | false => exact wf_p (by decide) (opOk1 (by omega) (by omega) (by omega)) (fun h => by have : hasM1 _ := h; unfold hasM1 at this; omega) (by rw [nlen_4 (by omega)]; exact leL_l4 _)
  | pop op sz cd sh to src =>
    rcases to with to | to
    · have r0 := to.r0
      have r1 := to.r1
      rw [e_popr op to]
      unfold plusE
      rw [tmod8 _ r0]
      refine wf_p ?_ (opOk1 (by omega) (by omega) (by omega)) (fun h => by have : hasM1 _ := h; unfold hasM1 at this; omega) (by rw [nlen_0 (by omega)]; rfl)
      cases decide (i.to.r ≥ 8) <;> decide
    · rw [e_popm op to]
      exact wfm (.inr to) _ (by omega) (by omega) (by omega) (opOk1 (by omega) (by omega) (by omega)) (m_1 (by unfold hasM1; omega)) (by rw [nlen_0 (by omega)]; rfl)
  | jt op sz c0 c1 cd sh to src =>
    rw [e_jt op to]
    unfold jOp jSize
    cases hs : i.short with
    | true =>
      have h22 := (sh hs).1
      rcases op with op | op | op
      · exact absurd op h22
      · rw [op]
        exact wf_p (by decide) (opOk1 (by omega) (by omega) (by omega)) (fun h => by have : hasM1 _ := h; unfold hasM1 at this; omega) (by show (leL i.to.n 1).length = nlen [235] _ _; rw [nlen_1 (by omega)]; exact leL_l1 _)
      · rw [op]
        exact wf_p (by decide) (opOk1 (by omega) (by omega) (by omega)) (fun h => by have : hasM1 _ := h; unfold hasM1 at this; omega) (by show (leL i.to.n 1).length = nlen [112 + i.cond] _ _; rw [nlen_1 (by omega)]; exact leL_l1 _)
    | false =>
      rcases op with op | op | op <;> rw [op]
      · exact wf_p (by decide) (opOk1 (by omega) (by omega) (by omega)) (fun h => by have : hasM1 _ := h; unfold hasM1 at this; omega) (by show (leL i.to.n 4).length = nlen [232] _ _; rw [nlen_4 (by omega)]; exact leL_l4 _)
      · exact wf_p (by decide) (opOk1 (by omega) (by omega) (by omega)) (fun h => by have : hasM1 _ := h; unfold hasM1 at this; omega) (by show (leL i.to.n 4).length = nlen [233] _ _; rw [nlen_4 (by omega)]; exact leL_l4 _)
      · refine wf_p (by decide) (opOk2 (by omega)) (fun h => by have : hasM2 (128 + i.cond) := h; unfold hasM2 at this; omega) ?_
        show (leL i.to.n 4).length = nlen2 (128 + i.cond)
        unfold nlen2; rw [if_pos (by omega)]; exact leL_l4 _
  | jm op sz cd sh to src =>
    rw [e_jm op to]
    have hk : (0 : Int) ≤ (if i.op = 22 then 2 else 4) ∧ (if i.op = 22 then 2 else 4) ≤ (7 : Int) := by split <;> omega
    exact wfm to _ (by omega) hk.1 hk.2 (opOk1 (by omega) (by omega) (by omega)) (m_1 (by unfold hasM1; omega)) (by rw [nlen_0 (by omega)]; rfl)
  | bare op sz cd sh to src =>
    rw [e_bare op]
    have : i.op = 25 ∨ i.op = 26 ∨ i.op = 33 ∨ i.op = 34 ∨ i.op = 35 := by omega
    rcases this with op | op | op | op | op <;> rw [op]
    · exact wf_p (by decide) (opOk1 (by omega) (by omega) (by omega)) (fun h => by have : hasM1 195 := h; unfold hasM1 at this; omega) rfl
    · exact wf_p (by decide) (opOk1 (by omega) (by omega) (by omega)) (fun h => by have : hasM1 201 := h; unfold hasM1 at this; omega) rfl
    · exact wf_p (by decide) (opOk1 (by omega) (by omega) (by omega)) (fun h => by have : hasM1 144 := h; unfold hasM1 at this; omega) rfl
    · exact wf_p (by decide) (opOk2 (by omega)) (fun h => by have : hasM2 11 := h; unfold hasM2 at this; omega) rfl
    · exact wf_p (by decide) (opOk2 (by omega)) (fun h => by have : hasM2 5 := h; unfold hasM2 at this; omega) rfl
theorem form_wf {i : Ins} (f : Form i) : (pcI i).Wf ∧ (pcI i).flat = (encI i).bytes := by
  by_cases h : i.op = 32
  · unfold pcI
    rw [if_pos h, e_bare (by omega), h]
    exact ⟨⟨.inr (by decide), opOk1 (by decide) (by decide) (by omega), fun h => by have : hasM1 153 := h; unfold hasM1 at this; omega, fun _ => rfl, rfl, inB_nil, inB_nil⟩, rfl⟩
  · rw [pc_ne h]; exact form_wfE f h
/-- No instruction's bytes begin another one's. -/
theorem bytes_inj {i k : Ins} (f : Form i) (g : Form k) {x y : List Int} (h : (encI i).bytes ++ x = (encI k).bytes ++ y) : pcI i = pcI k ∧ x = y := by
  rw [← (form_wf f).2, ← (form_wf g).2] at h
  exact flat_inj (form_wf f).1 (form_wf g).1 h
end Go.Proofs.Ythmighgfefjcmaa.Enc
end

section
/- Holes: where they are, what stands there; names have no part in bytes. No condition. -/
set_option maxRecDepth 100000
namespace Go.Proofs.Ythmighgfefjcmaa.Enc
open Go.RowKit Go.Proofs.Ythmighgfefjcmaa.X Go.IntWalk

inductive Shape (i : Ins) (e : Enc) : Prop where
  | mt (W k : Int) (force : Bool) (op num : List Int) (he : e = mE W k i.to force op num) (ho : RmO i.to) (hs : anon i.src = true)
  | ms (W k : Int) (force : Bool) (op num : List Int) (he : e = mE W k i.src force op num) (ho : RmO i.src) (hs : anon i.to = true)
  | p (r : Int) (force : Bool) (op num : List Int) (he : e = { rex := r, force := force, op := op, number := num }) (h1 : anon i.to = true) (h2 : anon i.src = true)
  | j (he : e = { op := jOp i, number := leL i.to.n (jSize i).toNat, holes := jHole i }) (ho : TgtO i.to) (hs : anon i.src = true)
theorem shape {i : Ins} (f : Form i) : Shape i (encI i) := by
  cases f with
  | rr op sz sz2 cd sh to src => exact .mt _ _ _ _ _ (e_rr op src) to src.name
  | rm op sz cd sh to src => exact .ms _ _ _ _ _ (e_rm op to src) (.inr src) to.name
  | ri op sz cd sh to src fits =>
    rcases op with op | op | op
    · by_cases hr : ∃ _ : RegO i.to, i.size < 8
      · obtain ⟨hr, h8⟩ := hr
        exact .p _ _ _ _ (e_mv op src hr (.inl h8)) hr.name src.name
      · have hm : MemO i.to ∨ (RegO i.to ∧ i.size = 8 ∧ fits32 i.src.n = true) := by
          rcases to with to | to
          · right
            have s8 : i.size = 8 := by
              rcases sz with s | s | s
              · exact absurd ⟨to, by omega⟩ hr
              · exact absurd ⟨to, by omega⟩ hr
              · exact s
            refine ⟨to, s8, ?_⟩
            rw [s8] at fits
            exact fits
          · exact .inl to
        exact .mt _ _ _ _ _ (e_mv2 op src hm) to src.name
    · by_cases h : i.size ≠ 1 ∧ short8 i.size i.src.n = true
      · exact .mt _ _ _ _ _ (e_gi op src h) to src.name
      · have h2 : i.size = 1 ∨ short8 i.size i.src.n = false := by
          by_cases h1 : i.size = 1
          · exact .inl h1
          · right
            cases hh : short8 i.size i.src.n with
            | false => rfl
            | true => exact absurd ⟨h1, hh⟩ h
        exact .mt _ _ _ _ _ (e_gi2 op src h2) to src.name
    · exact .mt _ _ _ _ _ (e_ti op src) to src.name
  | mi op sz cd sh to src =>
    cases hf : fits32 i.src.n with
    | true => exact .mt _ _ _ _ _ (e_mv2 op src (.inr ⟨to, sz, hf⟩)) (.inl to) src.name
    | false => exact .p _ _ _ _ (e_mv op src to (.inr hf)) to.name src.name
  | lea op sz cd sh to src fs => exact .ms _ _ _ _ _ (e_ld (.inl op) to) (.inr src) to.name
  | ld op sz c0 c1 cd sh to src => exact .ms _ _ _ _ _ (e_ld (.inr op) to) src to.name
  | one op sz cd sh to src => exact .mt _ _ _ _ _ (e_one op) to src.name
  | set op sz c0 c1 sh to src => exact .mt _ _ _ _ _ (e_set op) to src.name
  | shr op sz cd sh to src r => exact .mt _ _ _ _ _ (e_shr op src) to src.name
  | shi op sz cd sh to src n0 n1 => exact .mt _ _ _ _ _ (e_shi op src) to src.name
  | push op sz cd sh to src =>
    rcases src with src | src
    · exact .p _ _ _ _ (e_pushr op src) to.name src.name
    · exact .ms _ _ _ _ _ (e_pushm op src) (.inr src) to.name
  | pushi op sz cd sh to src w =>
    have := e_pushi op src
    cases hb : byteN i.src.n with
    | true => rw [hb] at this; exact .p _ _ _ _ this to.name src.name
    | false => rw [hb] at this; exact .p _ _ _ _ this to.name src.name
  | pop op sz cd sh to src =>
    rcases to with to | to
    · exact .p _ _ _ _ (e_popr op to) to.name src.name
    · exact .mt _ _ _ _ _ (e_popm op to) (.inr to) src.name
  | jt op sz c0 c1 cd sh to src => exact .j (e_jt op to) to src.name
  | jm op sz cd sh to src => exact .mt _ _ _ _ _ (e_jm op to) to src.name
  | bare op sz cd sh to src => exact .p _ _ _ _ (e_bare op) to.name src.name

/-- The bytes at a hole. -/
structure HoleAt (e : Enc) (h : Hol) : Prop where
  at_ : ∃ pre post, e.bytes = pre ++ (List.replicate h.size.toNat 0 ++ post) ∧ h.at_ = (pre.length : Int) ∧ 1 ≤ pre.length
  s0 : 1 ≤ h.size
  s1 : h.size ≤ 4
theorem leL0_4 : leL 0 4 = List.replicate 4 0 := rfl
theorem leL0_1 : leL 0 1 = List.replicate 1 0 := rfl
theorem rm_hole {k : Int} {o : Opd} {h : Hol} (hh : h ∈ rmHoles k o) (ho : RmO o) : h.at_ = ((rmHead k o).length : Int) ∧ h.size = 4 ∧ h.name = o.name ∧ anon o = false ∧ rmTail k o = rmHead k o ++ List.replicate 4 0 ∧ rmHoles k o = [h] := by
  rcases ho with ho | ho
  · unfold rmHoles at hh; rw [isR_reg ho] at hh; cases hh
  · have ha : anon o = false := by
      cases ha : anon o with
      | false => rfl
      | true => unfold rmHoles namedH at hh; rw [isR_mem ho, ha] at hh; cases hh
    have hs : rmSize o = 4 := by
      unfold rmSize sizO
      rw [isR_mem ho, ha]
      cases o.rip <;> cases o.fs <;> rfl
    have hd : dispN o = 0 := by unfold dispN; rw [ha]; rfl
    have ht : rmTail k o = rmHead k o ++ List.replicate 4 0 := by unfold rmTail; rw [hs, hd]; rfl
    unfold rmHoles namedH at hh ⊢
    rw [isR_mem ho, ha] at hh ⊢
    simp only [cond_false, List.mem_singleton] at hh
    subst hh
    exact ⟨rfl, rfl, rfl, rfl, ht, rfl⟩
theorem m_hole {W k : Int} {o : Opd} {force : Bool} {op num : List Int} (ho : RmO o) {h : Hol} (hh : h ∈ (mE W k o force op num).hols) : HoleAt (mE W k o force op num) h ∧ h.name = o.name ∧ anon o = false ∧ (mE W k o force op num).hols = [h] := by
  unfold Enc.hols at hh ⊢
  obtain ⟨h', h1, rfl⟩ := List.mem_map.1 hh
  obtain ⟨a1, a2, a3, a4, a5, a6⟩ := rm_hole (show h' ∈ rmHoles k o from h1) ho
  have e2 : (mE W k o force op num).inTail = true := by
    show (!(rmHoles k o).isEmpty) = true
    rw [a6]; rfl
  have hl := (rmHead_len k o).1
  refine ⟨⟨⟨(mE W k o force op num).front ++ rmHead k o, num, ?_, ?_, ?_⟩, ?_, ?_⟩, a3, a4, ?_⟩
  · show (mE W k o force op num).front ++ rmTail k o ++ num = _
    rw [a5]
    show _ = _ ++ (List.replicate h'.size.toNat 0 ++ num)
    rw [a2]
    simp only [List.append_assoc]; rfl
  · show h'.at_ + (mE W k o force op num).at_ = _
    unfold Enc.at_
    rw [e2, a1]
    show ((rmHead k o).length : Int) + ((mE W k o force op num).front.length : Int) = _
    rw [List.length_append]; omega
  · rw [List.length_append]; omega
  · show 1 ≤ h'.size; omega
  · show h'.size ≤ 4; omega
  · show (rmHoles k o).map _ = _
    rw [a6]; rfl
theorem j_hole {i : Ins} (ho : TgtO i.to) (h1 : 1 ≤ (jOp i).length) {h : Hol} (hh : h ∈ (Enc.hols { op := jOp i, number := leL i.to.n (jSize i).toNat, holes := jHole i })) :
    HoleAt { op := jOp i, number := leL i.to.n (jSize i).toNat, holes := jHole i } h ∧ h.name = i.to.name ∧ anon i.to = false ∧ (Enc.hols { op := jOp i, number := leL i.to.n (jSize i).toNat, holes := jHole i }) = [h] := by
  unfold Enc.hols at hh ⊢
  obtain ⟨h', h2, rfl⟩ := List.mem_map.1 hh
  have h2 : h' ∈ jHole i := h2
  have ha : anon i.to = false := by
    cases ha : anon i.to with
    | false => rfl
    | true => unfold jHole at h2; rw [ha] at h2; cases h2
  have hn := (ho.named ha).1
  have e1 : jHole i = [h'] := by
    unfold jHole at h2 ⊢
    rw [ha] at h2 ⊢
    simp only [cond_false, List.mem_singleton] at h2 ⊢
    rw [h2]
  have b1 : h'.at_ = 0 ∧ h'.size = jSize i ∧ h'.name = i.to.name := by
    unfold jHole at h2
    rw [ha] at h2
    simp only [cond_false, List.mem_singleton] at h2
    rw [h2]; exact ⟨rfl, rfl, rfl⟩
  have hj : jSize i = 1 ∨ jSize i = 4 := by unfold jSize; cases i.short <;> simp
  have hz : leL i.to.n (jSize i).toNat = List.replicate (jSize i).toNat 0 := by
    rw [hn]
    rcases hj with hj | hj <;> rw [hj] <;> rfl
  have hf : (Enc.front { op := jOp i, number := leL i.to.n (jSize i).toNat, holes := jHole i }) = jOp i := by
    show [] ++ rexL 0 false ++ jOp i = _
    rfl
  refine ⟨⟨⟨jOp i, [], ?_, ?_, h1⟩, ?_, ?_⟩, b1.2.2, ha, ?_⟩
  · show (Enc.front { op := jOp i, number := leL i.to.n (jSize i).toNat, holes := jHole i }) ++ [] ++ leL i.to.n (jSize i).toNat = _
    show _ = jOp i ++ (List.replicate h'.size.toNat 0 ++ [])
    rw [hf, hz, b1.2.1]; simp
  · show h'.at_ + Enc.at_ { op := jOp i, number := leL i.to.n (jSize i).toNat, holes := jHole i } = _
    unfold Enc.at_
    show h'.at_ + (((Enc.front { op := jOp i, number := leL i.to.n (jSize i).toNat, holes := jHole i }) ++ []).length : Int) = _
    rw [hf, b1.1]; simp
  · show 1 ≤ h'.size; omega
  · show h'.size ≤ 4; omega
  · show (jHole i).map _ = _
    rw [e1]; rfl
/-- The hole of an instruction: where, and whose name. -/
theorem form_hole {i : Ins} (f : Form i) {h : Hol} (hh : h ∈ (encI i).hols) (hop : 1 ≤ (encI i).op.length) : HoleAt (encI i) h ∧ (encI i).hols = [h] ∧ ((h.name = i.to.name ∧ anon i.to = false ∧ anon i.src = true) ∨ (h.name = i.src.name ∧ anon i.src = false ∧ anon i.to = true)) := by
  rcases shape f with ⟨W, k, force, op, num, he, ho, hs⟩ | ⟨W, k, force, op, num, he, ho, hs⟩ | ⟨r, force, op, num, he, _, _⟩ | ⟨he, ho, hs⟩ <;> rw [he] at hh hop ⊢
  · have := m_hole ho hh; exact ⟨this.1, this.2.2.2, .inl ⟨this.2.1, this.2.2.1, hs⟩⟩
  · have := m_hole ho hh; exact ⟨this.1, this.2.2.2, .inr ⟨this.2.1, this.2.2.1, hs⟩⟩
  · cases hh
  · have := j_hole ho hop hh; exact ⟨this.1, this.2.2.2, .inl ⟨this.2.1, this.2.2.1, hs⟩⟩

/-- What has the same bytes. -/
structure SameB (a b : Enc) : Prop where
  pre : a.pre = b.pre
  rex : a.rex = b.rex
  force : a.force = b.force
  op : a.op = b.op
  tail : a.tail = b.tail
  number : a.number = b.number
theorem SameB.rfl' (a : Enc) : SameB a a := ⟨rfl, rfl, rfl, rfl, rfl, rfl⟩
theorem SameB.bytes {a b : Enc} (h : SameB a b) : a.bytes = b.bytes := by
  unfold Enc.bytes Enc.front
  rw [h.pre, h.rex, h.force, h.op, h.tail, h.number]
theorem sameB_bif {c : Bool} {x y x' y' : Enc} (h1 : SameB x x') (h2 : SameB y y') : SameB (bif c then x else y) (bif c then x' else y') := by cases c <;> assumption
section
variable {o : Opd} {a : ByteArray}
theorem ren_tail (h : anon { o with name := a } = anon o) (k : Int) : rmTail k { o with name := a } = rmTail k o := by
  have hd : dispN { o with name := a } = dispN o := by unfold dispN; rw [h]
  have h0 : disp0 { o with name := a } = disp0 o := by unfold disp0; rw [hd]
  have h1 : disp1 { o with name := a } = disp1 o := by unfold disp1; rw [hd]
  have hm : modO { o with name := a } = modO o := by unfold modO; rw [h, h0, h1]
  have hz : sizO { o with name := a } = sizO o := by unfold sizO; rw [h, h0, h1]
  have hh : rmHead k { o with name := a } = rmHead k o := by unfold rmHead; rw [hm]; rfl
  have hs : rmSize { o with name := a } = rmSize o := by unfold rmSize; rw [hz]; rfl
  unfold rmTail
  rw [hh, hs, hd]
theorem ren_m (h : anon { o with name := a } = anon o) (W k : Int) (force : Bool) (op num : List Int) : SameB (mE W k { o with name := a } force op num) (mE W k o force op num) :=
  ⟨rfl, rfl, rfl, rfl, ren_tail h k, rfl⟩
end
def renI (i : Ins) (a b : ByteArray) : Ins := { i with to := { i.to with name := a }, src := { i.src with name := b } }
theorem ren_bytes (i : Ins) (a b : ByteArray) (ha : anon { i.to with name := a } = anon i.to) (hb : anon { i.src with name := b } = anon i.src) : (encI (renI i a b)).bytes = (encI i).bytes := by
  refine SameB.bytes ?_
  have hi : SameB (immE (renI i a b)) (immE i) := sameB_bif (.rfl' _) (sameB_bif (ren_m ha _ _ _ _ _) (sameB_bif (ren_m ha _ _ _ _ _) (sameB_bif (ren_m ha _ _ _ _ _) (ren_m ha _ _ _ _ _))))
  refine sameB_bif (sameB_bif hi (sameB_bif (ren_m ha _ _ _ _ _) (ren_m hb _ _ _ _ _))) (sameB_bif (sameB_bif (ren_m ha _ _ _ _ _) (ren_m ha _ _ _ _ _)) (sameB_bif ?_ (sameB_bif ?_ ?_)))
  · exact sameB_bif (.rfl' _) (sameB_bif (.rfl' _) (sameB_bif (ren_m ha _ _ _ _ _) (sameB_bif (ren_m hb _ _ _ _ _) (sameB_bif (.rfl' _) (.rfl' _)))))
  · exact sameB_bif (ren_m ha _ _ _ _ _) ⟨rfl, rfl, rfl, rfl, rfl, rfl⟩
  · exact sameB_bif (ren_m hb _ _ _ _ _) (sameB_bif (ren_m hb _ _ _ _ _) (sameB_bif (ren_m hb _ _ _ _ _) (sameB_bif (ren_m hb _ _ _ _ _) (sameB_bif (ren_m hb _ _ _ _ _) (sameB_bif (ren_m ha _ _ _ _ _) (sameB_bif (ren_m ha _ _ _ _ _) (sameB_bif (ren_m ha _ _ _ _ _) (sameB_bif (ren_m ha _ _ _ _ _) (sameB_bif (ren_m ha _ _ _ _ _) (.rfl' _))))))))))
end Go.Proofs.Ythmighgfefjcmaa.Enc
end

section
/- What an instruction is, told by its bytes: operands. No condition. -/
set_option maxRecDepth 100000
namespace Go.Proofs.Ythmighgfefjcmaa.Enc
open Go.RowKit Go.Proofs.Ythmighgfefjcmaa.X Go.IntWalk

/-- A number of bytes, with its sign. -/
def uval (l : List Int) : Int := l.foldr (fun x a => x + 256 * a) 0
def sval (l : List Int) : Int := if 2 * uval l ≥ 256 ^ l.length then uval l - 256 ^ l.length else uval l
theorem sval_0 (n : Int) : sval (leL n 0) = 0 := rfl
theorem sval_1 (n : Int) : sval (leL n 1) = (n + 128) % 256 - 128 := by
  show (if 2 * (n % 256 + 256 * 0) ≥ 256 ^ 1 then n % 256 + 256 * 0 - 256 ^ 1 else n % 256 + 256 * 0) = _
  split <;> omega
theorem sval_4 (n : Int) : sval (leL n 4) = (n + 2147483648) % 4294967296 - 2147483648 := by
  show (if 2 * (n % 256 + 256 * (n / 256 % 256 + 256 * (n / 65536 % 256 + 256 * (n / 16777216 % 256 + 256 * 0)))) ≥ 256 ^ 4 then n % 256 + 256 * (n / 256 % 256 + 256 * (n / 65536 % 256 + 256 * (n / 16777216 % 256 + 256 * 0))) - 256 ^ 4 else n % 256 + 256 * (n / 256 % 256 + 256 * (n / 65536 % 256 + 256 * (n / 16777216 % 256 + 256 * 0)))) = _
  have e : n % 256 + 256 * (n / 256 % 256 + 256 * (n / 65536 % 256 + 256 * (n / 16777216 % 256 + 256 * 0))) = n % 4294967296 := by omega
  rw [e]
  split <;> omega
theorem sval_8 {n : Int} (h0 : -9223372036854775808 ≤ n) (h1 : n ≤ 9223372036854775807) : sval (leL n 8) = n := by
  show (if 2 * (n % 256 + 256 * (n / 256 % 256 + 256 * (n / 65536 % 256 + 256 * (n / 16777216 % 256 + 256 * (n / 4294967296 % 256 + 256 * (n / 1099511627776 % 256 + 256 * (n / 281474976710656 % 256 + 256 * (n / 72057594037927936 % 256 + 256 * 0)))))))) ≥ 256 ^ 8 then n % 256 + 256 * (n / 256 % 256 + 256 * (n / 65536 % 256 + 256 * (n / 16777216 % 256 + 256 * (n / 4294967296 % 256 + 256 * (n / 1099511627776 % 256 + 256 * (n / 281474976710656 % 256 + 256 * (n / 72057594037927936 % 256 + 256 * 0))))))) - 256 ^ 8 else n % 256 + 256 * (n / 256 % 256 + 256 * (n / 65536 % 256 + 256 * (n / 16777216 % 256 + 256 * (n / 4294967296 % 256 + 256 * (n / 1099511627776 % 256 + 256 * (n / 281474976710656 % 256 + 256 * (n / 72057594037927936 % 256 + 256 * 0)))))))) = n
  have e : n % 256 + 256 * (n / 256 % 256 + 256 * (n / 65536 % 256 + 256 * (n / 16777216 % 256 + 256 * (n / 4294967296 % 256 + 256 * (n / 1099511627776 % 256 + 256 * (n / 281474976710656 % 256 + 256 * (n / 72057594037927936 % 256 + 256 * 0))))))) = n % 18446744073709551616 := by omega
  rw [e]
  split <;> omega

def bI (b : Bool) : Int := if b then 1 else 0
/-- What is told of an operand: all but its name and mod. -/
def okey (o : Opd) : List Int := [o.kind, o.r, o.base, o.index, o.scale, bI o.rip, bI o.fs, if anon o then o.n else 0, if anon o then 0 else 1]
def regKey (r : Int) : List Int := [1, r, 0, 0, 0, 0, 0, 0, 0]
def noKey : List Int := [0, 0, 0, 0, 0, 0, 0, 0, 0]
def immKey (n : Int) : List Int := [2, 0, 0, 0, 0, 0, 0, n, 0]
def tgtKey (n : Int) (h : Bool) : List Int := [4, 0, 0, 0, 0, 0, 0, n, bI h]
def memKey (base index scale rip fs n : Int) (h : Bool) : List Int := [3, 0, base, index, scale, rip, fs, n, bI h]
theorem okey_reg {o : Opd} (h : RegO o) : okey o = regKey o.r := by
  unfold okey regKey
  rw [h.kind, h.base, h.index, h.scale, h.rip, h.fs, h.n, h.name]; rfl
theorem okey_none {o : Opd} (h : NoneO o) : okey o = noKey := by
  unfold okey noKey
  rw [h.kind, h.r, h.base, h.index, h.scale, h.rip, h.fs, h.n, h.name]; rfl
theorem okey_imm {o : Opd} (h : ImmO o) : okey o = immKey o.n := by
  unfold okey immKey
  rw [h.kind, h.r, h.base, h.index, h.scale, h.rip, h.fs, h.name]; rfl
theorem okey_tgt {o : Opd} (h : TgtO o) : okey o = tgtKey o.n (!anon o) := by
  unfold okey tgtKey
  rw [h.kind, h.r, h.base, h.index, h.scale, h.rip, h.fs]
  cases ha : anon o with
  | true => rfl
  | false => rw [(h.named ha).1]; rfl
theorem okey_mem {o : Opd} (h : MemO o) : okey o = memKey o.base o.index o.scale (bI o.rip) (bI o.fs) (dispN o) (!anon o) := by
  unfold okey memKey dispN
  rw [h.kind, h.r]
  cases ha : anon o <;> rfl

/-- An rm operand, told by its bytes; h: it has a name. -/
def undoRm (fs : Bool) (rex : Int) (t : List Int) (h : Bool) : List Int :=
  if t.getD 0 0 / 64 = 3 then regKey (t.getD 0 0 % 8 + 8 * (rex % 2))
  else if fs then memKey (-1) (-1) 0 0 1 (sval (t.drop 2)) h
  else if t.getD 0 0 / 64 = 0 ∧ t.getD 0 0 % 8 = 5 then memKey (-1) (-1) 0 1 0 (sval (t.drop 1)) h
  else if t.getD 0 0 % 8 = 4 then
    if t.getD 1 0 / 8 % 8 + 8 * (rex / 2 % 2) = 4 then memKey (t.getD 1 0 % 8 + 8 * (rex % 2)) (-1) 0 0 0 (sval (t.drop 2)) h
    else memKey (t.getD 1 0 % 8 + 8 * (rex % 2)) (t.getD 1 0 / 8 % 8 + 8 * (rex / 2 % 2)) (2 ^ (t.getD 1 0 / 64).toNat) 0 0 (sval (t.drop 2)) h
  else memKey (t.getD 0 0 % 8 + 8 * (rex % 2)) (-1) 0 0 0 (sval (t.drop 1)) h
theorem disp_ok {o : Opd} (h : MemO o) (h1 : rmSize o = sizO o) : sval (leL (dispN o) (rmSize o)) = dispN o := by
  have hn : -2147483648 ≤ dispN o ∧ dispN o < 2147483648 := by
    unfold dispN
    cases anon o with
    | true => exact ⟨h.n0, h.n1⟩
    | false => exact (show -2147483648 ≤ (0 : Int) ∧ (0 : Int) < 2147483648 by decide)
  rw [h1]
  rcases modO_siz o with ⟨_, s, _, e⟩ | ⟨_, s, e0, e1, _⟩ | ⟨_, s⟩ <;> rw [s]
  · rw [e]; rfl
  · rw [sval_1]; omega
  · rw [sval_4]; omega
theorem disp_ok4 {o : Opd} (h : MemO o) (h1 : rmSize o = 4) : sval (leL (dispN o) (rmSize o)) = dispN o := by
  have hn : -2147483648 ≤ dispN o ∧ dispN o < 2147483648 := by
    unfold dispN
    cases anon o with
    | true => exact ⟨h.n0, h.n1⟩
    | false => exact (show -2147483648 ≤ (0 : Int) ∧ (0 : Int) < 2147483648 by decide)
  rw [h1, sval_4]; omega
theorem rmRex_reg {o : Opd} (h : RegO o) : rmRex o = if o.r ≥ 8 then 1 else 0 := by
  unfold rmRex
  rw [isR_reg h]
  by_cases h8 : o.r ≥ 8
  · rw [decide_eq_true h8, if_pos h8]; rfl
  · rw [decide_eq_false h8, if_neg h8]; rfl
theorem rmRex_mem {o : Opd} (h : MemO o) (h1 : o.rip = false) (h2 : o.fs = false) : rmRex o = (if o.base ≥ 8 then 1 else 0) + (if o.index ≥ 8 then 2 else 0) := by
  unfold rmRex
  rw [isR_mem h, h1, h2]
  by_cases h8 : o.base ≥ 8 <;> by_cases h9 : o.index ≥ 8
  · rw [decide_eq_true h8, if_pos h8, decide_eq_true h9, if_pos h9]; rfl
  · rw [decide_eq_true h8, if_pos h8, decide_eq_false h9, if_neg h9]; rfl
  · rw [decide_eq_false h8, if_neg h8, decide_eq_true h9, if_pos h9]; rfl
  · rw [decide_eq_false h8, if_neg h8, decide_eq_false h9, if_neg h9]; rfl
theorem pow_log {s : Int} (h : s = 1 ∨ s = 2 ∨ s = 4 ∨ s = 8) : (2 : Int) ^ (logS s).toNat = s := by rcases h with rfl | rfl | rfl | rfl <;> rfl
theorem undoRm_ok {o : Opd} (h : RmO o) {k rex : Int} (h0 : 0 ≤ k) (h1 : k ≤ 7) (hb : rex % 2 = rmRex o % 2) (hx : rex / 2 % 2 = rmRex o / 2 % 2) :
    undoRm (!(rmPre o).isEmpty) rex (rmTail k o) (!anon o) = okey o := by
  have hsz := modO_siz o
  unfold rmTail
  rcases rm_cases h k with ⟨c, e1, e2⟩ | ⟨c, c1, e1, e2⟩ | ⟨c, c1, c2, e1, e2⟩ | ⟨c, c1, c2, c3, e1, e2⟩ | ⟨c, c1, c2, c3, c4, e1, e2⟩ | ⟨c, c1, c2, c3, c4, e1, e2⟩
  · have r0 := c.r0
    have r1 := c.r1
    rw [e1, okey_reg c]
    unfold undoRm
    simp only [List.cons_append, List.nil_append, List.getD_cons_zero]
    rw [if_pos (by omega), hb, rmRex_reg c]
    congr 1
    split <;> omega
  · have hp : rmPre o = [] := by unfold rmPre; rw [isR_mem c, c1]; rfl
    have hh : o.fs = false ∧ o.base = -1 ∧ o.index = -1 ∧ o.scale = 0 := by
      rcases c.how with hh | hh | hh
      · exact hh.2
      · rw [c1] at hh; cases hh.1
      · rw [c1] at hh; cases hh.1
    rw [hp, e1, okey_mem c, hh.1, hh.2.1, hh.2.2.1, hh.2.2.2, c1]
    unfold undoRm
    simp only [List.cons_append, List.nil_append, List.getD_cons_zero, List.drop_succ_cons, List.drop_zero, List.isEmpty_nil, Bool.not_true]
    rw [if_neg (by omega), if_neg (by decide), if_pos (by omega), disp_ok4 c e2]; rfl
  · have hp : rmPre o = [100] := by unfold rmPre; rw [isR_mem c, c1, c2]; rfl
    have hh : o.base = -1 ∧ o.index = -1 ∧ o.scale = 0 := by
      rcases c.how with hh | hh | hh
      · rw [c1] at hh; cases hh.1
      · exact hh.2.2
      · rw [c2] at hh; cases hh.2.1
    rw [hp, e1, okey_mem c, hh.1, hh.2.1, hh.2.2, c1, c2]
    unfold undoRm
    simp only [List.cons_append, List.nil_append, List.getD_cons_zero, List.drop_succ_cons, List.drop_zero, List.isEmpty_cons, Bool.not_false]
    rw [if_neg (by omega), if_pos trivial, disp_ok4 c e2]; rfl
  · obtain ⟨b0, b1, b2⟩ := c.based c1 c2
    have hp : rmPre o = [] := by unfold rmPre; rw [isR_mem c, c1, c2]; rfl
    have hs : o.index ≤ 15 ∧ o.index ≠ 4 ∧ (o.scale = 1 ∨ o.scale = 2 ∨ o.scale = 4 ∨ o.scale = 8) := by
      rcases b2 with b2 | b2
      · omega
      · exact b2.2
    have hm : 0 ≤ modO o ∧ modO o ≤ 2 := by omega
    have hl := logS_le o.scale
    rw [hp, e1, okey_mem c, c1, c2]
    have hrx := rmRex_mem c c1 c2
    have xb : rex % 2 = if o.base ≥ 8 then 1 else 0 := by rw [hb, hrx]; split <;> split <;> omega
    have xx : rex / 2 % 2 = if o.index ≥ 8 then 1 else 0 := by rw [hx, hrx]; split <;> split <;> omega
    unfold undoRm
    simp only [List.cons_append, List.nil_append, List.getD_cons_zero, List.getD_cons_succ, List.drop_succ_cons, List.drop_zero, List.isEmpty_nil, Bool.not_true]
    rw [disp_ok c e2, xb, xx]
    have q1 : (64 * logS o.scale + 8 * (o.index % 8) + o.base % 8) / 8 % 8 + 8 * (if o.index ≥ 8 then 1 else 0) = o.index := by split <;> omega
    have q2 : (64 * logS o.scale + 8 * (o.index % 8) + o.base % 8) % 8 + 8 * (if o.base ≥ 8 then 1 else 0) = o.base := by split <;> omega
    have q3 : (64 * logS o.scale + 8 * (o.index % 8) + o.base % 8) / 64 = logS o.scale := by omega
    rw [if_neg (by omega), if_neg (by decide), if_neg (by omega), if_pos (by omega), q1, q2, q3, if_neg hs.2.1, pow_log hs.2.2]; rfl
  · obtain ⟨b0, b1, b2⟩ := c.based c1 c2
    have hp : rmPre o = [] := by unfold rmPre; rw [isR_mem c, c1, c2]; rfl
    have hs : o.scale = 0 := by
      rcases b2 with b2 | b2
      · exact b2.2
      · omega
    have hm : 0 ≤ modO o ∧ modO o ≤ 2 := by omega
    rw [hp, e1, okey_mem c, c1, c2, c3, hs]
    have hrx := rmRex_mem c c1 c2
    have xb : rex % 2 = if o.base ≥ 8 then 1 else 0 := by rw [hb, hrx]; split <;> split <;> omega
    have xx : rex / 2 % 2 = 0 := by rw [hx, hrx]; split <;> split <;> omega
    unfold undoRm
    simp only [List.cons_append, List.nil_append, List.getD_cons_zero, List.getD_cons_succ, List.drop_succ_cons, List.drop_zero, List.isEmpty_nil, Bool.not_true]
    rw [disp_ok c e2, xb, xx]
    have q2 : (36 : Int) % 8 + 8 * (if o.base ≥ 8 then 1 else 0) = o.base := by split <;> omega
    rw [if_neg (by omega), if_neg (by decide), if_neg (by omega), if_pos (by omega), if_pos (by omega), q2]; rfl
  · obtain ⟨b0, b1, b2⟩ := c.based c1 c2
    have hp : rmPre o = [] := by unfold rmPre; rw [isR_mem c, c1, c2]; rfl
    have hs : o.scale = 0 := by
      rcases b2 with b2 | b2
      · exact b2.2
      · omega
    have hm : 0 ≤ modO o ∧ modO o ≤ 2 := by omega
    have h5 : modO o = 0 → o.base % 8 ≠ 5 := fun hm0 => by
      rcases hsz with ⟨_, _, h5, _⟩ | ⟨h5, _⟩ | ⟨h5, _⟩
      · rwa [tmod8 _ b0] at h5
      · omega
      · omega
    rw [hp, e1, okey_mem c, c1, c2, c3, hs]
    have hrx := rmRex_mem c c1 c2
    have xb : rex % 2 = if o.base ≥ 8 then 1 else 0 := by rw [hb, hrx]; split <;> split <;> omega
    unfold undoRm
    simp only [List.cons_append, List.nil_append, List.getD_cons_zero, List.drop_succ_cons, List.drop_zero, List.isEmpty_nil, Bool.not_true]
    rw [disp_ok c e2, xb]
    have q2 : (64 * modO o + 8 * k + o.base % 8) % 8 + 8 * (if o.base ≥ 8 then 1 else 0) = o.base := by split <;> omega
    rw [if_neg (by omega), if_neg (by decide), if_neg (by omega), if_neg (by omega), q2]; rfl
end Go.Proofs.Ythmighgfefjcmaa.Enc
end

section
/- What an instruction is, told by its bytes. No condition. -/
set_option maxRecDepth 100000
namespace Go.Proofs.Ythmighgfefjcmaa.Enc
open Go.RowKit Go.Proofs.Ythmighgfefjcmaa.X Go.IntWalk

def keyI (op sz c : Int) (to src : List Int) (short : Int) : List Int := [op, sz, c] ++ to ++ src ++ [short]
def bareN (size n : Int) : Int := if size = 1 then (n + 128) % 256 - 128 else if size = 4 then (n + 2147483648) % 4294967296 - 2147483648 else n
def srcKey (i : Ins) : List Int := if i.src.kind = 2 then immKey (bareN i.size i.src.n) else okey i.src
/-- What bytes tell of an instruction. -/
def ikey (i : Ins) : List Int := keyI i.op i.size i.cond (okey i.to) (srcKey i) (bI i.short)
def szW (rex : Int) : Int := if rex / 8 % 2 = 1 then 8 else 4
def sz2 (o rex : Int) : Int := if o % 2 = 0 then 1 else szW rex
def unsh (k : Int) : Int := if k = 4 then 17 else if k = 5 then 18 else 19
def unOne (o rex reg : Int) (rm regk : List Int) (n : Int) (h : Bool) : List Int :=
  if o < 64 then (if o % 8 < 2 then keyI (3 + o / 8) (sz2 o rex) 0 rm regk 0 else keyI (3 + o / 8) (sz2 o rex) 0 regk rm 0)
  else if o < 88 then keyI 20 8 0 noKey (regKey (o - 80 + 8 * (rex % 2))) 0
  else if o < 96 then keyI 21 8 0 (regKey (o - 88 + 8 * (rex % 2))) noKey 0
  else if o < 112 then keyI 20 8 0 noKey (immKey n) 0
  else if o < 128 then keyI 24 8 (o - 112) (tgtKey n h) noKey 1
  else if o = 128 then keyI (3 + reg) 1 0 rm (immKey n) 0
  else if o < 132 then keyI (3 + reg) (szW rex) 0 rm (immKey n) 0
  else if o < 134 then keyI 11 (sz2 o rex) 0 rm regk 0
  else if o = 135 then keyI 31 (szW rex) 0 rm regk 0
  else if o < 138 then keyI 1 (sz2 o rex) 0 rm regk 0
  else if o < 140 then keyI 1 (sz2 o rex) 0 regk rm 0
  else if o = 141 then keyI 2 (szW rex) 0 regk rm 0
  else if o = 143 then keyI 21 8 0 rm noKey 0
  else if o = 144 then keyI 33 0 0 noKey noKey 0
  else if o = 153 then keyI 32 0 0 noKey noKey 0
  else if o < 184 then keyI 1 1 0 (regKey (o - 176 + 8 * (rex % 2))) (immKey n) 0
  else if o < 192 then keyI 1 (szW rex) 0 (regKey (o - 184 + 8 * (rex % 2))) (immKey n) 0
  else if o < 194 then keyI (unsh reg) (sz2 o rex) 0 rm (immKey n) 0
  else if o = 195 then keyI 25 0 0 noKey noKey 0
  else if o < 200 then keyI 1 (sz2 o rex) 0 rm (immKey n) 0
  else if o = 201 then keyI 26 0 0 noKey noKey 0
  else if o < 212 then keyI (unsh reg) (sz2 o rex) 0 rm (regKey 1) 0
  else if o = 232 then keyI 22 8 0 (tgtKey n h) noKey 0
  else if o = 233 then keyI 23 8 0 (tgtKey n h) noKey 0
  else if o = 235 then keyI 23 8 0 (tgtKey n h) noKey 1
  else if o < 248 then (if reg = 0 then keyI 11 (sz2 o rex) 0 rm (immKey n) 0 else if reg = 2 then keyI 14 (sz2 o rex) 0 rm noKey 0 else keyI 13 (sz2 o rex) 0 rm noKey 0)
  else if reg = 0 then keyI 15 (sz2 o rex) 0 rm noKey 0 else if reg = 1 then keyI 16 (sz2 o rex) 0 rm noKey 0 else if reg = 2 then keyI 22 8 0 rm noKey 0 else if reg = 4 then keyI 23 8 0 rm noKey 0 else keyI 20 8 0 noKey rm 0
def unTwo (o rex : Int) (rm regk : List Int) (n : Int) (h : Bool) : List Int :=
  if 64 ≤ o ∧ o < 80 then keyI 28 (szW rex) (o - 64) regk rm 0
  else if 128 ≤ o ∧ o < 144 then keyI 24 8 (o - 128) (tgtKey n h) noKey 0
  else if 144 ≤ o ∧ o < 160 then keyI 27 1 (o - 144) rm noKey 0
  else if o = 175 then keyI 12 (szW rex) 0 regk rm 0
  else if o = 182 then keyI 29 (szW rex) 0 regk rm 0
  else if o = 190 then keyI 30 (szW rex) 0 regk rm 0
  else if o = 11 then keyI 34 0 0 noKey noKey 0
  else keyI 35 0 0 noKey noKey 0
def undo (h : Bool) (p : Pc) : List Int :=
  match p.op with
  | [o] => unOne o p.rex (regT p.tail) (undoRm p.fs p.rex p.tail h) (regKey (regT p.tail + 8 * (p.rex / 4 % 2))) (sval p.num) h
  | [_, o] => unTwo o p.rex (undoRm p.fs p.rex p.tail h) (regKey (regT p.tail + 8 * (p.rex / 4 % 2))) (sval p.num) h
  | _ => []
section
variable {o rex reg n : Int} {rm regk : List Int} {h : Bool}
theorem un_lo (h1 : o < 64) (h2 : o % 8 < 2) : unOne o rex reg rm regk n h = keyI (3 + o / 8) (sz2 o rex) 0 rm regk 0 := by unfold unOne; rw [if_pos h1, if_pos h2]
theorem un_lo2 (h1 : o < 64) (h2 : ¬ o % 8 < 2) : unOne o rex reg rm regk n h = keyI (3 + o / 8) (sz2 o rex) 0 regk rm 0 := by unfold unOne; rw [if_pos h1, if_neg h2]
theorem un_80 (h1 : 80 ≤ o ∧ o ≤ 87) : unOne o rex reg rm regk n h = keyI 20 8 0 noKey (regKey (o - 80 + 8 * (rex % 2))) 0 := by unfold unOne; rw [if_neg (by omega), if_pos (by omega)]
theorem un_88 (h1 : 88 ≤ o ∧ o ≤ 95) : unOne o rex reg rm regk n h = keyI 21 8 0 (regKey (o - 88 + 8 * (rex % 2))) noKey 0 := by unfold unOne; rw [if_neg (by omega), if_neg (by omega), if_pos (by omega)]
theorem un_104 (h1 : o = 104 ∨ o = 106) : unOne o rex reg rm regk n h = keyI 20 8 0 noKey (immKey n) 0 := by unfold unOne; rw [if_neg (by omega), if_neg (by omega), if_neg (by omega), if_pos (by omega)]
theorem un_112 (h1 : 112 ≤ o ∧ o ≤ 127) : unOne o rex reg rm regk n h = keyI 24 8 (o - 112) (tgtKey n h) noKey 1 := by unfold unOne; rw [if_neg (by omega), if_neg (by omega), if_neg (by omega), if_neg (by omega), if_pos (by omega)]
theorem un_128 (h1 : o = 128) : unOne o rex reg rm regk n h = keyI (3 + reg) 1 0 rm (immKey n) 0 := by unfold unOne; rw [if_neg (by omega), if_neg (by omega), if_neg (by omega), if_neg (by omega), if_neg (by omega), if_pos (by omega)]
theorem un_129 (h1 : o = 129 ∨ o = 131) : unOne o rex reg rm regk n h = keyI (3 + reg) (szW rex) 0 rm (immKey n) 0 := by unfold unOne; rw [if_neg (by omega), if_neg (by omega), if_neg (by omega), if_neg (by omega), if_neg (by omega), if_neg (by omega), if_pos (by omega)]
theorem un_132 (h1 : o = 132 ∨ o = 133) : unOne o rex reg rm regk n h = keyI 11 (sz2 o rex) 0 rm regk 0 := by unfold unOne; rw [if_neg (by omega), if_neg (by omega), if_neg (by omega), if_neg (by omega), if_neg (by omega), if_neg (by omega), if_neg (by omega), if_pos (by omega)]
theorem un_135 (h1 : o = 135) : unOne o rex reg rm regk n h = keyI 31 (szW rex) 0 rm regk 0 := by unfold unOne; rw [if_neg (by omega), if_neg (by omega), if_neg (by omega), if_neg (by omega), if_neg (by omega), if_neg (by omega), if_neg (by omega), if_neg (by omega), if_pos (by omega)]
theorem un_136 (h1 : o = 136 ∨ o = 137) : unOne o rex reg rm regk n h = keyI 1 (sz2 o rex) 0 rm regk 0 := by unfold unOne; rw [if_neg (by omega), if_neg (by omega), if_neg (by omega), if_neg (by omega), if_neg (by omega), if_neg (by omega), if_neg (by omega), if_neg (by omega), if_neg (by omega), if_pos (by omega)]
theorem un_138 (h1 : o = 138 ∨ o = 139) : unOne o rex reg rm regk n h = keyI 1 (sz2 o rex) 0 regk rm 0 := by unfold unOne; rw [if_neg (by omega), if_neg (by omega), if_neg (by omega), if_neg (by omega), if_neg (by omega), if_neg (by omega), if_neg (by omega), if_neg (by omega), if_neg (by omega), if_neg (by omega), if_pos (by omega)]
theorem un_141 (h1 : o = 141) : unOne o rex reg rm regk n h = keyI 2 (szW rex) 0 regk rm 0 := by unfold unOne; rw [if_neg (by omega), if_neg (by omega), if_neg (by omega), if_neg (by omega), if_neg (by omega), if_neg (by omega), if_neg (by omega), if_neg (by omega), if_neg (by omega), if_neg (by omega), if_neg (by omega), if_pos (by omega)]
theorem un_143 (h1 : o = 143) : unOne o rex reg rm regk n h = keyI 21 8 0 rm noKey 0 := by unfold unOne; rw [if_neg (by omega), if_neg (by omega), if_neg (by omega), if_neg (by omega), if_neg (by omega), if_neg (by omega), if_neg (by omega), if_neg (by omega), if_neg (by omega), if_neg (by omega), if_neg (by omega), if_neg (by omega), if_pos (by omega)]
theorem un_144 (h1 : o = 144) : unOne o rex reg rm regk n h = keyI 33 0 0 noKey noKey 0 := by unfold unOne; rw [if_neg (by omega), if_neg (by omega), if_neg (by omega), if_neg (by omega), if_neg (by omega), if_neg (by omega), if_neg (by omega), if_neg (by omega), if_neg (by omega), if_neg (by omega), if_neg (by omega), if_neg (by omega), if_neg (by omega), if_pos (by omega)]
theorem un_153 (h1 : o = 153) : unOne o rex reg rm regk n h = keyI 32 0 0 noKey noKey 0 := by unfold unOne; rw [if_neg (by omega), if_neg (by omega), if_neg (by omega), if_neg (by omega), if_neg (by omega), if_neg (by omega), if_neg (by omega), if_neg (by omega), if_neg (by omega), if_neg (by omega), if_neg (by omega), if_neg (by omega), if_neg (by omega), if_neg (by omega), if_pos (by omega)]
theorem un_176 (h1 : 176 ≤ o ∧ o ≤ 183) : unOne o rex reg rm regk n h = keyI 1 1 0 (regKey (o - 176 + 8 * (rex % 2))) (immKey n) 0 := by unfold unOne; rw [if_neg (by omega), if_neg (by omega), if_neg (by omega), if_neg (by omega), if_neg (by omega), if_neg (by omega), if_neg (by omega), if_neg (by omega), if_neg (by omega), if_neg (by omega), if_neg (by omega), if_neg (by omega), if_neg (by omega), if_neg (by omega), if_neg (by omega), if_pos (by omega)]
theorem un_184 (h1 : 184 ≤ o ∧ o ≤ 191) : unOne o rex reg rm regk n h = keyI 1 (szW rex) 0 (regKey (o - 184 + 8 * (rex % 2))) (immKey n) 0 := by unfold unOne; rw [if_neg (by omega), if_neg (by omega), if_neg (by omega), if_neg (by omega), if_neg (by omega), if_neg (by omega), if_neg (by omega), if_neg (by omega), if_neg (by omega), if_neg (by omega), if_neg (by omega), if_neg (by omega), if_neg (by omega), if_neg (by omega), if_neg (by omega), if_neg (by omega), if_pos (by omega)]
theorem un_192 (h1 : o = 192 ∨ o = 193) : unOne o rex reg rm regk n h = keyI (unsh reg) (sz2 o rex) 0 rm (immKey n) 0 := by unfold unOne; rw [if_neg (by omega), if_neg (by omega), if_neg (by omega), if_neg (by omega), if_neg (by omega), if_neg (by omega), if_neg (by omega), if_neg (by omega), if_neg (by omega), if_neg (by omega), if_neg (by omega), if_neg (by omega), if_neg (by omega), if_neg (by omega), if_neg (by omega), if_neg (by omega), if_neg (by omega), if_pos (by omega)]
theorem un_195 (h1 : o = 195) : unOne o rex reg rm regk n h = keyI 25 0 0 noKey noKey 0 := by unfold unOne; rw [if_neg (by omega), if_neg (by omega), if_neg (by omega), if_neg (by omega), if_neg (by omega), if_neg (by omega), if_neg (by omega), if_neg (by omega), if_neg (by omega), if_neg (by omega), if_neg (by omega), if_neg (by omega), if_neg (by omega), if_neg (by omega), if_neg (by omega), if_neg (by omega), if_neg (by omega), if_neg (by omega), if_pos (by omega)]
theorem un_198 (h1 : o = 198 ∨ o = 199) : unOne o rex reg rm regk n h = keyI 1 (sz2 o rex) 0 rm (immKey n) 0 := by unfold unOne; rw [if_neg (by omega), if_neg (by omega), if_neg (by omega), if_neg (by omega), if_neg (by omega), if_neg (by omega), if_neg (by omega), if_neg (by omega), if_neg (by omega), if_neg (by omega), if_neg (by omega), if_neg (by omega), if_neg (by omega), if_neg (by omega), if_neg (by omega), if_neg (by omega), if_neg (by omega), if_neg (by omega), if_neg (by omega), if_pos (by omega)]
theorem un_201 (h1 : o = 201) : unOne o rex reg rm regk n h = keyI 26 0 0 noKey noKey 0 := by unfold unOne; rw [if_neg (by omega), if_neg (by omega), if_neg (by omega), if_neg (by omega), if_neg (by omega), if_neg (by omega), if_neg (by omega), if_neg (by omega), if_neg (by omega), if_neg (by omega), if_neg (by omega), if_neg (by omega), if_neg (by omega), if_neg (by omega), if_neg (by omega), if_neg (by omega), if_neg (by omega), if_neg (by omega), if_neg (by omega), if_neg (by omega), if_pos (by omega)]
theorem un_210 (h1 : o = 210 ∨ o = 211) : unOne o rex reg rm regk n h = keyI (unsh reg) (sz2 o rex) 0 rm (regKey 1) 0 := by unfold unOne; rw [if_neg (by omega), if_neg (by omega), if_neg (by omega), if_neg (by omega), if_neg (by omega), if_neg (by omega), if_neg (by omega), if_neg (by omega), if_neg (by omega), if_neg (by omega), if_neg (by omega), if_neg (by omega), if_neg (by omega), if_neg (by omega), if_neg (by omega), if_neg (by omega), if_neg (by omega), if_neg (by omega), if_neg (by omega), if_neg (by omega), if_neg (by omega), if_pos (by omega)]
theorem un_232 (h1 : o = 232) : unOne o rex reg rm regk n h = keyI 22 8 0 (tgtKey n h) noKey 0 := by unfold unOne; rw [if_neg (by omega), if_neg (by omega), if_neg (by omega), if_neg (by omega), if_neg (by omega), if_neg (by omega), if_neg (by omega), if_neg (by omega), if_neg (by omega), if_neg (by omega), if_neg (by omega), if_neg (by omega), if_neg (by omega), if_neg (by omega), if_neg (by omega), if_neg (by omega), if_neg (by omega), if_neg (by omega), if_neg (by omega), if_neg (by omega), if_neg (by omega), if_neg (by omega), if_pos (by omega)]
theorem un_233 (h1 : o = 233) : unOne o rex reg rm regk n h = keyI 23 8 0 (tgtKey n h) noKey 0 := by unfold unOne; rw [if_neg (by omega), if_neg (by omega), if_neg (by omega), if_neg (by omega), if_neg (by omega), if_neg (by omega), if_neg (by omega), if_neg (by omega), if_neg (by omega), if_neg (by omega), if_neg (by omega), if_neg (by omega), if_neg (by omega), if_neg (by omega), if_neg (by omega), if_neg (by omega), if_neg (by omega), if_neg (by omega), if_neg (by omega), if_neg (by omega), if_neg (by omega), if_neg (by omega), if_neg (by omega), if_pos (by omega)]
theorem un_235 (h1 : o = 235) : unOne o rex reg rm regk n h = keyI 23 8 0 (tgtKey n h) noKey 1 := by unfold unOne; rw [if_neg (by omega), if_neg (by omega), if_neg (by omega), if_neg (by omega), if_neg (by omega), if_neg (by omega), if_neg (by omega), if_neg (by omega), if_neg (by omega), if_neg (by omega), if_neg (by omega), if_neg (by omega), if_neg (by omega), if_neg (by omega), if_neg (by omega), if_neg (by omega), if_neg (by omega), if_neg (by omega), if_neg (by omega), if_neg (by omega), if_neg (by omega), if_neg (by omega), if_neg (by omega), if_neg (by omega), if_pos (by omega)]
theorem un_246_0 (h1 : o = 246 ∨ o = 247) (h2 : reg = 0) : unOne o rex reg rm regk n h = keyI 11 (sz2 o rex) 0 rm (immKey n) 0 := by unfold unOne; rw [if_neg (by omega), if_neg (by omega), if_neg (by omega), if_neg (by omega), if_neg (by omega), if_neg (by omega), if_neg (by omega), if_neg (by omega), if_neg (by omega), if_neg (by omega), if_neg (by omega), if_neg (by omega), if_neg (by omega), if_neg (by omega), if_neg (by omega), if_neg (by omega), if_neg (by omega), if_neg (by omega), if_neg (by omega), if_neg (by omega), if_neg (by omega), if_neg (by omega), if_neg (by omega), if_neg (by omega), if_neg (by omega), if_pos (by omega), if_pos h2]
theorem un_246_1 (h1 : o = 246 ∨ o = 247) (h2 : reg = 2) : unOne o rex reg rm regk n h = keyI 14 (sz2 o rex) 0 rm noKey 0 := by unfold unOne; rw [if_neg (by omega), if_neg (by omega), if_neg (by omega), if_neg (by omega), if_neg (by omega), if_neg (by omega), if_neg (by omega), if_neg (by omega), if_neg (by omega), if_neg (by omega), if_neg (by omega), if_neg (by omega), if_neg (by omega), if_neg (by omega), if_neg (by omega), if_neg (by omega), if_neg (by omega), if_neg (by omega), if_neg (by omega), if_neg (by omega), if_neg (by omega), if_neg (by omega), if_neg (by omega), if_neg (by omega), if_neg (by omega), if_pos (by omega), if_neg (by omega), if_pos h2]
theorem un_246_2 (h1 : o = 246 ∨ o = 247) (h2 : reg = 3) : unOne o rex reg rm regk n h = keyI 13 (sz2 o rex) 0 rm noKey 0 := by unfold unOne; rw [if_neg (by omega), if_neg (by omega), if_neg (by omega), if_neg (by omega), if_neg (by omega), if_neg (by omega), if_neg (by omega), if_neg (by omega), if_neg (by omega), if_neg (by omega), if_neg (by omega), if_neg (by omega), if_neg (by omega), if_neg (by omega), if_neg (by omega), if_neg (by omega), if_neg (by omega), if_neg (by omega), if_neg (by omega), if_neg (by omega), if_neg (by omega), if_neg (by omega), if_neg (by omega), if_neg (by omega), if_neg (by omega), if_pos (by omega), if_neg (by omega), if_neg (by omega)]
theorem un_254_0 (h1 : o = 254 ∨ o = 255) (h2 : reg = 0) : unOne o rex reg rm regk n h = keyI 15 (sz2 o rex) 0 rm noKey 0 := by unfold unOne; rw [if_neg (by omega), if_neg (by omega), if_neg (by omega), if_neg (by omega), if_neg (by omega), if_neg (by omega), if_neg (by omega), if_neg (by omega), if_neg (by omega), if_neg (by omega), if_neg (by omega), if_neg (by omega), if_neg (by omega), if_neg (by omega), if_neg (by omega), if_neg (by omega), if_neg (by omega), if_neg (by omega), if_neg (by omega), if_neg (by omega), if_neg (by omega), if_neg (by omega), if_neg (by omega), if_neg (by omega), if_neg (by omega), if_neg (by omega), if_pos h2]
theorem un_254_1 (h1 : o = 254 ∨ o = 255) (h2 : reg = 1) : unOne o rex reg rm regk n h = keyI 16 (sz2 o rex) 0 rm noKey 0 := by unfold unOne; rw [if_neg (by omega), if_neg (by omega), if_neg (by omega), if_neg (by omega), if_neg (by omega), if_neg (by omega), if_neg (by omega), if_neg (by omega), if_neg (by omega), if_neg (by omega), if_neg (by omega), if_neg (by omega), if_neg (by omega), if_neg (by omega), if_neg (by omega), if_neg (by omega), if_neg (by omega), if_neg (by omega), if_neg (by omega), if_neg (by omega), if_neg (by omega), if_neg (by omega), if_neg (by omega), if_neg (by omega), if_neg (by omega), if_neg (by omega), if_neg (by omega), if_pos h2]
theorem un_254_2 (h1 : o = 254 ∨ o = 255) (h2 : reg = 2) : unOne o rex reg rm regk n h = keyI 22 8 0 rm noKey 0 := by unfold unOne; rw [if_neg (by omega), if_neg (by omega), if_neg (by omega), if_neg (by omega), if_neg (by omega), if_neg (by omega), if_neg (by omega), if_neg (by omega), if_neg (by omega), if_neg (by omega), if_neg (by omega), if_neg (by omega), if_neg (by omega), if_neg (by omega), if_neg (by omega), if_neg (by omega), if_neg (by omega), if_neg (by omega), if_neg (by omega), if_neg (by omega), if_neg (by omega), if_neg (by omega), if_neg (by omega), if_neg (by omega), if_neg (by omega), if_neg (by omega), if_neg (by omega), if_neg (by omega), if_pos h2]
theorem un_254_4 (h1 : o = 254 ∨ o = 255) (h2 : reg = 4) : unOne o rex reg rm regk n h = keyI 23 8 0 rm noKey 0 := by unfold unOne; rw [if_neg (by omega), if_neg (by omega), if_neg (by omega), if_neg (by omega), if_neg (by omega), if_neg (by omega), if_neg (by omega), if_neg (by omega), if_neg (by omega), if_neg (by omega), if_neg (by omega), if_neg (by omega), if_neg (by omega), if_neg (by omega), if_neg (by omega), if_neg (by omega), if_neg (by omega), if_neg (by omega), if_neg (by omega), if_neg (by omega), if_neg (by omega), if_neg (by omega), if_neg (by omega), if_neg (by omega), if_neg (by omega), if_neg (by omega), if_neg (by omega), if_neg (by omega), if_neg (by omega), if_pos h2]
theorem un_254_6 (h1 : o = 254 ∨ o = 255) (h2 : reg = 6) : unOne o rex reg rm regk n h = keyI 20 8 0 noKey rm 0 := by unfold unOne; rw [if_neg (by omega), if_neg (by omega), if_neg (by omega), if_neg (by omega), if_neg (by omega), if_neg (by omega), if_neg (by omega), if_neg (by omega), if_neg (by omega), if_neg (by omega), if_neg (by omega), if_neg (by omega), if_neg (by omega), if_neg (by omega), if_neg (by omega), if_neg (by omega), if_neg (by omega), if_neg (by omega), if_neg (by omega), if_neg (by omega), if_neg (by omega), if_neg (by omega), if_neg (by omega), if_neg (by omega), if_neg (by omega), if_neg (by omega), if_neg (by omega), if_neg (by omega), if_neg (by omega), if_neg (by omega)]
theorem ut_0 (h1 : 64 ≤ o ∧ o < 80) : unTwo o rex rm regk n h = keyI 28 (szW rex) (o - 64) regk rm 0 := by unfold unTwo; rw [if_pos (by omega)]
theorem ut_1 (h1 : 128 ≤ o ∧ o < 144) : unTwo o rex rm regk n h = keyI 24 8 (o - 128) (tgtKey n h) noKey 0 := by unfold unTwo; rw [if_neg (by omega), if_pos (by omega)]
theorem ut_2 (h1 : 144 ≤ o ∧ o < 160) : unTwo o rex rm regk n h = keyI 27 1 (o - 144) rm noKey 0 := by unfold unTwo; rw [if_neg (by omega), if_neg (by omega), if_pos (by omega)]
theorem ut_3 (h1 : o = 175) : unTwo o rex rm regk n h = keyI 12 (szW rex) 0 regk rm 0 := by unfold unTwo; rw [if_neg (by omega), if_neg (by omega), if_neg (by omega), if_pos (by omega)]
theorem ut_4 (h1 : o = 182) : unTwo o rex rm regk n h = keyI 29 (szW rex) 0 regk rm 0 := by unfold unTwo; rw [if_neg (by omega), if_neg (by omega), if_neg (by omega), if_neg (by omega), if_pos (by omega)]
theorem ut_5 (h1 : o = 190) : unTwo o rex rm regk n h = keyI 30 (szW rex) 0 regk rm 0 := by unfold unTwo; rw [if_neg (by omega), if_neg (by omega), if_neg (by omega), if_neg (by omega), if_neg (by omega), if_pos (by omega)]
theorem ut_6 (h1 : o = 11) : unTwo o rex rm regk n h = keyI 34 0 0 noKey noKey 0 := by unfold unTwo; rw [if_neg (by omega), if_neg (by omega), if_neg (by omega), if_neg (by omega), if_neg (by omega), if_neg (by omega), if_pos (by omega)]
end
theorem rexM_bits {W : Int} {o : Opd} {force : Bool} (hW : W = 0 ∨ W = 4 ∨ W = 8 ∨ W = 12) : rexM W o force % 2 = rmRex o % 2 ∧ rexM W o force / 2 % 2 = rmRex o / 2 % 2 ∧ rexM W o force / 4 % 2 = W / 4 % 2 ∧ rexM W o force / 8 % 2 = W / 8 % 2 := by
  have hr := rmRex_le o
  have e : rexOr W (rmRex o) = W + rmRex o := by
    have : rmRex o = 0 ∨ rmRex o = 1 ∨ rmRex o = 2 ∨ rmRex o = 3 := by omega
    rcases hW with rfl | rfl | rfl | rfl <;> rcases this with h | h | h | h <;> rw [h] <;> rfl
  unfold rexM
  rw [e]
  unfold rexL
  cases hf : (bif W + rmRex o != 0 then true else force) with
  | true => simp only [cond_true, List.getD_cons_zero]; omega
  | false =>
    have : W + rmRex o = 0 := by
      cases hr : W + rmRex o != 0 with
      | true => rw [hr] at hf; cases hf
      | false => simpa using hr
    simp only [cond_false, List.getD_nil]
    omega
theorem rexWRb (s r : Int) : (rexW s + rexR r = 0 ∨ rexW s + rexR r = 4 ∨ rexW s + rexR r = 8 ∨ rexW s + rexR r = 12) ∧ (rexW s + rexR r) / 4 % 2 = (if r ≥ 8 then 1 else 0) ∧ ((rexW s + rexR r) / 8 % 2 = 1 ↔ s = 8) := by
  unfold rexW rexR
  by_cases h : s = 8 <;> by_cases h2 : r ≥ 8
  · rw [beqT h, decide_eq_true h2, if_pos h2]; simp [h]
  · rw [beqT h, decide_eq_false h2, if_neg h2]; simp [h]
  · rw [beqF h, decide_eq_true h2, if_pos h2]; simp [h]
  · rw [beqF h, decide_eq_false h2, if_neg h2]; simp [h]
theorem rexW0 (s : Int) : (rexW s = 0 ∨ rexW s = 4 ∨ rexW s = 8 ∨ rexW s = 12) ∧ (rexW s / 8 % 2 = 1 ↔ s = 8) := by
  unfold rexW
  by_cases h : s = 8
  · rw [beqT h]; simp [h]
  · rw [beqF h]; simp [h]
theorem szW_ok {s rex : Int} (h : Sz4 s) (hr : rex / 8 % 2 = 1 ↔ s = 8) : szW rex = s := by
  unfold szW
  rcases h with h | h
  · rw [if_neg (by omega), h]
  · rw [if_pos (by omega), h]
theorem sz2_ok {s a b rex : Int} (h : Sz9 s) (ha : a % 2 = 0) (hb : b % 2 = 1) (hr : rex / 8 % 2 = 1 ↔ s = 8) : sz2 (szOp s a b) rex = s := by
  unfold sz2
  rcases sz_or h with h1 | h1
  · rw [szOp_1 h1, if_pos ha, h1]
  · rw [szOp_n h1, if_neg (by omega), szW_ok h1 hr]
theorem reg8 {r : Int} (h0 : 0 ≤ r) (h1 : r ≤ 15) : r % 8 + 8 * (if r ≥ 8 then 1 else 0) = r := by split <;> omega
end Go.Proofs.Ythmighgfefjcmaa.Enc
end

section
/- Each form is told by its bytes. No condition. -/
set_option maxRecDepth 100000
namespace Go.Proofs.Ythmighgfefjcmaa.Enc
open Go.RowKit Go.Proofs.Ythmighgfefjcmaa.X Go.IntWalk

section
variable {i : Ins}
theorem srcKey_reg (h : RegO i.src) : srcKey i = regKey i.src.r := by
  unfold srcKey; rw [if_neg (by rw [h.kind]; decide), okey_reg h]
theorem srcKey_mem (h : MemO i.src) : srcKey i = okey i.src := by
  unfold srcKey; rw [if_neg (by rw [h.kind]; decide)]
theorem srcKey_rm (h : RmO i.src) : srcKey i = okey i.src := by
  unfold srcKey; rw [if_neg (by rcases h with h | h <;> rw [h.kind] <;> decide)]
theorem srcKey_none (h : NoneO i.src) : srcKey i = noKey := by
  unfold srcKey; rw [if_neg (by rw [h.kind]; decide), okey_none h]
theorem srcKey_imm (h : ImmO i.src) : srcKey i = immKey (bareN i.size i.src.n) := by
  unfold srcKey; rw [if_pos h.kind]
theorem ikey_eq {op sz c : Int} {to src : List Int} {s : Int} (h1 : i.op = op) (h2 : i.size = sz) (h3 : i.cond = c) (h4 : okey i.to = to) (h5 : srcKey i = src) (h6 : bI i.short = s) : keyI op sz c to src s = ikey i := by
  unfold ikey; rw [h1, h2, h3, h4, h5, h6]
end
theorem bI_f {b : Bool} (h : b = false) : bI b = 0 := by rw [h]; rfl
theorem undo_m1 {W k v : Int} {o : Opd} {force : Bool} {num : List Int} {h : Bool} (ho : RmO o) (hW : W = 0 ∨ W = 4 ∨ W = 8 ∨ W = 12) (h0 : 0 ≤ k) (h1 : k ≤ 7) (hh : h = !anon o) :
    undo h (mE W k o force [v] num).pc = unOne v (rexM W o force) k (okey o) (regKey (k + 8 * (W / 4 % 2))) (sval num) h := by
  obtain ⟨b1, b2, b3, b4⟩ := rexM_bits (o := o) (force := force) hW
  have ht := tail_wf ho h0 h1
  rw [pc_m]
  show unOne v (rexM W o force) (regT (rmTail k o)) (undoRm (!(rmPre o).isEmpty) (rexM W o force) (rmTail k o) h) (regKey (regT (rmTail k o) + 8 * (rexM W o force / 4 % 2))) (sval num) h = _
  rw [ht.2.1, b3, hh, undoRm_ok ho h0 h1 b1 b2]
theorem undo_m2 {W k v : Int} {o : Opd} {force : Bool} {num : List Int} {h : Bool} (ho : RmO o) (hW : W = 0 ∨ W = 4 ∨ W = 8 ∨ W = 12) (h0 : 0 ≤ k) (h1 : k ≤ 7) (hh : h = !anon o) :
    undo h (mE W k o force [15, v] num).pc = unTwo v (rexM W o force) (okey o) (regKey (k + 8 * (W / 4 % 2))) (sval num) h := by
  obtain ⟨b1, b2, b3, b4⟩ := rexM_bits (o := o) (force := force) hW
  have ht := tail_wf ho h0 h1
  rw [pc_m]
  show unTwo v (rexM W o force) (undoRm (!(rmPre o).isEmpty) (rexM W o force) (rmTail k o) h) (regKey (regT (rmTail k o) + 8 * (rexM W o force / 4 % 2))) (sval num) h = _
  rw [ht.2.1, b3, hh, undoRm_ok ho h0 h1 b1 b2]
theorem wrex {W : Int} {o : Opd} {force : Bool} (hW : W = 0 ∨ W = 4 ∨ W = 8 ∨ W = 12) {s : Int} (h : W / 8 % 2 = 1 ↔ s = 8) : rexM W o force / 8 % 2 = 1 ↔ s = 8 := by
  rw [(rexM_bits (o := o) (force := force) hW).2.2.2]; exact h
theorem regk {s r : Int} (h0 : 0 ≤ r) (h1 : r ≤ 15) : regKey (r % 8 + 8 * ((rexW s + rexR r) / 4 % 2)) = regKey r := by
  rw [(rexWRb s r).2.1, reg8 h0 h1]
theorem bare1 {s n : Int} (h : s = 1) : bareN s n = sval (leL n 1) := by unfold bareN; rw [if_pos h, sval_1]
theorem bare4 {s n : Int} (h : s = 4) : bareN s n = sval (leL n 4) := by unfold bareN; rw [if_neg (by omega), if_pos h, sval_4]
theorem bare8 {s n : Int} (h : s = 8) : bareN s n = n := by unfold bareN; rw [if_neg (by omega), if_neg (by omega)]
theorem bare_min {s n : Int} (h : Sz9 s) (hf : fitsB n s = true) : bareN s n = sval (leL n (min4 s).toNat) := by
  rcases h with h | h | h
  · rw [min4_1 h, bare1 h]
  · rw [min4_4 (.inl h), bare4 h]
  · rw [min4_4 (.inr h), bare8 h, sval_4]
    rw [h] at hf
    have := wideO (show wideB n = true from hf)
    omega
theorem bare_short {s n : Int} (h : Sz9 s) (h1 : s ≠ 1) (hf : fitsB n s = true) (hs : short8 s n = true) : bareN s n = sval (leL n 1) := by
  unfold short8 at hs
  rcases h with h | h | h
  · exact absurd h h1
  · rw [bare4 h, sval_4, sval_1]
    rw [h, show ((4 : Int) == 4) = true from rfl, cond_true] at hs
    simp only [bif3, Bool.and_eq_true, decide_eq_true_eq] at hs
    have hf2 : -2147483648 ≤ n ∧ n < 4294967296 := by
      rw [h] at hf
      unfold fitsB at hf
      simp at hf
      exact hf
    have e1 : IntKind.i32.wrap n = (n + 2147483648) % 4294967296 - 2147483648 := by rw [IntKind.wrap_i32]
    rw [e1, i64_in _ (by omega)] at hs
    omega
  · rw [bare8 h, sval_1]
    rw [h, show ((8 : Int) == 4) = false from rfl, cond_false] at hs
    simp only [bif3, Bool.and_eq_true, decide_eq_true_eq] at hs
    omega
theorem byteO {n : Int} (h : byteN n = true) : -128 ≤ n ∧ n ≤ 127 := by unfold byteN at h; simpa using h
theorem fits_wide (n : Int) : fits32 n = wideB n := rfl
theorem plus_bits {r s : Int} {f : Bool} (h0 : 0 ≤ r) (h1 : r ≤ 15) : (rexL (rexOr (bif decide (r ≥ 8) then 1 else 0) (rexW s)) f).getD 0 0 % 2 = (if r ≥ 8 then 1 else 0) ∧ ((rexL (rexOr (bif decide (r ≥ 8) then 1 else 0) (rexW s)) f).getD 0 0 / 8 % 2 = 1 ↔ s = 8) := by
  rw [rexM_w8, rexOr1W]
  have hb : (0 : Int) ≤ (if s = 8 then 8 else 0) + (if r ≥ 8 then 1 else 0) := by split <;> split <;> omega
  refine ⟨?_, by split <;> split <;> omega⟩
  unfold rexL
  cases hf : (bif (if s = 8 then 8 else 0) + (if r ≥ 8 then 1 else 0) != (0 : Int) then true else f) with
  | true => simp only [cond_true, List.getD_cons_zero]; split <;> split <;> omega
  | false =>
    have : (if s = 8 then 8 else 0) + (if r ≥ 8 then 1 else 0) = (0 : Int) := by
      cases hr : ((if s = 8 then 8 else 0) + (if r ≥ 8 then 1 else 0) != (0 : Int)) with
      | true => rw [hr] at hf; cases hf
      | false => simpa using hr
    simp only [cond_false, List.getD_nil]
    revert this
    split <;> split <;> omega
theorem plus_bit0 {r : Int} (h0 : 0 ≤ r) (h1 : r ≤ 15) : (rexL (bif decide (r ≥ 8) then 1 else 0) false).getD 0 0 % 2 = (if r ≥ 8 then 1 else 0) := by
  by_cases h : r ≥ 8
  · rw [decide_eq_true h, if_pos h]; rfl
  · rw [decide_eq_false h, if_neg h]; rfl
set_option maxHeartbeats 4000000 in
/-- An instruction that may be is told by its bytes (h: has it a hole?). -/
theorem undo_ok {i : Ins} (f : Form i) (hn : -9223372036854775808 ≤ i.src.n ∧ i.src.n ≤ 9223372036854775807) : undo (!(anon i.to && anon i.src)) (pcI i) = ikey i := by
  by_cases h32 : i.op = 32
  · cases f with
    | bare op sz cd sh to src =>
      unfold pcI
      rw [if_pos h32]
      exact (un_153 rfl).trans (ikey_eq h32 sz cd (okey_none to) (srcKey_none src) (bI_f sh))
    | _ => omega
  rw [pc_ne h32]
  cases f with
  | rr op sz sz2' cd sh to src =>
    obtain ⟨hW, _, w8⟩ := rexWRb i.size i.src.r
    rw [e_rr op src, undo_m1 to hW (mod8 _).1 (mod8 _).2 (by rw [src.name]; simp), regk src.r0 src.r1]
    have hw := wrex (o := i.to) (force := lowF i.to i.size || lowF i.src i.size) hW w8
    rcases codes op with ⟨h, a, b⟩ | ⟨h, a, b⟩ | ⟨h, a, b⟩ | ⟨h, h', a, b⟩ <;> rw [a, b]
    · rw [un_136 (by rcases sz_or sz with s | s; exact .inl (szOp_1 s); exact .inr (szOp_n s)), sz2_ok sz rfl rfl hw]
      exact ikey_eq h rfl cd rfl (srcKey_reg src) (bI_f sh)
    · rw [un_132 (by rcases sz_or sz with s | s; exact .inl (szOp_1 s); exact .inr (szOp_n s)), sz2_ok sz rfl rfl hw]
      exact ikey_eq h rfl cd rfl (srcKey_reg src) (bI_f sh)
    · rw [szOp_n (sz2' h), un_135 rfl, szW_ok (sz2' h) hw]
      exact ikey_eq h rfl cd rfl (srcKey_reg src) (bI_f sh)
    · have hv : szOp i.size (8 * (i.op - 3)) (8 * (i.op - 3) + 1) < 64 ∧ szOp i.size (8 * (i.op - 3)) (8 * (i.op - 3) + 1) % 8 < 2 ∧ 3 + szOp i.size (8 * (i.op - 3)) (8 * (i.op - 3) + 1) / 8 = i.op := by
        rcases sz_or sz with s | s
        · rw [szOp_1 s]; omega
        · rw [szOp_n s]; omega
      rw [un_lo hv.1 hv.2.1, hv.2.2, sz2_ok sz (by omega) (by omega) hw]
      exact ikey_eq rfl rfl cd rfl (srcKey_reg src) (bI_f sh)
  | rm op sz cd sh to src =>
    obtain ⟨hW, _, w8⟩ := rexWRb i.size i.to.r
    rw [e_rm op to src, undo_m1 (.inr src) hW (mod8 _).1 (mod8 _).2 (by rw [to.name]; simp), regk to.r0 to.r1]
    have hw := wrex (o := i.src) (force := lowF i.to i.size || lowF i.src i.size) hW w8
    have e2 : ∀ a b : Int, szOp i.size a b + 2 = szOp i.size (a + 2) (b + 2) := fun a b => by unfold szOp; cases i.size == 1 <;> rfl
    rw [e2]
    rcases codes (op := i.op) (by omega) with ⟨h, a, b⟩ | ⟨h, a, b⟩ | ⟨h, a, b⟩ | ⟨h, h', a, b⟩
    · rw [a, b, un_138 (by rcases sz_or sz with s | s; exact .inl (szOp_1 s); exact .inr (szOp_n s)), sz2_ok sz rfl rfl hw]
      exact ikey_eq h rfl cd (okey_reg to) (srcKey_mem src) (bI_f sh)
    · omega
    · omega
    · rw [a, b]
      have hv : szOp i.size (8 * (i.op - 3) + 2) (8 * (i.op - 3) + 1 + 2) < 64 ∧ ¬ szOp i.size (8 * (i.op - 3) + 2) (8 * (i.op - 3) + 1 + 2) % 8 < 2 ∧ 3 + szOp i.size (8 * (i.op - 3) + 2) (8 * (i.op - 3) + 1 + 2) / 8 = i.op := by
        rcases sz_or sz with s | s
        · rw [szOp_1 s]; omega
        · rw [szOp_n s]; omega
      rw [un_lo2 hv.1 hv.2.1, hv.2.2, sz2_ok sz (by omega) (by omega) hw]
      exact ikey_eq rfl rfl cd (okey_reg to) (srcKey_mem src) (bI_f sh)
  | ri op sz cd sh to src fits =>
    obtain ⟨hW, w8⟩ := rexW0 i.size
    have hw := wrex (o := i.to) (force := lowF i.to i.size) hW w8
    have ha : (!(anon i.to && anon i.src)) = !anon i.to := by rw [src.name]; simp
    rcases op with op | op | op
    · by_cases hr : ∃ _ : RegO i.to, i.size < 8
      · obtain ⟨hr, h8⟩ := hr
        have r0 := hr.r0
        have r1 := hr.r1
        obtain ⟨pb, pw⟩ := plus_bits (s := i.size) (f := lowF i.to i.size) r0 r1
        rw [e_mv op src hr (.inl h8)]
        show unOne (szOp i.size 176 184 + i.to.r % 8) _ _ _ _ (sval (leL i.src.n i.size.toNat)) _ = _
        rcases sz_or sz with s | s
        · rw [szOp_1 s, un_176 (by omega)]
          refine ikey_eq op s cd ?_ ?_ (bI_f sh)
          · rw [okey_reg hr]
            show _ = regKey (176 + i.to.r % 8 - 176 + 8 * ((rexL _ _).getD 0 0 % 2))
            rw [pb, show 176 + i.to.r % 8 - 176 = i.to.r % 8 by omega, reg8 r0 r1]
          · rw [srcKey_imm src, bare1 s, s]; rfl
        · have s4 : i.size = 4 := by rcases s with s | s <;> omega
          rw [szOp_n s, un_184 (by omega)]
          refine ikey_eq op ?_ cd ?_ ?_ (bI_f sh)
          · show _ = szW ((rexL _ _).getD 0 0)
            exact (szW_ok s pw).symm
          · rw [okey_reg hr]
            show _ = regKey (184 + i.to.r % 8 - 184 + 8 * ((rexL _ _).getD 0 0 % 2))
            rw [pb, show 184 + i.to.r % 8 - 184 = i.to.r % 8 by omega, reg8 r0 r1]
          · rw [srcKey_imm src, bare4 s4, s4]; rfl
      · have hm : MemO i.to ∨ (RegO i.to ∧ i.size = 8 ∧ fits32 i.src.n = true) := by
          rcases to with to | to
          · right
            have s8 : i.size = 8 := by
              rcases sz with s | s | s
              · exact absurd ⟨to, by omega⟩ hr
              · exact absurd ⟨to, by omega⟩ hr
              · exact s
            refine ⟨to, s8, ?_⟩
            rw [s8] at fits
            exact fits
          · exact .inl to
        rw [e_mv2 op src hm, undo_m1 to hW (by omega) (by omega) ha, un_198 (by rcases sz_or sz with s | s; exact .inl (szOp_1 s); exact .inr (szOp_n s)), sz2_ok sz rfl rfl hw, ← bare_min sz fits]
        exact ikey_eq op rfl cd rfl (srcKey_imm src) (bI_f sh)
    · by_cases h : i.size ≠ 1 ∧ short8 i.size i.src.n = true
      · have hs : Sz4 i.size := (sz_or sz).resolve_left h.1
        rw [e_gi op src h, undo_m1 to hW (by omega) (by omega) ha, un_129 (.inr rfl), szW_ok hs hw, ← bare_short sz h.1 fits h.2, show 3 + (i.op - 3) = i.op by omega]
        exact ikey_eq rfl rfl cd rfl (srcKey_imm src) (bI_f sh)
      · have h2 : i.size = 1 ∨ short8 i.size i.src.n = false := by
          by_cases h1 : i.size = 1
          · exact .inl h1
          · right
            cases hh : short8 i.size i.src.n with
            | false => rfl
            | true => exact absurd ⟨h1, hh⟩ h
        rw [e_gi2 op src h2, undo_m1 to hW (by omega) (by omega) ha, ← bare_min sz fits]
        rcases sz_or sz with s | s
        · rw [szOp_1 s, un_128 rfl, show 3 + (i.op - 3) = i.op by omega]
          exact ikey_eq rfl s cd rfl (srcKey_imm src) (bI_f sh)
        · rw [szOp_n s, un_129 (.inl rfl), szW_ok s hw, show 3 + (i.op - 3) = i.op by omega]
          exact ikey_eq rfl rfl cd rfl (srcKey_imm src) (bI_f sh)
    · rw [e_ti op src, undo_m1 to hW (by omega) (by omega) ha, un_246_0 (by rcases sz_or sz with s | s; exact .inl (szOp_1 s); exact .inr (szOp_n s)) rfl, sz2_ok sz rfl rfl hw, ← bare_min sz fits]
      exact ikey_eq op rfl cd rfl (srcKey_imm src) (bI_f sh)
  | mi op sz cd sh to src =>
    have ha : (!(anon i.to && anon i.src)) = !anon i.to := by rw [src.name]; simp
    cases hf : fits32 i.src.n with
    | true =>
      obtain ⟨hW, w8⟩ := rexW0 i.size
      have hw := wrex (o := i.to) (force := lowF i.to i.size) hW w8
      have fits : fitsB i.src.n i.size = true := by rw [sz]; exact hf
      rw [e_mv2 op src (.inr ⟨to, sz, hf⟩), undo_m1 (.inl to) hW (by omega) (by omega) ha, un_198 (.inr (szOp_n (.inr sz))), sz2_ok (.inr (.inr sz)) rfl rfl hw, ← bare_min (.inr (.inr sz)) fits]
      exact ikey_eq op rfl cd rfl (srcKey_imm src) (bI_f sh)
    | false =>
      have r0 := to.r0
      have r1 := to.r1
      obtain ⟨pb, pw⟩ := plus_bits (s := i.size) (f := lowF i.to i.size) r0 r1
      rw [e_mv op src to (.inr hf)]
      show unOne (szOp i.size 176 184 + i.to.r % 8) _ _ _ _ (sval (leL i.src.n i.size.toNat)) _ = _
      rw [szOp_n (.inr sz), un_184 (by omega)]
      refine ikey_eq op ?_ cd ?_ ?_ (bI_f sh)
      · show _ = szW ((rexL _ _).getD 0 0)
        exact (szW_ok (.inr sz) pw).symm
      · rw [okey_reg to]
        show _ = regKey (184 + i.to.r % 8 - 184 + 8 * ((rexL _ _).getD 0 0 % 2))
        rw [pb, show 184 + i.to.r % 8 - 184 = i.to.r % 8 by omega, reg8 r0 r1]
      · rw [srcKey_imm src, bare8 sz, sz]
        show _ = immKey (sval (leL i.src.n 8))
        rw [sval_8 hn.1 hn.2]
  | lea op sz cd sh to src fs =>
    obtain ⟨hW, _, w8⟩ := rexWRb i.size i.to.r
    have hw := wrex (o := i.src) (force := false) hW w8
    rw [e_ld (.inl op) to, op]
    show undo _ (mE (rexW i.size + rexR i.to.r) (i.to.r % 8) i.src false [141] []).pc = _
    rw [undo_m1 (.inr src) hW (mod8 _).1 (mod8 _).2 (by rw [to.name]; simp), regk to.r0 to.r1, un_141 rfl, szW_ok sz hw]
    exact ikey_eq op rfl cd (okey_reg to) (srcKey_mem src) (bI_f sh)
  | ld op sz c0 c1 cd sh to src =>
    obtain ⟨hW, _, w8⟩ := rexWRb i.size i.to.r
    rw [e_ld (.inr op) to]
    have ha : (!(anon i.to && anon i.src)) = !anon i.src := by rw [to.name]; simp
    rcases op with op | op | op | op <;> rw [op]
    · have hw := wrex (o := i.src) (force := false) hW w8
      show undo _ (mE (rexW i.size + rexR i.to.r) (i.to.r % 8) i.src false [15, 175] []).pc = _
      rw [undo_m2 src hW (mod8 _).1 (mod8 _).2 ha, regk to.r0 to.r1, ut_3 rfl, szW_ok sz hw]
      exact ikey_eq op rfl (cd (by omega)) (okey_reg to) (srcKey_rm src) (bI_f sh)
    · have hw := wrex (o := i.src) (force := false) hW w8
      show undo _ (mE (rexW i.size + rexR i.to.r) (i.to.r % 8) i.src false [15, 64 + i.cond] []).pc = _
      rw [undo_m2 src hW (mod8 _).1 (mod8 _).2 ha, regk to.r0 to.r1, ut_0 (by omega), szW_ok sz hw, show 64 + i.cond - 64 = i.cond by omega]
      exact ikey_eq op rfl rfl (okey_reg to) (srcKey_rm src) (bI_f sh)
    · have hw := wrex (o := i.src) (force := lowF i.src 1) hW w8
      show undo _ (mE (rexW i.size + rexR i.to.r) (i.to.r % 8) i.src (lowF i.src 1) [15, 182] []).pc = _
      rw [undo_m2 src hW (mod8 _).1 (mod8 _).2 ha, regk to.r0 to.r1, ut_4 rfl, szW_ok sz hw]
      exact ikey_eq op rfl (cd (by omega)) (okey_reg to) (srcKey_rm src) (bI_f sh)
    · have hw := wrex (o := i.src) (force := lowF i.src 1) hW w8
      show undo _ (mE (rexW i.size + rexR i.to.r) (i.to.r % 8) i.src (lowF i.src 1) [15, 190] []).pc = _
      rw [undo_m2 src hW (mod8 _).1 (mod8 _).2 ha, regk to.r0 to.r1, ut_5 rfl, szW_ok sz hw]
      exact ikey_eq op rfl (cd (by omega)) (okey_reg to) (srcKey_rm src) (bI_f sh)
  | one op sz cd sh to src =>
    obtain ⟨hW, w8⟩ := rexW0 i.size
    have hw := wrex (o := i.to) (force := lowF i.to i.size) hW w8
    have ha : (!(anon i.to && anon i.src)) = !anon i.to := by rw [src.name]; simp
    have hc : i.op = 13 ∨ i.op = 14 ∨ i.op = 15 ∨ i.op = 16 := by omega
    have hA : szOp i.size 246 247 = 246 ∨ szOp i.size 246 247 = 247 := by rcases sz_or sz with s | s; exact .inl (szOp_1 s); exact .inr (szOp_n s)
    have hB : szOp i.size 254 255 = 254 ∨ szOp i.size 254 255 = 255 := by rcases sz_or sz with s | s; exact .inl (szOp_1 s); exact .inr (szOp_n s)
    rw [e_one op]
    rcases hc with h | h | h | h <;> rw [h]
    · show undo _ (mE (rexW i.size) 3 i.to (lowF i.to i.size) [szOp i.size 246 247] []).pc = _
      rw [undo_m1 to hW (by omega) (by omega) ha, un_246_2 hA rfl, sz2_ok sz rfl rfl hw]
      exact ikey_eq h rfl cd rfl (srcKey_none src) (bI_f sh)
    · show undo _ (mE (rexW i.size) 2 i.to (lowF i.to i.size) [szOp i.size 246 247] []).pc = _
      rw [undo_m1 to hW (by omega) (by omega) ha, un_246_1 hA rfl, sz2_ok sz rfl rfl hw]
      exact ikey_eq h rfl cd rfl (srcKey_none src) (bI_f sh)
    · show undo _ (mE (rexW i.size) 0 i.to (lowF i.to i.size) [szOp i.size 254 255] []).pc = _
      rw [undo_m1 to hW (by omega) (by omega) ha, un_254_0 hB rfl, sz2_ok sz rfl rfl hw]
      exact ikey_eq h rfl cd rfl (srcKey_none src) (bI_f sh)
    · show undo _ (mE (rexW i.size) 1 i.to (lowF i.to i.size) [szOp i.size 254 255] []).pc = _
      rw [undo_m1 to hW (by omega) (by omega) ha, un_254_1 hB rfl, sz2_ok sz rfl rfl hw]
      exact ikey_eq h rfl cd rfl (srcKey_none src) (bI_f sh)
  | set op sz c0 c1 sh to src =>
    have ha : (!(anon i.to && anon i.src)) = !anon i.to := by rw [src.name]; simp
    rw [e_set op, undo_m2 to (.inl rfl) (by omega) (by omega) ha, ut_2 (by omega), show 144 + i.cond - 144 = i.cond by omega]
    exact ikey_eq op sz rfl rfl (srcKey_none src) (bI_f sh)
  | shr op sz cd sh to src r =>
    obtain ⟨hW, w8⟩ := rexW0 i.size
    have hw := wrex (o := i.to) (force := lowF i.to i.size) hW w8
    have ha : (!(anon i.to && anon i.src)) = !anon i.to := by rw [src.name]; simp
    have hk : 0 ≤ shK i.op ∧ shK i.op ≤ 7 ∧ unsh (shK i.op) = i.op := by
      have : i.op = 17 ∨ i.op = 18 ∨ i.op = 19 := by omega
      rcases this with h | h | h <;> rw [h] <;> decide
    rw [e_shr op src, undo_m1 to hW hk.1 hk.2.1 ha, un_210 (by rcases sz_or sz with s | s; exact .inl (szOp_1 s); exact .inr (szOp_n s)), sz2_ok sz rfl rfl hw, hk.2.2]
    exact ikey_eq rfl rfl cd rfl (by rw [srcKey_reg src, r]) (bI_f sh)
  | shi op sz cd sh to src n0 n1 =>
    obtain ⟨hW, w8⟩ := rexW0 i.size
    have hw := wrex (o := i.to) (force := lowF i.to i.size) hW w8
    have ha : (!(anon i.to && anon i.src)) = !anon i.to := by rw [src.name]; simp
    have hk : 0 ≤ shK i.op ∧ shK i.op ≤ 7 ∧ unsh (shK i.op) = i.op := by
      have : i.op = 17 ∨ i.op = 18 ∨ i.op = 19 := by omega
      rcases this with h | h | h <;> rw [h] <;> decide
    have hb : bareN i.size i.src.n = sval (leL i.src.n 1) := by
      rw [sval_1]
      unfold bareN
      split
      · rfl
      · split <;> omega
    rw [e_shi op src, undo_m1 to hW hk.1 hk.2.1 ha, un_192 (by rcases sz_or sz with s | s; exact .inl (szOp_1 s); exact .inr (szOp_n s)), sz2_ok sz rfl rfl hw, hk.2.2, ← hb]
    exact ikey_eq rfl rfl cd rfl (srcKey_imm src) (bI_f sh)
  | push op sz cd sh to src =>
    rcases src with src | src
    · have r0 := src.r0
      have r1 := src.r1
      rw [e_pushr op src]
      unfold plusE
      rw [tmod8 _ r0]
      show unOne (80 + i.src.r % 8) _ _ _ _ _ _ = _
      rw [un_80 (by omega)]
      refine ikey_eq op sz cd (okey_none to) ?_ (bI_f sh)
      rw [srcKey_reg src]
      show _ = regKey (80 + i.src.r % 8 - 80 + 8 * ((rexL _ _).getD 0 0 % 2))
      rw [plus_bit0 r0 r1, show 80 + i.src.r % 8 - 80 = i.src.r % 8 by omega, reg8 r0 r1]
    · rw [e_pushm op src, undo_m1 (.inr src) (.inl rfl) (by omega) (by omega) (by rw [to.name]; simp), un_254_6 (.inr rfl) rfl]
      exact ikey_eq op sz cd (okey_none to) (srcKey_mem src) (bI_f sh)
  | pushi op sz cd sh to src w =>
    have hw := wideO w
    rw [e_pushi op src]
    cases hb : byteN i.src.n with
    | true =>
      have hb := byteO hb
      show unOne 106 _ _ _ _ (sval (leL i.src.n 1)) _ = _
      rw [un_104 (.inr rfl), sval_1]
      exact ikey_eq op sz cd (okey_none to) (by rw [srcKey_imm src, bare8 sz]; congr 1; omega) (bI_f sh)
    | false =>
      show unOne 104 _ _ _ _ (sval (leL i.src.n 4)) _ = _
      rw [un_104 (.inl rfl), sval_4]
      exact ikey_eq op sz cd (okey_none to) (by rw [srcKey_imm src, bare8 sz]; congr 1; omega) (bI_f sh)
  | pop op sz cd sh to src =>
    rcases to with to | to
    · have r0 := to.r0
      have r1 := to.r1
      rw [e_popr op to]
      unfold plusE
      rw [tmod8 _ r0]
      show unOne (88 + i.to.r % 8) _ _ _ _ _ _ = _
      rw [un_88 (by omega)]
      refine ikey_eq op sz cd ?_ (srcKey_none src) (bI_f sh)
      rw [okey_reg to]
      show _ = regKey (88 + i.to.r % 8 - 88 + 8 * ((rexL _ _).getD 0 0 % 2))
      rw [plus_bit0 r0 r1, show 88 + i.to.r % 8 - 88 = i.to.r % 8 by omega, reg8 r0 r1]
    · rw [e_popm op to, undo_m1 (.inr to) (.inl rfl) (by omega) (by omega) (by rw [src.name]; simp), un_143 rfl]
      exact ikey_eq op sz cd rfl (srcKey_none src) (bI_f sh)
  | jt op sz c0 c1 cd sh to src =>
    have ha : (!(anon i.to && anon i.src)) = !anon i.to := by rw [src.name]; simp
    have t1 : i.short = true → sval (leL i.to.n 1) = i.to.n := fun hs => by
      rw [sval_1]
      cases hb : anon i.to with
      | true => have := (sh hs).2 hb; omega
      | false => have := (to.named hb).1; omega
    have t4 : sval (leL i.to.n 4) = i.to.n := by have := to.n0; have := to.n1; rw [sval_4]; omega
    rw [e_jt op to, ha]
    unfold jOp jSize
    cases hs : i.short with
    | true =>
      have h22 := (sh hs).1
      have hbs : bI i.short = 1 := by rw [hs]; rfl
      rcases op with op | op | op
      · exact absurd op h22
      · rw [op]
        show unOne 235 _ _ _ _ (sval (leL i.to.n 1)) _ = _
        rw [un_235 rfl, t1 hs]
        exact ikey_eq op sz (cd (by omega)) (okey_tgt to) (srcKey_none src) hbs
      · rw [op]
        show unOne (112 + i.cond) _ _ _ _ (sval (leL i.to.n 1)) _ = _
        rw [un_112 (by omega), t1 hs, show 112 + i.cond - 112 = i.cond by omega]
        exact ikey_eq op sz rfl (okey_tgt to) (srcKey_none src) hbs
    | false =>
      rcases op with op | op | op <;> rw [op]
      · show unOne 232 _ _ _ _ (sval (leL i.to.n 4)) _ = _
        rw [un_232 rfl, t4]
        exact ikey_eq op sz (cd (by omega)) (okey_tgt to) (srcKey_none src) (bI_f hs)
      · show unOne 233 _ _ _ _ (sval (leL i.to.n 4)) _ = _
        rw [un_233 rfl, t4]
        exact ikey_eq op sz (cd (by omega)) (okey_tgt to) (srcKey_none src) (bI_f hs)
      · show unTwo (128 + i.cond) _ _ _ (sval (leL i.to.n 4)) _ = _
        rw [ut_1 (by omega), t4, show 128 + i.cond - 128 = i.cond by omega]
        exact ikey_eq op sz rfl (okey_tgt to) (srcKey_none src) (bI_f hs)
  | jm op sz cd sh to src =>
    have ha : (!(anon i.to && anon i.src)) = !anon i.to := by rw [src.name]; simp
    rw [e_jm op to]
    rcases op with op | op <;> rw [op]
    · show undo _ (mE 0 2 i.to false [255] []).pc = _
      rw [undo_m1 to (.inl rfl) (by omega) (by omega) ha, un_254_2 (.inr rfl) rfl]
      exact ikey_eq op sz cd rfl (srcKey_none src) (bI_f sh)
    · show undo _ (mE 0 4 i.to false [255] []).pc = _
      rw [undo_m1 to (.inl rfl) (by omega) (by omega) ha, un_254_4 (.inr rfl) rfl]
      exact ikey_eq op sz cd rfl (srcKey_none src) (bI_f sh)
  | bare op sz cd sh to src =>
    rw [e_bare op]
    have : i.op = 25 ∨ i.op = 26 ∨ i.op = 33 ∨ i.op = 34 ∨ i.op = 35 := by omega
    rcases this with h | h | h | h | h <;> rw [h]
    · exact (un_195 rfl).trans (ikey_eq h sz cd (okey_none to) (srcKey_none src) (bI_f sh))
    · exact (un_201 rfl).trans (ikey_eq h sz cd (okey_none to) (srcKey_none src) (bI_f sh))
    · exact (un_144 rfl).trans (ikey_eq h sz cd (okey_none to) (srcKey_none src) (bI_f sh))
    · exact (ut_6 rfl).trans (ikey_eq h sz cd (okey_none to) (srcKey_none src) (bI_f sh))
    · exact ikey_eq h sz cd (okey_none to) (srcKey_none src) (bI_f sh)
end Go.Proofs.Ythmighgfefjcmaa.Enc
end

section
/- What bytes tell is all that they hang on. No condition. -/
set_option maxRecDepth 100000
namespace Go.Proofs.Ythmighgfefjcmaa.Enc
open Go.RowKit Go.Proofs.Ythmighgfefjcmaa.X Go.IntWalk

/-- An operand as it is told. -/
def canO (o : Opd) : Opd := { o with n := if anon o then o.n else 0, name := if anon o then ⟨#[]⟩ else ⟨#[120]⟩, mod := 0 }
def canS (i : Ins) : Opd := if i.src.kind = 2 then { canO i.src with n := bareN i.size i.src.n } else canO i.src
def can (i : Ins) : Ins := { i with to := canO i.to, src := canS i }
theorem anon_can (o : Opd) : anon (canO o) = anon o := by
  show ((if anon o then (⟨#[]⟩ : ByteArray) else ⟨#[120]⟩).toList == []) = anon o
  rw [ByteArray.toList_eq]
  cases h : anon o <;> rfl
theorem can_tail (o : Opd) (k : Int) : rmTail k (canO o) = rmTail k o := by
  have ha := anon_can o
  have hd : dispN (canO o) = dispN o := by
    unfold dispN
    rw [ha]
    show (bif !anon o then 0 else (if anon o then o.n else 0)) = _
    cases anon o <;> rfl
  have h0 : disp0 (canO o) = disp0 o := by unfold disp0; rw [hd]; rfl
  have h1 : disp1 (canO o) = disp1 o := by unfold disp1; rw [hd]
  have hm : modO (canO o) = modO o := by unfold modO; rw [ha, h0, h1]
  have hz : sizO (canO o) = sizO o := by unfold sizO; rw [ha, h0, h1]
  have hh : rmHead k (canO o) = rmHead k o := by unfold rmHead; rw [hm]; rfl
  have hs : rmSize (canO o) = rmSize o := by unfold rmSize; rw [hz]; rfl
  unfold rmTail
  rw [hh, hs, hd]
theorem can_m (o : Opd) (W k : Int) (force : Bool) (op num num' : List Int) (hn : num' = num) : SameB (mE W k (canO o) force op num') (mE W k o force op num) := by
  subst hn
  exact ⟨rfl, rfl, rfl, rfl, can_tail o k, rfl⟩
theorem can_reg {o : Opd} (h : RegO o) : RegO (canO o) := ⟨h.kind, h.r0, h.r1, h.base, h.index, h.scale, h.rip, h.fs, by show (if anon o then o.n else 0) = 0; rw [h.n]; split <;> rfl, by rw [anon_can]; exact h.name, rfl⟩
theorem can_none {o : Opd} (h : NoneO o) : NoneO (canO o) := ⟨h.kind, h.r, h.base, h.index, h.scale, h.rip, h.fs, by show (if anon o then o.n else 0) = 0; rw [h.n]; split <;> rfl, by rw [anon_can]; exact h.name, rfl⟩
theorem can_tgt {o : Opd} (h : TgtO o) : TgtO (canO o) ∧ (canO o).n = o.n := by
  have hn : (canO o).n = o.n := by
    show (if anon o then o.n else 0) = o.n
    cases ha : anon o with
    | true => rfl
    | false => exact (h.named ha).1.symm
  exact ⟨⟨h.kind, h.r, h.base, h.index, h.scale, h.rip, h.fs, by rw [hn]; exact h.n0, by rw [hn]; exact h.n1, fun _ => rfl, fun ha => ⟨by rw [hn]; rw [anon_can] at ha; exact (h.named ha).1, .inl rfl, by
    rw [anon_can] at ha
    show nameOk (if anon o then ⟨#[]⟩ else ⟨#[120]⟩) = true
    rw [ha]; rfl⟩⟩, hn⟩
theorem can_mem {o : Opd} (h : MemO o) : MemO (canO o) := by
  have hb : -2147483648 ≤ (canO o).n ∧ (canO o).n < 2147483648 := by
    show -2147483648 ≤ (if anon o then o.n else 0) ∧ (if anon o then o.n else 0) < 2147483648
    have := h.n0
    have := h.n1
    split <;> omega
  exact ⟨h.kind, hb.1, hb.2, h.r, fun _ => rfl, fun ha => ⟨by
    rw [anon_can] at ha
    show nameOk (if anon o then ⟨#[]⟩ else ⟨#[120]⟩) = true
    rw [ha]; rfl, Int.le_refl _, by show (0 : Int) ≤ 5; decide⟩, h.how⟩
theorem can_rm {o : Opd} (h : RmO o) : RmO (canO o) := h.imp can_reg can_mem
section
variable {i : Ins}
theorem canS_imm (h : ImmO i.src) : canS i = { canO i.src with n := bareN i.size i.src.n } := by unfold canS; rw [if_pos h.kind]
theorem canS_not (h : i.src.kind ≠ 2) : canS i = canO i.src := by unfold canS; rw [if_neg h]
theorem canS_ok (h : ImmO i.src) : ImmO (canS i) ∧ (canS i).n = bareN i.size i.src.n := by
  rw [canS_imm h]
  exact ⟨⟨h.kind, h.r, h.base, h.index, h.scale, h.rip, h.fs, by show anon (canO i.src) = true; rw [anon_can]; exact h.name, rfl⟩, rfl⟩
theorem canS_reg (h : RegO i.src) : canS i = canO i.src := canS_not (by rw [h.kind]; decide)
theorem canS_mem (h : MemO i.src) : canS i = canO i.src := canS_not (by rw [h.kind]; decide)
theorem canS_none (h : NoneO i.src) : canS i = canO i.src := canS_not (by rw [h.kind]; decide)
theorem canS_rm (h : RmO i.src) : canS i = canO i.src := h.elim canS_reg canS_mem
end
theorem leL_bare1 (s n : Int) : leL (bareN s n) 1 = leL n 1 := by
  show [bareN s n % 256] = [n % 256]
  congr 1
  unfold bareN
  split
  · omega
  · split <;> omega
theorem leL_bare4 {s n : Int} (h : s ≠ 1) : leL (bareN s n) 4 = leL n 4 := by
  show [bareN s n % 256, bareN s n / 256 % 256, bareN s n / 65536 % 256, bareN s n / 16777216 % 256] = [n % 256, n / 256 % 256, n / 65536 % 256, n / 16777216 % 256]
  unfold bareN
  rw [if_neg h]
  split
  · congr 1
    · omega
    · congr 1
      · omega
      · congr 1
        · omega
        · congr 1; omega
  · rfl
theorem leL_bmin {s n : Int} (h : Sz9 s) : leL (bareN s n) (min4 s).toNat = leL n (min4 s).toNat := by
  rcases sz_or h with h | h
  · rw [min4_1 h]; exact leL_bare1 s n
  · rw [min4_4 h]; exact leL_bare4 (by rcases h with h | h <;> omega)
theorem short_bare {s n : Int} (h : s ≠ 1) : short8 s (bareN s n) = short8 s n := by
  by_cases h4 : s = 4
  · unfold short8
    have e : IntKind.i32.wrap (bareN s n) = IntKind.i32.wrap n := by
      rw [IntKind.wrap_i32, IntKind.wrap_i32]
      unfold bareN
      rw [if_neg h, if_pos h4]
      omega
    rw [h4] at e ⊢
    rw [show ((4 : Int) == 4) = true from rfl, cond_true, cond_true, e]
  · unfold bareN
    rw [if_neg h, if_neg h4]
theorem fits_bare {s n : Int} (h : Sz9 s) (hf : fitsB n s = true) : fitsB (bareN s n) s = true := by
  rcases h with h | h | h
  · unfold bareN fitsB
    rw [if_pos h, h]
    simp
    omega
  · unfold bareN fitsB
    rw [if_neg (by omega), if_pos h, h]
    simp
    omega
  · rw [bare8 h]; exact hf

set_option maxHeartbeats 4000000 in
theorem can_bytes {i : Ins} (f : Form i) : (encI (can i)).bytes = (encI i).bytes := by
  refine SameB.bytes ?_
  cases f with
  | rr op sz sz2' cd sh to src =>
    have e := e_rr (i := can i) op (by show RegO (canS i); rw [canS_reg src]; exact can_reg src)
    rw [e, e_rr op src]
    show SameB (mE (rexW i.size + rexR (canS i).r) ((canS i).r % 8) (canO i.to) (lowF (canO i.to) i.size || lowF (canS i) i.size) _ []) _
    rw [canS_reg src]
    exact can_m _ _ _ _ _ _ _ rfl
  | rm op sz cd sh to src =>
    have e := e_rm (i := can i) op (can_reg to) (by show MemO (canS i); rw [canS_mem src]; exact can_mem src)
    rw [e, e_rm op to src]
    show SameB (mE (rexW i.size + rexR i.to.r) (i.to.r % 8) (canS i) (lowF (canO i.to) i.size || lowF (canS i) i.size) _ []) _
    rw [canS_mem src]
    exact can_m _ _ _ _ _ _ _ rfl
  | ri op sz cd sh to src fits =>
    obtain ⟨s1, s2⟩ := canS_ok src
    rcases op with op | op | op
    · by_cases hr : ∃ _ : RegO i.to, i.size < 8
      · obtain ⟨hr, h8⟩ := hr
        rw [e_mv (i := can i) op s1 (can_reg hr) (.inl h8), e_mv op src hr (.inl h8)]
        refine ⟨rfl, rfl, rfl, rfl, rfl, ?_⟩
        show leL (canS i).n i.size.toNat = leL i.src.n i.size.toNat
        rw [s2]
        rcases sz with s | s | s
        · rw [s]; exact leL_bare1 _ _
        · have := leL_bare4 (s := i.size) (n := i.src.n) (by omega)
          rw [s] at this ⊢; exact this
        · omega
      · have hm : MemO i.to ∨ (RegO i.to ∧ i.size = 8 ∧ fits32 i.src.n = true) := by
          rcases to with to | to
          · right
            have s8 : i.size = 8 := by
              rcases sz with s | s | s
              · exact absurd ⟨to, by omega⟩ hr
              · exact absurd ⟨to, by omega⟩ hr
              · exact s
            refine ⟨to, s8, ?_⟩
            rw [s8] at fits
            exact fits
          · exact .inl to
        have hm' : MemO (canO i.to) ∨ (RegO (canO i.to) ∧ i.size = 8 ∧ fits32 (canS i).n = true) := hm.imp can_mem fun h => ⟨can_reg h.1, h.2.1, by rw [s2, bare8 h.2.1]; exact h.2.2⟩
        rw [e_mv2 (i := can i) op s1 hm', e_mv2 op src hm]
        exact can_m _ _ _ _ _ _ _ (by show leL (canS i).n _ = _; rw [s2]; exact leL_bmin sz)
    · by_cases h : i.size ≠ 1 ∧ short8 i.size i.src.n = true
      · rw [e_gi (i := can i) op s1 ⟨h.1, by show short8 i.size (canS i).n = true; rw [s2, short_bare h.1]; exact h.2⟩, e_gi op src h]
        exact can_m _ _ _ _ _ _ _ (by show leL (canS i).n 1 = _; rw [s2]; exact leL_bare1 _ _)
      · have h2 : i.size = 1 ∨ short8 i.size i.src.n = false := by
          by_cases h1 : i.size = 1
          · exact .inl h1
          · right
            cases hh : short8 i.size i.src.n with
            | false => rfl
            | true => exact absurd ⟨h1, hh⟩ h
        have h3 : i.size = 1 ∨ short8 i.size (canS i).n = false := by
          by_cases h1 : i.size = 1
          · exact .inl h1
          · right; rw [s2, short_bare h1]; exact h2.resolve_left h1
        rw [e_gi2 (i := can i) op s1 h3, e_gi2 op src h2]
        exact can_m _ _ _ _ _ _ _ (by show leL (canS i).n _ = _; rw [s2]; exact leL_bmin sz)
    · rw [e_ti (i := can i) op s1, e_ti op src]
      exact can_m _ _ _ _ _ _ _ (by show leL (canS i).n _ = _; rw [s2]; exact leL_bmin sz)
  | mi op sz cd sh to src =>
    obtain ⟨s1, s2⟩ := canS_ok src
    rw [bare8 sz] at s2
    cases hf : fits32 i.src.n with
    | true =>
      rw [e_mv2 (i := can i) op s1 (.inr ⟨can_reg to, sz, by show fits32 (canS i).n = true; rw [s2]; exact hf⟩), e_mv2 op src (.inr ⟨to, sz, hf⟩)]
      exact can_m _ _ _ _ _ _ _ (by show leL (canS i).n _ = _; rw [s2]; rfl)
    | false =>
      rw [e_mv (i := can i) op s1 (can_reg to) (.inr (by show fits32 (canS i).n = false; rw [s2]; exact hf)), e_mv op src to (.inr hf)]
      exact ⟨rfl, rfl, rfl, rfl, rfl, by show leL (canS i).n _ = _; rw [s2]; rfl⟩
  | lea op sz cd sh to src fs =>
    rw [e_ld (i := can i) (.inl op) (can_reg to), e_ld (.inl op) to]
    show SameB (mE (rexW i.size + rexR i.to.r) (i.to.r % 8) (canS i) (bif i.op == 29 || i.op == 30 then lowF (canS i) 1 else false) (ldOp i.op i.cond) []) _
    rw [canS_mem src]
    exact can_m _ _ _ _ _ _ _ rfl
  | ld op sz c0 c1 cd sh to src =>
    rw [e_ld (i := can i) (.inr op) (can_reg to), e_ld (.inr op) to]
    show SameB (mE (rexW i.size + rexR i.to.r) (i.to.r % 8) (canS i) (bif i.op == 29 || i.op == 30 then lowF (canS i) 1 else false) (ldOp i.op i.cond) []) _
    rw [canS_rm src]
    exact can_m _ _ _ _ _ _ _ rfl
  | one op sz cd sh to src =>
    rw [e_one (i := can i) op, e_one op]
    exact can_m _ _ _ _ _ _ _ rfl
  | set op sz c0 c1 sh to src =>
    rw [e_set (i := can i) op, e_set op]
    exact can_m _ _ _ _ _ _ _ rfl
  | shr op sz cd sh to src r =>
    rw [e_shr (i := can i) op (by show RegO (canS i); rw [canS_reg src]; exact can_reg src), e_shr op src]
    exact can_m _ _ _ _ _ _ _ rfl
  | shi op sz cd sh to src n0 n1 =>
    obtain ⟨s1, s2⟩ := canS_ok src
    rw [e_shi (i := can i) op s1, e_shi op src]
    exact can_m _ _ _ _ _ _ _ (by show leL (canS i).n 1 = _; rw [s2]; exact leL_bare1 _ _)
  | push op sz cd sh to src =>
    rcases src with src | src
    · rw [e_pushr (i := can i) op (by show RegO (canS i); rw [canS_reg src]; exact can_reg src), e_pushr op src]
      show SameB (plusE (canS i).r 80) _
      rw [canS_reg src]
      exact .rfl' _
    · rw [e_pushm (i := can i) op (by show MemO (canS i); rw [canS_mem src]; exact can_mem src), e_pushm op src]
      show SameB (mE 0 6 (canS i) false [255] []) _
      rw [canS_mem src]
      exact can_m _ _ _ _ _ _ _ rfl
  | pushi op sz cd sh to src w =>
    obtain ⟨s1, s2⟩ := canS_ok src
    rw [bare8 sz] at s2
    rw [e_pushi (i := can i) op s1, e_pushi op src]
    show SameB (bif byteN (canS i).n then { op := [106], number := leL (canS i).n 1 } else { op := [104], number := leL (canS i).n 4 }) _
    rw [s2]
    exact .rfl' _
  | pop op sz cd sh to src =>
    rcases to with to | to
    · rw [e_popr (i := can i) op (can_reg to), e_popr op to]
      exact .rfl' _
    · rw [e_popm (i := can i) op (can_mem to), e_popm op to]
      exact can_m _ _ _ _ _ _ _ rfl
  | jt op sz c0 c1 cd sh to src =>
    rw [e_jt (i := can i) op (can_tgt to).1, e_jt op to]
    exact ⟨rfl, rfl, rfl, rfl, rfl, by show leL (canO i.to).n _ = _; rw [(can_tgt to).2]; rfl⟩
  | jm op sz cd sh to src =>
    rw [e_jm (i := can i) op (can_rm to), e_jm op to]
    exact can_m _ _ _ _ _ _ _ rfl
  | bare op sz cd sh to src =>
    rw [e_bare (i := can i) op, e_bare op]
    exact .rfl' _

theorem bI_inj {a b : Bool} (h : bI a = bI b) : a = b := by cases a <;> cases b <;> first | rfl | cases h
theorem can_of_okey {o p : Opd} (h : okey o = okey p) : canO o = canO p := by
  simp only [okey, List.cons.injEq, and_true] at h
  obtain ⟨h1, h2, h3, h4, h5, h6, h7, h8, h9⟩ := h
  have ha : anon o = anon p := by cases ha : anon o <;> cases hb : anon p <;> rw [ha, hb] at h9 <;> first | rfl | cases h9
  have h6 := bI_inj h6
  have h7 := bI_inj h7
  unfold canO
  rw [h8, ha, h1, h2, h3, h4, h5, h6, h7]
theorem keyI_inj {a b c d a' b' c' d' : Int} {t s t' s' : List Int} (ht : t.length = 9) (ht' : t'.length = 9) (hs : s.length = 9) (hs' : s'.length = 9) (h : keyI a b c t s d = keyI a' b' c' t' s' d') : a = a' ∧ b = b' ∧ c = c' ∧ t = t' ∧ s = s' ∧ d = d' := by
  simp only [keyI, List.cons_append, List.nil_append, List.append_assoc, List.cons.injEq] at h
  obtain ⟨h1, h2, h3, h⟩ := h
  obtain ⟨h4, h⟩ := List.append_inj h (by omega)
  obtain ⟨h5, h⟩ := List.append_inj h (by omega)
  exact ⟨h1, h2, h3, h4, h5, by simpa using h⟩
theorem okey_len (o : Opd) : (okey o).length = 9 := rfl
theorem srcKey_len (i : Ins) : (srcKey i).length = 9 := by unfold srcKey; split <;> rfl
theorem ikey_parts {i k : Ins} (h : ikey i = ikey k) : i.op = k.op ∧ i.size = k.size ∧ i.cond = k.cond ∧ okey i.to = okey k.to ∧ srcKey i = srcKey k ∧ i.short = k.short := by
  obtain ⟨h1, h2, h3, h4, h5, h6⟩ := keyI_inj (okey_len _) (okey_len _) (srcKey_len _) (srcKey_len _) h
  exact ⟨h1, h2, h3, h4, h5, bI_inj h6⟩
/-- An operand of an instruction that may be is a number, or none. -/
theorem form_imm {i : Ins} (f : Form i) (h : i.src.kind = 2) : ImmO i.src := by
  cases f with
  | ri op sz cd sh to src fits => exact src
  | mi op sz cd sh to src => exact src
  | shi op sz cd sh to src n0 n1 => exact src
  | pushi op sz cd sh to src w => exact src
  | rr op sz sz2' cd sh to src => rw [src.kind] at h; cases h
  | rm op sz cd sh to src => rw [src.kind] at h; cases h
  | lea op sz cd sh to src fs => rw [src.kind] at h; cases h
  | ld op sz c0 c1 cd sh to src => rcases src with src | src <;> rw [src.kind] at h <;> cases h
  | one op sz cd sh to src => rw [src.kind] at h; cases h
  | set op sz c0 c1 sh to src => rw [src.kind] at h; cases h
  | shr op sz cd sh to src r => rw [src.kind] at h; cases h
  | push op sz cd sh to src => rcases src with src | src <;> rw [src.kind] at h <;> cases h
  | pop op sz cd sh to src => rw [src.kind] at h; cases h
  | jt op sz c0 c1 cd sh to src => rw [src.kind] at h; cases h
  | jm op sz cd sh to src => rw [src.kind] at h; cases h
  | bare op sz cd sh to src => rw [src.kind] at h; cases h
theorem srcKey_kind (i : Ins) : (srcKey i).getD 0 0 = i.src.kind := by
  unfold srcKey
  split
  · rename_i h; rw [h]; rfl
  · rfl
theorem can_of_ikey {i k : Ins} (f : Form i) (g : Form k) (h : ikey i = ikey k) : can i = can k := by
  obtain ⟨h1, h2, h3, h4, h5, h6⟩ := ikey_parts h
  have hk : i.src.kind = k.src.kind := by rw [← srcKey_kind i, ← srcKey_kind k, h5]
  have hs : canS i = canS k := by
    unfold canS
    by_cases hi : i.src.kind = 2
    · have hi' : k.src.kind = 2 := by omega
      have a := form_imm f hi
      have b := form_imm g hi'
      rw [if_pos hi, if_pos hi']
      have hn : bareN i.size i.src.n = bareN k.size k.src.n := by
        rw [srcKey_imm a, srcKey_imm b] at h5
        simp only [immKey, List.cons.injEq, and_true, true_and] at h5
        exact h5
      rw [hn]
      unfold canO
      rw [a.kind, b.kind, a.r, b.r, a.base, b.base, a.index, b.index, a.scale, b.scale, a.rip, b.rip, a.fs, b.fs, a.name, b.name]
    · rw [if_neg hi, if_neg (by omega)]
      unfold srcKey at h5
      rw [if_neg hi, if_neg (by omega)] at h5
      exact can_of_okey h5
  unfold can
  rw [hs, can_of_okey h4, h1, h2, h3, h6]
/-- Which instructions have the same bytes. -/
theorem same_iff {i k : Ins} (f : Form i) (g : Form k) (hi : -9223372036854775808 ≤ i.src.n ∧ i.src.n ≤ 9223372036854775807) (hk : -9223372036854775808 ≤ k.src.n ∧ k.src.n ≤ 9223372036854775807) (hh : (anon i.to && anon i.src) = (anon k.to && anon k.src)) :
    (encI i).bytes = (encI k).bytes ↔ ikey i = ikey k := by
  refine ⟨fun h => ?_, fun h => ?_⟩
  · have h1 := (bytes_inj f g (x := []) (y := []) (by rw [h])).1
    rw [← undo_ok f hi, ← undo_ok g hk, h1, hh]
  · rw [← can_bytes f, ← can_bytes g, can_of_ikey f g h]
end Go.Proofs.Ythmighgfefjcmaa.Enc
end

section
/- What every statement of the layer asks at its end: shown once. No condition. -/
set_option maxRecDepth 100000
namespace Go.Proofs.Ythmighgfefjcmaa.Enc
open Go.RowKit Go.Proofs.Ythmighgfefjcmaa.X

theorem live_run : (run Try.prog (Lstr.mk' fun _ _ _ _ => False) 3000 Try.f12 []).resM Try.prog Try.f12 = some (.bool true) := by kernel_rfl
def liveS : List Value → Option Value
  | [] => some (.bool true)
  | _ => none
noncomputable def Llive : Lib := { Lbytes with fs := (12, liveS) :: Lbytes.fs }
theorem good_live : Lib.Good Try.prog Llive := lib_fs good_bytes fun vs z hz w => by
  unfold liveS at hz
  split at hz
  · simp only [Option.some.injEq] at hz
    subst hz
    exact calls_of_run (good_str _) (fun _ _ _ _ h => h) Try.func12 3000 [] [] rfl rfl (.bool true) live_run w
  · cases hz
end Go.Proofs.Ythmighgfefjcmaa.Enc
end

section
/- What an argument of plain parts (numbers, truths, texts, structs of these) is: its cells by their kinds. No condition. -/
namespace Go.Proofs.Ythmighgfefjcmaa.X
open Go.RowKit Go.ChangeShapes Go.WideShapes

/-- A cell of a kind, within its bounds. -/
def okC : PK → Value → Prop
  | .int k, v => ∃ n, v = .int k n ∧ (Lit.int k n).wf = true
  | .str, v => ∃ s : ByteArray, v = .string s ∧ s.size ≤ maxLen
  | .bool, v => ∃ b, v = .bool b
def okCells : List PK → List Value → Prop
  | [], [] => True
  | k :: ks, c :: cs => okC k c ∧ okCells ks cs
  | _, _ => False
theorem okCells_len : ∀ {ks : List PK} {cs : List Value}, okCells ks cs → cs.length = ks.length
  | [], [], _ => rfl
  | [], _ :: _, h => h.elim
  | _ :: _, [], h => h.elim
  | _ :: _, _ :: _, h => congrArg (· + 1) (okCells_len h.2)
theorem okCells_app : ∀ {ks ks' : List PK} {cs cs' : List Value}, okCells ks cs → okCells ks' cs' → okCells (ks ++ ks') (cs ++ cs')
  | [], _, [], _, _, h => h
  | [], _, _ :: _, _, h, _ => h.elim
  | _ :: _, _, [], _, h, _ => h.elim
  | _ :: _, _, _ :: _, _, h, h' => ⟨h.1, okCells_app h.2 h'⟩
def flatFs (rec : TypeId → Option (List PK)) (P : Program) : List Field → Nat → Option (List PK)
  | [], _ => some []
  | f :: fs, off => bif Nat.beq f.offset off then (rec f.type).bind fun ks => bif Nat.beq ks.length (P.cellsOf f.type) then (flatFs rec P fs (off + ks.length)).bind fun r => some (ks ++ r) else none else none
/-- The kinds of a plain type's cells. -/
def flat (P : Program) : Nat → TypeId → Option (List PK)
  | 0, _ => none
  | n + 1, t => match P.underlying t with
    | some (.int k) => some [.int k]
    | some .bool => some [.bool]
    | some .string => some [.str]
    | some (.struct fs) => (flatFs (flat P n) P fs.toList 0).bind fun ks => bif Nat.beq ks.length (P.cellsOf t) then some ks else none
    | _ => none

section
variable {H : Type} {enc : TypeId × Value → H} {P : Program} {w : World} {base : Nat} {sp : Nat → Bool} {hd : Bool}
theorem trod_flatFs {rec : TypeId → Option (List PK)} {m : Nat} (ih : ∀ t ks cs x, rec t = some ks → DataW.trod enc P w base sp hd m t cs = some x → okCells ks cs ∧ x.2 = []) {cs : List Value} :
    ∀ (fs : List Field) (off : Nat) (xs : List (DataW H × List MemPlace)) (ks : List PK), flatFs rec P fs off = some ks → xs.length = fs.length →
      (∀ (i : Nat) (f : Field), fs[i]? = some f → DataW.trod enc P w base sp hd m f.type ((cs.drop f.offset).take (P.cellsOf f.type)) = xs[i]?) → okCells ks ((cs.drop off).take ks.length) ∧ xs.flatMap (·.2) = []
  | [], off, [], ks, h, _, _ => by
    simp only [flatFs, Option.some.injEq] at h
    subst h
    exact ⟨by simp [okCells], rfl⟩
  | [], _, _ :: _, _, _, hl, _ => by simp at hl
  | _ :: _, _, [], _, _, hl, _ => by simp at hl
  | f :: fs, off, x :: xs, ks, h, hl, hg => by
    simp only [flatFs] at h
    cases ho : Nat.beq f.offset off with
    | false => rw [ho] at h; cases h
    | true =>
    rw [ho] at h
    simp only [cond_true] at h
    obtain ⟨k1, hk1, h⟩ := Option.bind_eq_some_iff.1 h
    cases hc : Nat.beq k1.length (P.cellsOf f.type) with
    | false => rw [hc] at h; cases h
    | true =>
    rw [hc] at h
    simp only [cond_true] at h
    obtain ⟨k2, hk2, h⟩ := Option.bind_eq_some_iff.1 h
    simp only [Option.some.injEq] at h
    subst h
    have e1 := Nat.eq_of_beq_eq_true ho
    have e2 := Nat.eq_of_beq_eq_true hc
    have g0 := hg 0 f rfl
    rw [e1, ← e2] at g0
    obtain ⟨a1, a2⟩ := ih _ _ _ _ hk1 g0
    obtain ⟨b1, b2⟩ := trod_flatFs ih fs (off + k1.length) xs k2 hk2 (by simpa using hl) fun i f' hf => by
      have := hg (i + 1) f' (by simpa using hf)
      simpa using this
    refine ⟨?_, by simp only [List.flatMap_cons, a2, b2, List.nil_append]⟩
    rw [List.length_append, List.take_add, List.drop_drop]
    exact okCells_app a1 b1
theorem trod_flat : ∀ (n : Nat) (t : TypeId) (ks : List PK) (cs : List Value) (m : Nat) (x : DataW H × List MemPlace), flat P n t = some ks → DataW.trod enc P w base sp hd m t cs = some x → okCells ks cs ∧ x.2 = []
  | 0, _, _, _, _, _, h, _ => by simp [flat] at h
  | n + 1, t, ks, cs, m, x, h, ht => by
    simp only [flat] at h
    split at h
    · rename_i k hu
      simp only [Option.some.injEq] at h
      subst h
      obtain ⟨z, rfl, rfl, hw⟩ := DataW.trod_int hu ht
      exact ⟨⟨⟨z, rfl, hw⟩, trivial⟩, rfl⟩
    · rename_i hu
      simp only [Option.some.injEq] at h
      subst h
      obtain ⟨z, rfl, rfl⟩ := DataW.trod_bool hu ht
      exact ⟨⟨⟨z, rfl⟩, trivial⟩, rfl⟩
    · rename_i hu
      simp only [Option.some.injEq] at h
      subst h
      obtain ⟨z, rfl, rfl, hw⟩ := DataW.trod_string hu ht
      exact ⟨⟨⟨z, rfl, hw⟩, trivial⟩, rfl⟩
    · rename_i fs hu
      obtain ⟨k1, hk1, h⟩ := Option.bind_eq_some_iff.1 h
      cases hc : Nat.beq k1.length (P.cellsOf t) with
      | false => rw [hc] at h; cases h
      | true =>
      rw [hc] at h
      simp only [cond_true, Option.some.injEq] at h
      subst h
      obtain ⟨xs, m', rfl, rfl, hlen, hl, hg⟩ := DataW.trod_struct hu ht
      obtain ⟨a1, a2⟩ := trod_flatFs (fun t ks cs x h1 h2 => trod_flat n t ks cs m' x h1 h2) fs.toList 0 xs k1 hk1 (by simpa using hl) fun i f hf => hg i f (by simpa using hf)
      rw [List.drop_zero, Nat.eq_of_beq_eq_true hc, ← hlen, List.take_length] at a1
      exact ⟨a1, a2⟩
    · cases h
/-- An argument that is a struct of plain parts. -/
theorem open_flat {r : Reach} {b0 : Nat} {t : TypeId} {ks : List PK} {n : Nat} {fs : Array Field} {v : Value} {d : DataW H} {p : List MemPlace} (hu : P.underlying t = some (.struct fs)) (hf : flat P n t = some ks)
    (hv : Value.okWide P w r b0 t v) (h : DataW.Trod enc P w base sp hd t v d p) : ∃ cs : List Value, v = .agg cs.toArray ∧ okCells ks cs ∧ p = [] := by
  obtain ⟨cs, rfl, _⟩ := okWide_struct hu hv
  obtain ⟨fuel, hfu⟩ := h
  obtain ⟨a1, a2⟩ := trod_flat n t ks _ fuel _ hf hfu
  exact ⟨cs.toList, rfl, a1, a2⟩
end

/-- Patterns of cells by their kinds. -/
def patK : List PK → Nat → List Pt
  | [], _ => []
  | .int k :: ks, i => .i k i :: patK ks (i + 1)
  | .str :: ks, i => .s i :: patK ks (i + 1)
  | .bool :: ks, i => .b i :: patK ks (i + 1)
theorem fill_patK (σ : Dt) (α : At') : ∀ (ks : List PK) (i : Nat) (cs : List Value), okCells ks cs → (∀ j, j < cs.length → σ.D (i + j) = cs.getD j undef) → valL (fillL σ α (patK ks i)) = some cs
  | [], _, [], _, _ => rfl
  | [], _, _ :: _, h, _ => h.elim
  | _ :: _, _, [], h, _ => h.elim
  | k :: ks, i, c :: cs, h, hd => by
    have h0 := hd 0 (by simp)
    have ih := fill_patK σ α ks (i + 1) cs h.2 fun j hj => by
      have := hd (j + 1) (by simpa using hj)
      rw [show i + 1 + j = i + (j + 1) by omega]
      simpa using this
    rw [Nat.add_zero, List.getD_cons_zero] at h0
    cases k with
    | int k =>
      obtain ⟨n, rfl, _⟩ := h.1
      show (valL (fillL σ α (patK ks (i + 1)))).bind (fun ags => some (Value.int k (σ.I i) :: ags)) = _
      rw [ih]; unfold Dt.I; rw [h0]; rfl
    | str =>
      obtain ⟨n, rfl, _⟩ := h.1
      show (valL (fillL σ α (patK ks (i + 1)))).bind (fun ags => some (Value.string (σ.S i) :: ags)) = _
      rw [ih]; unfold Dt.S; rw [h0]; rfl
    | bool =>
      obtain ⟨n, rfl⟩ := h.1
      show (valL (fillL σ α (patK ks (i + 1)))).bind (fun ags => some (Value.bool (σ.B i) :: ags)) = _
      rw [ih]; unfold Dt.B; rw [h0]; rfl
theorem refs_patK (σ : Dt) (α : At') : ∀ (ks : List PK) (i : Nat), refsL (fillL σ α (patK ks i)) = []
  | [], _ => rfl
  | .int k :: ks, i => refs_patK σ α ks (i + 1)
  | .str :: ks, i => refs_patK σ α ks (i + 1)
  | .bool :: ks, i => refs_patK σ α ks (i + 1)
/-- A law that hands back true, from what is read of it. -/
theorem calls_true {P : Program} {φ : Specs} (hφ : Good P φ) (hrom : ∀ nn ad ks xs, ¬ φ.rom nn ad ks xs) {g : FuncId} {fn : Func} (hf : P.funcs[g]? = some fn) (n : Nat) (args : List V) (vs : List Value) (hv : valL args = some vs) (hb : refsL args = []) (w : World) {z : Value}
    (h : (run P φ n fn args).sat (hands P fn z)) : Calls P g vs.toArray w fun e w' => e = .returned z ∧ Below w.heap.size w w' := by
  refine calls_of_sat hφ hrom hf n args vs hv hb w _ (T.sat_mono h ?_)
  rintro e s ⟨he, hz⟩
  split at hz
  · rename_i v hv
    subst hz
    obtain ⟨x, hx, hxv⟩ := Option.bind_eq_some_iff.1 hv
    exact ⟨he, x, hx, fun β w' H _ => ⟨by rw [val_den β _ _ hxv], H.below_⟩⟩
  · exact hz.elim

/-- A law's arguments: structs of plain parts (true), single ones (false). -/
abbrev ArgK := Bool × List PK
def argsV (σ : Dt) (α : At') : List ArgK → Nat → List V
  | [], _ => []
  | (b, ks) :: r, i => (bif b then .a (fillL σ α (patK ks i)) else (fillL σ α (patK ks i)).headD .u) :: argsV σ α r (i + ks.length)
def okArgs : List ArgK → List Value → List Value → Prop
  | [], [], [] => True
  | (b, ks) :: r, v :: vs, cs => ∃ c1 c2, cs = c1 ++ c2 ∧ okCells ks c1 ∧ (bif b then v = .agg c1.toArray else c1 = [v]) ∧ okArgs r vs c2
  | _, _, _ => False
theorem okArgs_agg {ks : List PK} {r : List ArgK} {vs c1 c2 : List Value} (h : okCells ks c1) (h' : okArgs r vs c2) : okArgs ((true, ks) :: r) (.agg c1.toArray :: vs) (c1 ++ c2) := ⟨c1, c2, rfl, h, rfl, h'⟩
theorem okArgs_one {k : PK} {r : List ArgK} {v : Value} {vs c2 : List Value} (h : okC k v) (h' : okArgs r vs c2) : okArgs ((false, [k]) :: r) (v :: vs) ([v] ++ c2) := ⟨[v], c2, rfl, ⟨h, trivial⟩, rfl, h'⟩
theorem okArgs_nil : okArgs [] [] [] := trivial
def dtL (cs : List Value) : Dt := ⟨fun n => cs.getD n undef, fun _ => []⟩
def at0 : At' := ⟨fun _ => false, fun _ => ⟨0, 0, none⟩, fun _ => 0⟩
theorem okArgs_cells : ∀ {ags : List ArgK} {vs cs : List Value}, okArgs ags vs cs → okCells (ags.flatMap (·.2)) cs
  | [], [], [], _ => trivial
  | [], [], _ :: _, h => h.elim
  | [], _ :: _, _, h => h.elim
  | _ :: _, [], _, h => h.elim
  | (b, ks) :: r, v :: vs, cs, h => by
    obtain ⟨c1, c2, rfl, h1, _, h3⟩ := h
    exact okCells_app h1 (okArgs_cells h3)
theorem argsV_ok (α : At') (all : List Value) : ∀ (ags : List ArgK) (i : Nat) (vs cs : List Value), okArgs ags vs cs → (∀ j, j < cs.length → (dtL all).D (i + j) = cs.getD j undef) →
    valL (argsV (dtL all) α ags i) = some vs ∧ refsL (argsV (dtL all) α ags i) = []
  | [], _, [], [], _, _ => ⟨rfl, rfl⟩
  | [], _, [], _ :: _, h, _ => h.elim
  | [], _, _ :: _, _, h, _ => h.elim
  | _ :: _, _, [], _, h, _ => h.elim
  | (b, ks) :: r, i, v :: vs, cs, h, hd => by
    obtain ⟨c1, c2, rfl, h1, h2, h3⟩ := h
    have hl := okCells_len h1
    have v1 := fill_patK (dtL all) α ks i c1 h1 fun j hj => by
      rw [hd j (by rw [List.length_append]; omega), List.getD_eq_getElem?_getD, List.getD_eq_getElem?_getD, List.getElem?_append_left hj]
    have r1 := refs_patK (dtL all) α ks i
    obtain ⟨i1, i2⟩ := argsV_ok α all r (i + ks.length) vs c2 h3 fun j hj => by
      have := hd (ks.length + j) (by rw [List.length_append, hl]; omega)
      rw [Nat.add_assoc, this, List.getD_eq_getElem?_getD, List.getD_eq_getElem?_getD, List.getElem?_append_right (by omega), hl, Nat.add_sub_cancel_left]
    cases b with
    | true =>
      simp only [cond_true] at h2
      subst h2
      refine ⟨?_, ?_⟩
      · show (val (.a (fillL _ _ (patK ks i)))).bind (fun x => (valL (argsV _ _ r _)).bind fun y => some (x :: y)) = _
        simp only [val, v1, i1, Option.bind_some]
      · show refs (.a (fillL _ _ (patK ks i))) ++ refsL (argsV _ _ r _) = []
        simp only [refs, r1, i2, List.nil_append]
    | false =>
      simp only [cond_false] at h2
      subst h2
      match ks, hl with
      | [k], _ =>
        generalize hf : fillL (dtL all) α (patK [k] i) = fl at v1 r1
        match fl, v1 with
        | [], v1 => simp [valL] at v1
        | y :: ys, v1 =>
          simp only [valL, Option.bind_eq_some_iff, Option.some.injEq, List.cons.injEq] at v1
          obtain ⟨z, hz, _, _, rfl, rfl⟩ := v1
          have r2 : refs y = [] := by
            simp only [refsL, List.append_eq_nil_iff] at r1
            exact r1.1
          refine ⟨?_, ?_⟩
          · show (val ((fillL (dtL all) α (patK [k] i)).headD .u)).bind (fun x => (valL (argsV _ _ r _)).bind fun y => some (x :: y)) = _
            rw [hf]
            simp only [List.headD_cons, hz, i1, Option.bind_some]
          · show refs ((fillL (dtL all) α (patK [k] i)).headD .u) ++ refsL (argsV _ _ r _) = []
            rw [hf, List.headD_cons, r2, i2]; rfl
/-- What a reader finds of a law: boxed. -/
structure SatB (P : Program) (L : Lib) (n : Nat) (fn : Func) (ags : List V) : Prop where
  sat : (run P (L.mk' fun _ _ _ _ => False) n fn ags).sat (hands P fn (.bool true))
/-- A law that hands back true, for all arguments of plain parts. -/
theorem law_calls {P : Program} {L : Lib} (hL : Lib.Good P L) {g : FuncId} {fn : Func} (hf : P.funcs[g]? = some fn) (n : Nat) (ags : List ArgK)
    (h : ∀ cs, okCells (ags.flatMap (·.2)) cs → SatB P L n fn (argsV (dtL cs) at0 ags 0)) (vs cs : List Value) (hv : okArgs ags vs cs) (w : World) :
    Calls P g vs.toArray w fun e w' => e = .returned (.bool true) ∧ Below w.heap.size w w' := by
  obtain ⟨h1, h2⟩ := argsV_ok at0 cs ags 0 vs cs hv fun j _ => by rw [Nat.zero_add]; rfl
  exact calls_true (hL _) (fun _ _ _ _ h => h) hf n _ vs h1 h2 w (h cs (okArgs_cells hv)).sat
end Go.Proofs.Ythmighgfefjcmaa.X
end

section
/- The arguments of the layer's statements. No condition. -/
namespace Go.Proofs.Ythmighgfefjcmaa.Enc
open Go.RowKit Go.Proofs.Ythmighgfefjcmaa.X
def opdK : List PK := [.int .i64, .int .i64, .int .i64, .int .i64, .int .i64, .bool, .bool, .int .i64, .str, .int .i64]
def instK : List PK := [.int .i64, .int .i64, .int .i64] ++ opdK ++ opdK ++ [.bool]
theorem flatI : flat Try.prog 4 32 = some instK := by kernel_rfl
def aPfx : List ArgK := [(true, instK), (true, instK)]
def aHole : List ArgK := [(true, instK), (false, [.str])]
end Go.Proofs.Ythmighgfefjcmaa.Enc
end

section
/- Written by vc.py: what is to be shown, read out. No condition. -/
set_option maxRecDepth 1000000
set_option maxHeartbeats 0
namespace Go.Proofs.Ythmighgfefjcmaa.Enc
open Go.RowKit Go.Proofs.Ythmighgfefjcmaa.X
theorem unl_goal (σ : Dt) (α : At') : ((run Try.prog (Llive.mk' fun _ _ _ _ => False) 3000 Try.f5 (argsV σ α aPfx 0)).sat (hands Try.prog Try.f5 (.bool true))) = (
let x0 := (Ins.mk (σ.I 0) (σ.I 1) (σ.I 2) (Opd.mk (σ.I 3) (σ.I 4) (σ.I 5) (σ.I 6) (σ.I 7) (σ.B 8) (σ.B 9) (σ.I 10) (σ.S 11) (σ.I 12)) (Opd.mk (σ.I 13) (σ.I 14) (σ.I 15) (σ.I 16) (σ.I
    17) (σ.B 18) (σ.B 19) (σ.I 20) (σ.S 21) (σ.I 22)) (σ.B 23));
let x1 := chkB x0;
let x2 := (Ins.mk (σ.I 24) (σ.I 25) (σ.I 26) (Opd.mk (σ.I 27) (σ.I 28) (σ.I 29) (σ.I 30) (σ.I 31) (σ.B 32) (σ.B 33) (σ.I 34) (σ.S 35) (σ.I 36)) (Opd.mk (σ.I 37) (σ.I 38) (σ.I 39) (σ.I 40) (σ.I 41) (σ.B 42) (σ.B 43) (σ.I 44) (σ.S 45) (σ.I 46)) (σ.B 47));
let x3 := chkB x2;
let x4 := encI x0;
let x5 := encI x2;
let x6 := (↑(rowsH x4.hols).length : Int) != (↑(rowsH x5.hols).length : Int);
let x7 := rowsB x4.bytes;
let x8 := x7.length;
let x9 := rowsB x5.bytes;
let x10 := x9.length;
let x11 := bif σ.I 13 == (2 : Int) then σ.I 1 == (1 : Int) else false;
let x12 := bif x11 then σ.I 13 else σ.I 13;
let x13 := bif x11 then σ.I 1 else σ.I 1;
let x14 := bif x12 == (2 : Int) then x13 == (4 : Int) else false;
let x15 := bif x11 then σ.I 0 else σ.I 0;
let x16 := bif σ.I 37 == (2 : Int) then σ.I 25 == (1 : Int) else false;
let x17 := bif x16 then σ.I 37 else σ.I 37;
let x18 := bif x16 then σ.I 25 else σ.I 25;
let x19 := bif x17 == (2 : Int) then x18 == (4 : Int) else false;
let x20 := bif x16 then σ.I 24 else σ.I 24;
let x21 := bif x11 then σ.I 2 else σ.I 2;
let x22 := bif x16 then σ.I 26 else σ.I 26;
let x23 := bif x11 then σ.S 11 else σ.S 11;
let x24 := bif x14 then x23 else x23;
let x25 := !x24.toList == [];
let x26 := bif x11 then σ.I 3 else σ.I 3;
let x27 := bif x14 then x26 else x26;
let x28 := bif x16 then σ.S 35 else σ.S 35;
let x29 := bif x19 then x28 else x28;
let x30 := !x29.toList == [];
let x31 := bif x16 then σ.I 27 else σ.I 27;
let x32 := bif x19 then x31 else x31;
let x33 := bif x11 then σ.I 4 else σ.I 4;
let x34 := bif x14 then x33 else x33;
let x35 := bif x16 then σ.I 28 else σ.I 28;
let x36 := bif x19 then x35 else x35;
let x37 := bif x11 then σ.I 5 else σ.I 5;
let x38 := bif x14 then x37 else x37;
let x39 := bif x16 then σ.I 29 else σ.I 29;
let x40 := bif x19 then x39 else x39;
let x41 := bif x11 then σ.I 6 else σ.I 6;
let x42 := bif x14 then x41 else x41;
let x43 := bif x16 then σ.I 30 else σ.I 30;
let x44 := bif x19 then x43 else x43;
let x45 := bif x11 then σ.I 7 else σ.I 7;
let x46 := bif x14 then x45 else x45;
let x47 := bif x16 then σ.I 31 else σ.I 31;
let x48 := bif x19 then x47 else x47;
let x49 := bif x11 then σ.B 8 else σ.B 8;
let x50 := bif x14 then x49 else x49;
let x51 := bif x16 then σ.B 32 else σ.B 32;
let x52 := bif x19 then x51 else x51;
let x53 := bif x11 then σ.B 9 else σ.B 9;
let x54 := bif x14 then x53 else x53;
let x55 := bif x16 then σ.B 33 else σ.B 33;
let x56 := bif x19 then x55 else x55;
let x57 := bif x11 then σ.I 10 else σ.I 10;
let x58 := bif x16 then σ.I 34 else σ.I 34;
let x59 := bif x11 then σ.I 12 else σ.I 12;
let x60 := bif x16 then σ.I 36 else σ.I 36;
let x61 := bif x11 then σ.S 21 else σ.S 21;
let x62 := bif x14 then x61 else x61;
let x63 := !x62.toList == [];
let x64 := bif x14 then x12 else x12;
let x65 := bif x16 then σ.S 45 else σ.S 45;
let x66 := bif x19 then x65 else x65;
let x67 := !x66.toList == [];
let x68 := bif x19 then x17 else x17;
let x69 := bif x11 then σ.I 14 else σ.I 14;
let x70 := bif x14 then x69 else x69;
let x71 := bif x16 then σ.I 38 else σ.I 38;
let x72 := bif x19 then x71 else x71;
let x73 := bif x11 then σ.I 15 else σ.I 15;
let x74 := bif x14 then x73 else x73;
let x75 := bif x16 then σ.I 39 else σ.I 39;
let x76 := bif x19 then x75 else x75;
let x77 := bif x11 then σ.I 16 else σ.I 16;
let x78 := bif x14 then x77 else x77;
let x79 := bif x16 then σ.I 40 else σ.I 40;
let x80 := bif x19 then x79 else x79;
let x81 := bif x11 then σ.I 17 else σ.I 17;
let x82 := bif x14 then x81 else x81;
let x83 := bif x16 then σ.I 41 else σ.I 41;
let x84 := bif x19 then x83 else x83;
let x85 := bif x11 then σ.B 18 else σ.B 18;
let x86 := bif x14 then x85 else x85;
let x87 := bif x16 then σ.B 42 else σ.B 42;
let x88 := bif x19 then x87 else x87;
let x89 := bif x11 then σ.B 19 else σ.B 19;
let x90 := bif x14 then x89 else x89;
let x91 := bif x16 then σ.B 43 else σ.B 43;
let x92 := bif x19 then x91 else x91;
let x93 := bif x11 then IntKind.i64.wrap (IntKind.i8.wrap (IntKind.u8.wrap (σ.I 20))) else σ.I 20;
let x94 := bif x16 then IntKind.i64.wrap (IntKind.i8.wrap (IntKind.u8.wrap (σ.I 44))) else σ.I 44;
let x95 := bif x11 then σ.I 22 else σ.I 22;
let x96 := bif x16 then σ.I 46 else σ.I 46;
let x97 := bif x11 then σ.B 23 else σ.B 23;
let x98 := bif x16 then σ.B 47 else σ.B 47;
let x99 := ((ByteArray.mk (List.map (fun r => UInt8.ofNat (asI (r.getD 0 (Value.tuple #[]))).toNat) (List.take x8 x7)).toArray).toList == (ByteArray.mk (List.map (fun r => UInt8.ofNat (asI (r.getD 0 (Value.tuple #[]))).toNat) (List.take x10 x9)).toArray).toList) == (((bif x14 then
    x15 else x15) == bif x19 then x20 else x20) && (((bif x14 then x13 else x13) == bif x19 then x18 else x18) && (((bif x14 then x21 else x21) == bif x19 then x22 else x22) && (((bif x25 then x27 else x27) == bif x30 then x32 else x32) && (((bif x25 then x34 else x34) == bif x30 then x36 else x36)
    && (((bif x25 then x38 else x38) == bif x30 then x40 else x40) && (((bif x25 then x42 else x42) == bif x30 then x44 else x44) && (((bif x25 then x46 else x46) == bif x30 then x48 else x48) && (((bif x25 then x50 else x50) == bif x30 then x52 else x52) && (((bif x25 then x54 else x54) == bif x30
    then x56 else x56) && (((bif x25 then (0 : Int) else bif x14 then x57 else x57) == bif x30 then (0 : Int) else bif x19 then x58 else x58) && ((bif x25 then (ByteArray.mk (#[(120 : UInt8)])) else x24).toList == (bif x30 then (ByteArray.mk (#[(120 : UInt8)])) else x29).toList &&
    (((bif x25 then (0 : Int) else bif x14 then x59 else x59) == bif x30 then (0 : Int) else bif x19 then x60 else x60) && true))))))))) && (((bif x63 then x64 else x64) == bif x67 then x68 else x68) && (((bif x63 then x70 else x70) == bif x67 then x72 else x72) && (((bif x63 then x74 else x74) ==
    bif x67 then x76 else x76) && (((bif x63 then x78 else x78) == bif x67 then x80 else x80) && (((bif x63 then x82 else x82) == bif x67 then x84 else x84) && (((bif x63 then x86 else x86) == bif x67 then x88 else x88) && (((bif x63 then x90 else x90) == bif x67 then x92 else x92) && (((bif x63
    then (0 : Int) else bif x14 then IntKind.i64.wrap (IntKind.i32.wrap (IntKind.u32.wrap x93)) else x93) == bif x67 then (0 : Int) else bif x19 then IntKind.i64.wrap (IntKind.i32.wrap (IntKind.u32.wrap x94)) else x94) && ((bif x63 then (ByteArray.mk (#[(120 : UInt8)])) else x62).toList ==
    (bif x67 then (ByteArray.mk (#[(120 : UInt8)])) else x66).toList && (((bif x63 then (0 : Int) else bif x14 then x95 else x95) == bif x67 then (0 : Int) else bif x19 then x96 else x96) && true))))))))) && (((bif x14 then x97 else x97) == bif x19 then x98 else x98) && true))))));
(True ∧ True) ∧ (x1 = true → (True ∧ True) ∧ (x3 = true → (x6 = true → True ∧ Value.bool true = Value.bool true) ∧ (x6 = false → x8 ≤ x8 ∧ x10 ≤ x10 ∧ (x99 = true → True ∧ Value.bool true = Value.bool true) ∧ (x99 = false → True ∧ Value.bool false = Value.bool true))) ∧ (x3 = false → True ∧
    Value.bool true = Value.bool true)) ∧ (x1 = false → (True ∧ True) ∧ True ∧ Value.bool true = Value.bool true)) := by kernel_rfl

end Go.Proofs.Ythmighgfefjcmaa.Enc
end

section
/- Written by vc.py: what is to be shown, read out. No condition. -/
set_option maxRecDepth 1000000
set_option maxHeartbeats 0
namespace Go.Proofs.Ythmighgfefjcmaa.Enc
open Go.RowKit Go.Proofs.Ythmighgfefjcmaa.X
theorem pfx_goal (σ : Dt) (α : At') : ((run Try.prog (Llive.mk' fun _ _ _ _ => False) 3000 Try.f4 (argsV σ α aPfx 0)).sat (hands Try.prog Try.f4 (.bool true))) = (
let x0 := (Ins.mk (σ.I 0) (σ.I 1) (σ.I 2) (Opd.mk (σ.I 3) (σ.I 4) (σ.I 5) (σ.I 6) (σ.I 7) (σ.B 8) (σ.B 9) (σ.I 10) (σ.S 11) (σ.I 12)) (Opd.mk (σ.I 13) (σ.I 14) (σ.I 15) (σ.I 16) (σ.I
    17) (σ.B 18) (σ.B 19) (σ.I 20) (σ.S 21) (σ.I 22)) (σ.B 23));
let x1 := chkB x0;
let x2 := (Ins.mk (σ.I 24) (σ.I 25) (σ.I 26) (Opd.mk (σ.I 27) (σ.I 28) (σ.I 29) (σ.I 30) (σ.I 31) (σ.B 32) (σ.B 33) (σ.I 34) (σ.S 35) (σ.I 36)) (Opd.mk (σ.I 37) (σ.I 38) (σ.I 39) (σ.I 40) (σ.I 41) (σ.B 42) (σ.B 43) (σ.I 44) (σ.S 45) (σ.I 46)) (σ.B 47));
let x3 := chkB x2;
let x5 := rowsB (encI x0).bytes;
let x6 := (↑x5.length : Int);
let x7 := decide (x6 < (1 : Int));
let x9 := decide (x6 > (15 : Int));
let x11 := rowsB (encI x2).bytes;
let x12 := (↑x11.length : Int);
let x13 := decide (x12 < (1 : Int));
let x15 := decide (x12 > (15 : Int));
let x17 := x6 == x12;
let x18 := if x12 < x6 then x12 else x6;
let x19 := (0 : Int) ≤ x18;
let x20 := x18.toNat;
let x21 := List.take x20 x5;
let x22 := List.take x20 x11;
let x23 := !(ByteArray.mk (List.map (fun r => UInt8.ofNat (asI (r.getD 0 (Value.tuple #[]))).toNat) (List.take x20 x21)).toArray).toList == (ByteArray.mk (List.map (fun r => UInt8.ofNat (asI (r.getD 0 (Value.tuple #[]))).toNat) (List.take x20 x22)).toArray).toList;
(True ∧ True) ∧ (x1 = true → (True ∧ True) ∧ (x3 = true → (x7 = true → True ∧ Value.bool false = Value.bool true) ∧ (x7 = false → (x9 = true → True ∧ Value.bool false = Value.bool true) ∧ (x9 = false → (x13 = true → True ∧ Value.bool false = Value.bool true) ∧ (x13 = false → (x15 = true → True ∧ Value.bool false = Value.bool
    true) ∧ (x15 = false → (x17 = true → True ∧ Value.bool true = Value.bool true) ∧ (x17 = false → (x19 ∧ x18 ≤ x6) ∧ x20 ≤ x21.length ∧ (x19 ∧ x18 ≤ x12) ∧ x20 ≤ x22.length ∧ (x23 = true → True ∧ Value.bool true = Value.bool true) ∧ (x23 = false → True ∧ Value.bool false = Value.bool true))))))) ∧ (x3 = false →
    (x7 = true → True ∧ Value.bool false = Value.bool true) ∧ (x7 = false → (x9 = true → True ∧ Value.bool false = Value.bool true) ∧ (x9 = false → True ∧ Value.bool true = Value.bool true)))) ∧ (x1 = false → (True ∧ True) ∧ (x3 = true → (x13 = true → True ∧ Value.bool false = Value.bool true) ∧ (x13 = false → (x15 = true → True
    ∧ Value.bool false = Value.bool true) ∧ (x15 = false → True ∧ Value.bool true = Value.bool true))) ∧ (x3 = false → True ∧ Value.bool true = Value.bool true))) := by kernel_rfl

end Go.Proofs.Ythmighgfefjcmaa.Enc
end

section
/- EncodePrefix: for every two instructions the law hands back true. No condition. -/
set_option maxRecDepth 100000
namespace Go.Proofs.Ythmighgfefjcmaa.Enc
open Go.RowKit Go.Proofs.Ythmighgfefjcmaa.X Go.IntWalk

theorem form_ok {i : Ins} (f : Form i) : EncOk (encI i) := by
  by_cases h0 : i.op = 1 ∨ i.op = 11 ∨ i.op = 31 ∨ (3 ≤ i.op ∧ i.op ≤ 10)
  · rw [enc_sum h0]; exact ok_sum i
  · by_cases h1 : 17 ≤ i.op ∧ i.op ≤ 19
    · rw [enc_sh h1]; exact ok_sh i
    · by_cases h2 : i.op = 20 ∨ i.op = 21
      · rw [enc_st h2]; exact ok_st i
      · by_cases h3 : i.op = 22 ∨ i.op = 23 ∨ i.op = 24
        · rw [enc_j h3]; exact ok_j i
        · rw [enc_ot h0 h1 h2 h3]; exact (form_ot f h0 h1 h2 h3).2
theorem rexL_len (r : Int) (f : Bool) : (rexL r f).length ≤ 1 := by
  unfold rexL; cases (bif r != 0 then true else f) <;> simp
theorem bytes_len {e : Enc} (ok : EncOk e) : 1 ≤ e.bytes.length ∧ e.bytes.length ≤ 15 := by
  have h1 := ok.pre
  have h2 := rexL_len e.rex e.force
  have h3 := ok.op0
  have h4 := ok.op1
  have h5 := ok.all
  simp only [Enc.bytes, Enc.front, List.length_append]
  omega
/-- Bytes, as a text has them. -/
def ub (l : List Int) : List UInt8 := l.map fun n => UInt8.ofNat n.toNat
theorem str_rows (l : List Int) : (ByteArray.mk (List.map (fun r => UInt8.ofNat (asI (r.getD 0 (Value.tuple #[]))).toNat) (rowsB l)).toArray).toList = ub l := by
  rw [ByteArray.toList_eq]
  simp only [rowsB, List.map_map]
  rfl
theorem ub_inj : ∀ {l m : List Int}, InB l → InB m → ub l = ub m → l = m
  | [], [], _, _, _ => rfl
  | [], _ :: _, _, _, h => by simp [ub] at h
  | _ :: _, [], _, _, h => by simp [ub] at h
  | a :: l, b :: m, hl, hm, h => by
    simp only [ub, List.map_cons, List.cons.injEq] at h
    have ha := hl a List.mem_cons_self
    have hb := hm b List.mem_cons_self
    have h1 := congrArg UInt8.toNat h.1
    simp only [UInt8.toNat_ofNat'] at h1
    rw [ub_inj (fun x hx => hl x (List.mem_cons_of_mem _ hx)) (fun x hx => hm x (List.mem_cons_of_mem _ hx)) h.2]
    congr 1
    omega
theorem take_rows (n : Nat) (l : List Int) : List.take n (rowsB l) = rowsB (l.take n) := by simp [rowsB, List.map_take]
theorem bytes_b {i : Ins} (f : Form i) : InB (encI i).bytes := by rw [← (form_wf f).2]; exact (form_wf f).1.inB
theorem inB_take {l : List Int} (h : InB l) (n : Nat) : InB (l.take n) := fun x hx => h x (List.mem_of_mem_take hx)
theorem no_pre {i k : Ins} (f : Form i) (g : Form k) (h : (encI i).bytes.length < (encI k).bytes.length) : (encI k).bytes.take (encI i).bytes.length ≠ (encI i).bytes := fun e => by
  have h2 : (encI i).bytes ++ (encI k).bytes.drop (encI i).bytes.length = (encI k).bytes ++ [] := by
    conv => lhs; arg 1; rw [← e]
    rw [List.append_nil, List.take_append_drop]
  have h3 := (bytes_inj f g h2).2
  have h4 := congrArg List.length h3
  simp at h4
  omega

set_option maxHeartbeats 4000000 in
theorem pfx_sat (σ : Dt) (α : At') : SatB Try.prog Llive 3000 Try.f4 (argsV σ α aPfx 0) := by
  constructor
  rw [pfx_goal]
  intro x0 x1 x2 x3 x5 x6 x7 x9 x11 x12 x13 x15 x17 x18 x19 x20 x21 x22 x23
  have len : ∀ {i : Ins}, chkB i = true → (¬ ((rowsB (encI i).bytes).length : Int) < 1) ∧ ¬ ((rowsB (encI i).bytes).length : Int) > 15 := fun h => by
    have := bytes_len (form_ok (chk_form h))
    rw [rowsB_len]
    omega
  have bad1 : ∀ {n : Int}, ¬ n < 1 → decide (n < 1) = true → False := fun h h2 => h (of_decide_eq_true h2)
  have bad2 : ∀ {n : Int}, ¬ n > 15 → decide (n > 15) = true → False := fun h h2 => h (of_decide_eq_true h2)
  refine ⟨⟨trivial, trivial⟩, fun h1 => ⟨⟨trivial, trivial⟩, fun h3 => ⟨fun h => (bad1 (len h1).1 h).elim, fun _ => ⟨fun h => (bad2 (len h1).2 h).elim, fun _ => ⟨fun h => (bad1 (len h3).1 h).elim, fun _ => ⟨fun h => (bad2 (len h3).2 h).elim, fun _ => ⟨fun _ => ⟨trivial, rfl⟩, fun h17 => ?_⟩⟩⟩⟩⟩,
    fun _ => ⟨fun h => (bad1 (len h1).1 h).elim, fun _ => ⟨fun h => (bad2 (len h1).2 h).elim, fun _ => ⟨trivial, rfl⟩⟩⟩⟩, fun _ => ⟨⟨trivial, trivial⟩, fun h3 => ⟨fun h => (bad1 (len h3).1 h).elim, fun _ => ⟨fun h => (bad2 (len h3).2 h).elim, fun _ => ⟨trivial, rfl⟩⟩⟩, fun _ => ⟨trivial, rfl⟩⟩⟩
  have f := chk_form (show chkB x0 = true from h1)
  have g := chk_form (show chkB x2 = true from h3)
  have la : x5.length = (encI x0).bytes.length := rowsB_len _
  have lb : x11.length = (encI x2).bytes.length := rowsB_len _
  have hne : (encI x0).bytes.length ≠ (encI x2).bytes.length := fun e => by
    have : (((rowsB (encI x0).bytes).length : Int) == ((rowsB (encI x2).bytes).length : Int)) = false := h17
    rw [rowsB_len, rowsB_len, e] at this
    simp at this
  have h18 : x18 = if ((encI x2).bytes.length : Int) < ((encI x0).bytes.length : Int) then ((encI x2).bytes.length : Int) else ((encI x0).bytes.length : Int) := by
    show (if (x11.length : Int) < (x5.length : Int) then (x11.length : Int) else (x5.length : Int)) = _
    rw [la, lb]
  have h20 : x20 = min (encI x0).bytes.length (encI x2).bytes.length := by
    show x18.toNat = _
    rw [h18]; split <;> omega
  have c1 : x19 ∧ x18 ≤ x6 := by
    show 0 ≤ x18 ∧ x18 ≤ (x5.length : Int)
    rw [h18, la]; split <;> omega
  have c2 : x19 ∧ x18 ≤ x12 := by
    show 0 ≤ x18 ∧ x18 ≤ (x11.length : Int)
    rw [h18, lb]; split <;> omega
  have c3 : x20 ≤ x21.length := by
    show x20 ≤ (List.take x20 x5).length
    rw [List.length_take, la, h20]; omega
  have c4 : x20 ≤ x22.length := by
    show x20 ≤ (List.take x20 x11).length
    rw [List.length_take, lb, h20]; omega
  have h23 : x23 = true := by
    show (!(ByteArray.mk (List.map (fun r => UInt8.ofNat (asI (r.getD 0 (Value.tuple #[]))).toNat) (List.take x20 (List.take x20 (rowsB (encI x0).bytes)))).toArray).toList == (ByteArray.mk (List.map (fun r => UInt8.ofNat (asI (r.getD 0 (Value.tuple #[]))).toNat) (List.take x20 (List.take x20 (rowsB (encI x2).bytes)))).toArray).toList) = true
    simp only [take_rows, str_rows, List.take_take, Nat.min_self]
    rw [Bool.not_eq_true', beq_eq_false_iff_ne]
    intro e
    have e2 := ub_inj (inB_take (bytes_b f) _) (inB_take (bytes_b g) _) e
    rw [h20] at e2
    rcases Nat.lt_or_gt_of_ne hne with hlt | hlt
    · rw [Nat.min_eq_left (Nat.le_of_lt hlt), List.take_length] at e2
      exact no_pre f g hlt e2.symm
    · rw [Nat.min_eq_right (Nat.le_of_lt hlt), List.take_length] at e2
      exact no_pre g f hlt e2
  exact ⟨c1, c3, c2, c4, fun _ => ⟨trivial, rfl⟩, fun h => by rw [h23] at h; cases h⟩
theorem pfx_walk (vs cs : List Value) (hv : okArgs aPfx vs cs) (w : World) : Calls Try.prog 4 vs.toArray w fun e w' => e = .returned (.bool true) ∧ Below w.heap.size w w' :=
  law_calls good_live Try.func4 3000 aPfx (fun cs _ => pfx_sat (dtL cs) at0) vs cs hv w
end Go.Proofs.Ythmighgfefjcmaa.Enc
end

section
/- EncodeUnlike: for every two instructions the law hands back true. No condition. -/
set_option maxRecDepth 100000
namespace Go.Proofs.Ythmighgfefjcmaa.Enc
open Go.RowKit Go.Proofs.Ythmighgfefjcmaa.X Go.IntWalk

theorem okCells_get : ∀ {ks : List PK} {cs : List Value} {j : Nat} {k : PK}, okCells ks cs → ks[j]? = some k → okC k (cs.getD j undef)
  | [], _, _, _, _, hj => by simp at hj
  | _ :: _, [], _, _, h, _ => h.elim
  | k0 :: ks, c :: cs, 0, k, h, hj => by
    simp only [List.getElem?_cons_zero, Option.some.injEq] at hj
    subst hj
    exact h.1
  | k0 :: ks, c :: cs, j + 1, k, h, hj => by
    have := okCells_get (j := j) h.2 (by simpa using hj)
    simpa using this
theorem int_rng {v : Value} (h : okC (.int .i64) v) : -9223372036854775808 ≤ asI v ∧ asI v ≤ 9223372036854775807 := by
  obtain ⟨n, rfl, hw⟩ := h
  show -9223372036854775808 ≤ n ∧ n ≤ 9223372036854775807
  have := bounds_i64 hw
  omega
theorem hols_len {i : Ins} (f : Form i) : (encI i).hols.length = if (anon i.to && anon i.src) = true then 0 else 1 := by
  unfold Enc.hols
  rw [List.length_map]
  have rm : ∀ {o : Opd} (k : Int), RmO o → (rmHoles k o).length = if anon o = true then 0 else 1 := fun {o} k ho => by
    unfold rmHoles namedH
    rcases ho with ho | ho
    · rw [isR_reg ho, ho.name]; rfl
    · rw [isR_mem ho]
      cases anon o <;> rfl
  rcases shape f with ⟨W, k, force, op, num, he, ho, hs⟩ | ⟨W, k, force, op, num, he, ho, hs⟩ | ⟨r, force, op, num, he, h1, h2⟩ | ⟨he, ho, hs⟩ <;> rw [he]
  · show (rmHoles k i.to).length = _
    rw [rm k ho, hs, Bool.and_true]
  · show (rmHoles k i.src).length = _
    rw [rm k ho, hs, Bool.true_and]
  · rw [h1, h2]; rfl
  · show (jHole i).length = _
    unfold jHole
    rw [hs, Bool.and_true]
    cases anon i.to <;> rfl
/-- The names, numbers and mods that are compared. -/
def nmN (o : Opd) (n : Int) : Int := bif !anon o then 0 else n
def nmS (o : Opd) : ByteArray := bif !anon o then ByteArray.mk #[120] else o.name
def eqN (o p : Opd) (n m : Int) : Bool :=
  (o.kind == p.kind && (o.r == p.r && (o.base == p.base && (o.index == p.index && (o.scale == p.scale && (o.rip == p.rip && (o.fs == p.fs && (nmN o n == nmN p m && ((nmS o).toList == (nmS p).toList && (nmN o o.mod == nmN p p.mod && true))))))))))
def bN (i : Ins) : Int :=
  bif (bif i.src.kind == 2 then i.size == 4 else false) then IntKind.i64.wrap (IntKind.i32.wrap (IntKind.u32.wrap (bif (bif i.src.kind == 2 then i.size == 1 else false) then IntKind.i64.wrap (IntKind.i8.wrap (IntKind.u8.wrap i.src.n)) else i.src.n))) else (bif (bif i.src.kind == 2 then i.size == 1 else false) then IntKind.i64.wrap (IntKind.i8.wrap (IntKind.u8.wrap i.src.n)) else i.src.n)
def eqB' (i k : Ins) : Bool := (i.op == k.op && (i.size == k.size && (i.cond == k.cond && (eqN i.to k.to i.to.n k.to.n && (eqN i.src k.src (bN i) (bN k) && (i.short == k.short && true))))))
theorem i8_wrap (n : Int) : IntKind.i64.wrap (IntKind.i8.wrap (IntKind.u8.wrap n)) = (n + 128) % 256 - 128 := by
  have e : IntKind.i8.wrap (IntKind.u8.wrap n) = (n + 128) % 256 - 128 := by
    rw [IntKind.wrap_u8]
    simp only [IntKind.wrap, IntKind.bits, IntKind.signed]
    simp
    split <;> omega
  rw [e, i64_in _ (by omega)]
theorem i32_wrap' (n : Int) : IntKind.i64.wrap (IntKind.i32.wrap (IntKind.u32.wrap n)) = (n + 2147483648) % 4294967296 - 2147483648 := by
  have e : IntKind.i32.wrap (IntKind.u32.wrap n) = (n + 2147483648) % 4294967296 - 2147483648 := by
    rw [IntKind.wrap_u32, IntKind.wrap_i32]
    omega
  rw [e, i64_in _ (by omega)]
theorem bN_imm {i : Ins} (h : i.src.kind = 2) : bN i = bareN i.size i.src.n := by
  unfold bN bareN
  rw [beqT h, cond_true, cond_true]
  by_cases h1 : i.size = 1
  · rw [if_pos h1, h1, show ((1 : Int) == 4) = false from rfl, show ((1 : Int) == 1) = true from rfl, cond_false, cond_true, i8_wrap]
  · by_cases h4 : i.size = 4
    · rw [if_neg h1, if_pos h4, h4, show ((4 : Int) == 4) = true from rfl, show ((4 : Int) == 1) = false from rfl, cond_true, cond_false, i32_wrap']
    · rw [if_neg h1, if_neg h4, beqF h1, beqF h4, cond_false, cond_false]
theorem bN_not {i : Ins} (h : i.src.kind ≠ 2) : bN i = i.src.n := by
  unfold bN
  rw [beqF h]; rfl
/-- An operand of one that may be. -/
def OpdOk (o : Opd) : Prop := anon o = true → o.mod = 0
theorem eqN_iff {o p : Opd} (ho : OpdOk o) (hp : OpdOk p) {n m : Int} : eqN o p n m = true ↔ (o.kind = p.kind ∧ o.r = p.r ∧ o.base = p.base ∧ o.index = p.index ∧ o.scale = p.scale ∧ o.rip = p.rip ∧ o.fs = p.fs ∧ (if anon o then n else 0) = (if anon p then m else 0) ∧ anon o = anon p) := by
  have hs : ((nmS o).toList = (nmS p).toList) ↔ anon o = anon p := by
    have t : ∀ {o : Opd}, anon o = true → o.name.toList = [] := fun h => eq_of_beq h
    have x : (ByteArray.mk #[120]).toList = [120] := by rw [ByteArray.toList_eq]
    unfold nmS
    cases ha : anon o <;> cases hb : anon p
    · simp
    · simp only [Bool.not_false, Bool.not_true, cond_true, cond_false, t hb, x]; simp
    · simp only [Bool.not_false, Bool.not_true, cond_true, cond_false, t ha, x]; simp
    · simp only [Bool.not_true, cond_false, t ha, t hb]
  have hn : (nmN o n = nmN p m) ↔ (if anon o then n else 0) = (if anon p then m else 0) := by
    unfold nmN; cases anon o <;> cases anon p <;> simp
  have hm : nmN o o.mod = nmN p p.mod := by
    unfold nmN
    cases ha : anon o <;> cases hb : anon p
    · rfl
    · rw [hp hb]; rfl
    · rw [ho ha]; rfl
    · rw [ho ha, hp hb]
  unfold eqN
  simp only [Bool.and_eq_true, beq_iff_eq, hs, hn, hm, and_true]
theorem form_opds {i : Ins} (f : Form i) : OpdOk i.to ∧ OpdOk i.src := by
  have rm : ∀ {o : Opd}, RmO o → OpdOk o := fun h => h.elim (fun h _ => h.mod) (fun h => h.plain)
  cases f with
  | ri op sz cd sh to src fits => exact ⟨rm to, fun _ => src.mod⟩
  | mi op sz cd sh to src => exact ⟨fun _ => to.mod, fun _ => src.mod⟩
  | shi op sz cd sh to src n0 n1 => exact ⟨rm to, fun _ => src.mod⟩
  | pushi op sz cd sh to src w => exact ⟨fun _ => to.mod, fun _ => src.mod⟩
  | rr op sz sz2' cd sh to src => exact ⟨rm to, fun _ => src.mod⟩
  | rm op sz cd sh to src => exact ⟨fun _ => to.mod, src.plain⟩
  | lea op sz cd sh to src fs => exact ⟨fun _ => to.mod, src.plain⟩
  | ld op sz c0 c1 cd sh to src => exact ⟨fun _ => to.mod, rm src⟩
  | one op sz cd sh to src => exact ⟨rm to, fun _ => src.mod⟩
  | set op sz c0 c1 sh to src => exact ⟨rm to, fun _ => src.mod⟩
  | shr op sz cd sh to src r => exact ⟨rm to, fun _ => src.mod⟩
  | push op sz cd sh to src => exact ⟨fun _ => to.mod, rm src⟩
  | pop op sz cd sh to src => exact ⟨rm to, fun _ => src.mod⟩
  | jt op sz c0 c1 cd sh to src => exact ⟨to.plain, fun _ => src.mod⟩
  | jm op sz cd sh to src => exact ⟨rm to, fun _ => src.mod⟩
  | bare op sz cd sh to src => exact ⟨fun _ => to.mod, fun _ => src.mod⟩
theorem okey_iff {o p : Opd} : okey o = okey p ↔ (o.kind = p.kind ∧ o.r = p.r ∧ o.base = p.base ∧ o.index = p.index ∧ o.scale = p.scale ∧ o.rip = p.rip ∧ o.fs = p.fs ∧ (if anon o then o.n else 0) = (if anon p then p.n else 0) ∧ anon o = anon p) := by
  have b : ∀ {a c : Bool}, bI a = bI c ↔ a = c := fun {a c} => ⟨bI_inj, fun h => by rw [h]⟩
  have c : ((if anon o then (0 : Int) else 1) = if anon p then 0 else 1) ↔ anon o = anon p := by cases anon o <;> cases anon p <;> simp
  unfold okey
  simp only [List.cons.injEq, and_true, b, c]
theorem src_iff {i k : Ins} (f : Form i) (g : Form k) : eqN i.src k.src (bN i) (bN k) = true ↔ srcKey i = srcKey k := by
  rw [eqN_iff (form_opds f).2 (form_opds g).2]
  by_cases hi : i.src.kind = 2
  · have a := form_imm f hi
    rw [srcKey_imm a, bN_imm hi]
    by_cases hk : k.src.kind = 2
    · have b := form_imm g hk
      rw [srcKey_imm b, bN_imm hk, a.kind, b.kind, a.r, b.r, a.base, b.base, a.index, b.index, a.scale, b.scale, a.rip, b.rip, a.fs, b.fs, a.name, b.name]
      simp [immKey]
    · constructor
      · intro h; exact absurd (h.1.symm.trans hi) hk
      · intro h
        have e := srcKey_kind k
        rw [← h] at e
        exact absurd e.symm hk
  · by_cases hk : k.src.kind = 2
    · constructor
      · intro h; exact absurd (h.1.trans hk) hi
      · intro h
        have e := srcKey_kind i
        rw [h, srcKey_kind k] at e
        exact absurd (e.symm.trans hk) hi
    · rw [bN_not hi, bN_not hk, ← okey_iff]
      unfold srcKey
      rw [if_neg hi, if_neg hk]
theorem eqB_iff {i k : Ins} (f : Form i) (g : Form k) : eqB' i k = true ↔ ikey i = ikey k := by
  unfold eqB'
  simp only [Bool.and_eq_true, beq_iff_eq, and_true, src_iff f g, eqN_iff (form_opds f).1 (form_opds g).1, ← okey_iff]
  constructor
  · rintro ⟨h1, h2, h3, h4, h5, h6⟩
    unfold ikey
    rw [h1, h2, h3, h4, h5, h6]
  · intro h
    exact ikey_parts h

set_option maxHeartbeats 4000000 in
theorem unl_sat (σ : Dt) (α : At') (r1 : -9223372036854775808 ≤ σ.I 20 ∧ σ.I 20 ≤ 9223372036854775807) (r2 : -9223372036854775808 ≤ σ.I 44 ∧ σ.I 44 ≤ 9223372036854775807) : SatB Try.prog Llive 3000 Try.f5 (argsV σ α aPfx 0) := by
  constructor
  rw [unl_goal]
  intro x0 x1 x2 x3 x4 x5 x6 x7 x8 x9 x10 x11 x12 x13 x14 x15 x16 x17 x18 x19 x20 x21 x22 x23 x24 x25 x26 x27 x28 x29 x30 x31 x32 x33 x34 x35 x36 x37 x38 x39 x40 x41 x42 x43 x44 x45 x46 x47 x48 x49 x50 x51 x52 x53 x54 x55 x56 x57 x58 x59 x60 x61 x62 x63 x64 x65 x66 x67 x68 x69 x70 x71 x72 x73 x74 x75 x76 x77 x78 x79 x80 x81 x82 x83 x84 x85 x86 x87 x88 x89 x90 x91 x92 x93 x94 x95 x96 x97 x98 x99
  refine ⟨⟨trivial, trivial⟩, fun h1 => ⟨⟨trivial, trivial⟩, fun h3 => ⟨fun _ => ⟨trivial, rfl⟩, fun h6 => ?_⟩, fun _ => ⟨trivial, rfl⟩⟩, fun _ => ⟨⟨trivial, trivial⟩, trivial, rfl⟩⟩
  have f := chk_form (show chkB x0 = true from h1)
  have g := chk_form (show chkB x2 = true from h3)
  have hh : (anon x0.to && anon x0.src) = (anon x2.to && anon x2.src) := by
    have h6' : (((rowsH (encI x0).hols).length : Int) != ((rowsH (encI x2).hols).length : Int)) = false := h6
    rw [rowsH_len, rowsH_len, hols_len f, hols_len g] at h6'
    revert h6'
    cases (anon x0.to && anon x0.src) <;> cases (anon x2.to && anon x2.src) <;> decide
  have hb : ((encI x0).bytes = (encI x2).bytes) ↔ eqB' x0 x2 = true := (same_iff f g r1 r2 hh).trans (eqB_iff f g).symm
  have h99 : x99 = true := by
    have e : x99 = (((ByteArray.mk (List.map (fun r => UInt8.ofNat (asI (r.getD 0 (Value.tuple #[]))).toNat) (List.take (rowsB (encI x0).bytes).length (rowsB (encI x0).bytes))).toArray).toList == (ByteArray.mk (List.map (fun r => UInt8.ofNat (asI (r.getD 0 (Value.tuple #[]))).toNat) (List.take (rowsB (encI x2).bytes).length (rowsB (encI x2).bytes))).toArray).toList) == eqB' x0 x2) := by
      show (_ == _) = _
      simp only [x11, x12, x13, x14, x15, x16, x17, x18, x19, x20, x21, x22, x23, x24, x25, x26, x27, x28, x29, x30, x31, x32, x33, x34, x35, x36, x37, x38, x39, x40, x41, x42, x43, x44, x45, x46, x47, x48, x49, x50, x51, x52, x53, x54, x55, x56, x57, x58, x59, x60, x61, x62, x63, x64, x65, x66, x67, x68, x69, x70, x71, x72, x73, x74, x75, x76, x77, x78, x79, x80, x81, x82, x83, x84, x85, x86, x87, x88, x89, x90, x91, x92, x93, x94, x95, x96, x97, x98, bsame]
      rfl
    rw [e, List.take_length, List.take_length, str_rows, str_rows]
    have hu : (ub (encI x0).bytes == ub (encI x2).bytes) = eqB' x0 x2 := by
      cases he : eqB' x0 x2 with
      | true => rw [hb.2 he]; exact beq_self_eq_true _
      | false =>
        rw [beq_eq_false_iff_ne]
        intro h
        have := hb.1 (ub_inj (bytes_b f) (bytes_b g) h)
        rw [he] at this; cases this
    rw [hu]; exact beq_self_eq_true _
  exact ⟨Nat.le_refl _, Nat.le_refl _, fun _ => ⟨trivial, rfl⟩, fun h => by (rw [h99] at h; cases h)⟩
theorem unl_walk (vs cs : List Value) (hv : okArgs aPfx vs cs) (w : World) : Calls Try.prog 5 vs.toArray w fun e w' => e = .returned (.bool true) ∧ Below w.heap.size w w' :=
  law_calls good_live Try.func5 3000 aPfx (fun cs h => unl_sat (dtL cs) at0 (int_rng (okCells_get (j := 20) h rfl)) (int_rng (okCells_get (j := 44) h rfl))) vs cs hv w
end Go.Proofs.Ythmighgfefjcmaa.Enc
end
