/- Parts of the proof, laid together: EncMath2, EncForm, EncBytV, EncByt, EncLive, RefAD, RefCD, RefDD, RefED, RefFD, Open, EncArg, RefLD, Way, RefMD, RefMV, RefLV, RefFV, RefEV, RefDV, RefC2V, RefCV, RefAV, RefA, RefBV, EncDec, EncDec2, EncDec3, RefB, RefB2. No condition. -/
import Derived.Test.YthmighgfefjcmaaGreatBxD
import Derived.Test.YthmighgfefjcmaaGreatBxC
import Derived.ProofKit
import Derived.OpenShut
import Derived.Carry

section
/- What is written of an instruction that may be: its premises, its sizes. No condition. -/
set_option maxRecDepth 100000
namespace Go.Proofs.YthmighgfefjcmaaGreat.Enc
open Go.RowKit Go.Proofs.YthmighgfefjcmaaGreat.X Go.IntWalk

/-- An op with an operand as rm: W, the register's and the opcode's bits beside. -/
def mE (W k : Int) (o : Opd) (force : Bool) (op num : List Int) : Enc :=
  { pre := rmPre o, rex := rexOr W (rmRex o), force := force, op := op, tail := rmTail k o, number := num, holes := rmHoles k o, inTail := !(rmHoles k o).isEmpty }
theorem groupE_eq (o : Opd) (size small great k : Int) (num : List Int) : groupE o size small great k num = mE (rexW size) k o (lowF o size) [szOp size small great] num := rfl
theorem regE_eq (r : Int) (o : Opd) (size : Int) (force : Bool) (op : List Int) : regE r o size force op = mE (rexW size + rexR r) (r.tmod 8) o force op [] := rfl
theorem rmE_eq (o : Opd) (k : Int) (force : Bool) (op : List Int) : rmE o k force op = mE 0 k o force op [] := rfl

theorem leL_lm (n : Int) (k : Nat) : (leL n k).length = min k 8 := by
  unfold leL; rw [List.length_take]; rfl
theorem rmHead_len (k : Int) (o : Opd) : 1 ≤ (rmHead k o).length ∧ (rmHead k o).length ≤ 2 := by
  unfold rmHead
  cases isR o <;> cases o.rip <;> cases o.fs <;> cases hasX o <;> cases isSp o <;> simp
theorem sizO_le (o : Opd) : sizO o ≤ 4 := by
  unfold sizO; cases anon o <;> cases disp0 o <;> cases disp1 o <;> decide
theorem rmSize_le (o : Opd) : rmSize o ≤ 4 := by
  have := sizO_le o
  unfold rmSize; cases isR o <;> cases o.rip <;> cases o.fs <;> simp only [cond_true, cond_false] <;> omega
theorem rmTail_len (k : Int) (o : Opd) : 1 ≤ (rmTail k o).length ∧ (rmTail k o).length ≤ 6 := by
  have h1 := rmHead_len k o
  have h2 := rmSize_le o
  unfold rmTail
  rw [List.length_append, leL_lm]
  omega
theorem rmPre_len (o : Opd) : (rmPre o).length ≤ 1 := by
  unfold rmPre; cases isR o <;> cases o.rip <;> cases o.fs <;> simp
theorem rmRex_le (o : Opd) : 0 ≤ rmRex o ∧ rmRex o ≤ 3 := by
  unfold rmRex
  cases isR o <;> cases o.rip <;> cases o.fs <;> cases decide (o.r ≥ 8) <;> cases decide (o.base ≥ 8) <;> cases decide (o.index ≥ 8) <;> exact ⟨by decide, by decide⟩
theorem rexOr_le {x y : Int} (hx : x ≤ 15) (hy : y ≤ 15) : 0 ≤ rexOr x y ∧ rexOr x y ≤ 15 := by
  have h : x.toNat ||| y.toNat < 2 ^ 4 := Nat.or_lt_two_pow (by omega) (by omega)
  unfold rexOr
  omega

structure EncOk (e : Enc) : Prop where
  r0 : 0 ≤ e.rex
  r1 : e.rex ≤ 15
  pre : e.pre.length ≤ 1
  op0 : 1 ≤ e.op.length
  op1 : e.op.length ≤ 2
  tail : e.tail.length ≤ 6
  number : e.number.length ≤ 8
  all : e.tail.length + e.number.length ≤ 10
  h1 : e.holes.length ≤ 1
  hat : ∀ h ∈ e.holes, 0 ≤ h.at_ ∧ h.at_ ≤ 100

theorem ok_m {W k : Int} {o : Opd} {force : Bool} {op num : List Int} (hW : W ≤ 15) (h0 : 1 ≤ op.length) (h1 : op.length ≤ 2) (hn : num.length ≤ 4) : EncOk (mE W k o force op num) := by
  have hr := rexOr_le hW (show rmRex o ≤ 15 by have := rmRex_le o; omega)
  have ht := rmTail_len k o
  have hh : (rmHoles k o).length ≤ 1 ∧ ∀ h ∈ rmHoles k o, 0 ≤ h.at_ ∧ h.at_ ≤ 100 := by
    unfold rmHoles namedH
    have := rmHead_len k o
    cases isR o <;> cases anon o <;> refine ⟨by simp, fun h hh => ?_⟩ <;> simp at hh
    subst hh
    exact ⟨by simp, by show ((rmHead k o).length : Int) ≤ 100; omega⟩
  exact ⟨hr.1, hr.2, rmPre_len o, h0, h1, ht.2, by show num.length ≤ 8; omega, by show (rmTail k o).length + num.length ≤ 10; omega, hh.1, hh.2⟩
theorem ok_p {r : Int} {force : Bool} {op num : List Int} {hs : List Hol} (hr : 0 ≤ r ∧ r ≤ 15) (h0 : 1 ≤ op.length) (h1 : op.length ≤ 2) (hn : num.length ≤ 8) (hh : hs.length ≤ 1 ∧ ∀ h ∈ hs, 0 ≤ h.at_ ∧ h.at_ ≤ 100) : EncOk { rex := r, force := force, op := op, number := num, holes := hs } :=
  ⟨hr.1, hr.2, by simp, h0, h1, Nat.zero_le _, hn, by show 0 + num.length ≤ 10; omega, hh.1, hh.2⟩
theorem no_holes : ([] : List Hol).length ≤ 1 ∧ ∀ h ∈ ([] : List Hol), 0 ≤ h.at_ ∧ h.at_ ≤ 100 := ⟨by decide, fun h hh => by (cases hh)⟩
theorem rexR_le (r : Int) : rexR r ≤ 4 := by unfold rexR; cases decide (r ≥ 8) <;> decide
theorem rexW_le8 (s : Int) : rexW s ≤ 8 := by unfold rexW; cases s == 8 <;> decide
theorem min4_l4 (s : Int) : (min4 s).toNat ≤ 4 := by unfold min4; split <;> omega
theorem ok_grp (o : Opd) (size small great k : Int) {num : List Int} (hn : num.length ≤ 4) : EncOk (groupE o size small great k num) := by
  rw [groupE_eq]; exact ok_m (by have := rexW_le8 size; omega) (by simp) (by simp) hn
theorem ok_reg (r : Int) (o : Opd) (size : Int) (force : Bool) {op : List Int} (h0 : 1 ≤ op.length) (h1 : op.length ≤ 2) : EncOk (regE r o size force op) := by
  rw [regE_eq]; exact ok_m (by have := rexW_le8 size; have := rexR_le r; omega) h0 h1 (by decide)
theorem ok_rm (o : Opd) (k : Int) (force : Bool) {op : List Int} (h0 : 1 ≤ op.length) (h1 : op.length ≤ 2) : EncOk (rmE o k force op) := by
  rw [rmE_eq]; exact ok_m (by decide) h0 h1 (by decide)
theorem ok_imm (i : Ins) : EncOk (immE i) := by
  have h4 : (leL i.src.n (min4 i.size).toNat).length ≤ 4 := by rw [leL_lm]; have := min4_l4 i.size; omega
  have h1 : (leL i.src.n 1).length ≤ 4 := by rw [leL_lm]; decide
  unfold immE
  cases (bif i.op == 1 then bif isR i.to then bif decide (i.size < 8) then true else !fits32 i.src.n else false else false) with
  | true =>
    refine ok_p ?_ (by simp) (by simp) (by rw [leL_lm]; omega) no_holes
    exact rexOr_le (by cases decide (i.to.r ≥ 8) <;> decide) (by have := rexW_le8 i.size; omega)
  | false =>
    cases i.op == 1 with
    | true => exact ok_grp _ _ _ _ _ h4
    | false =>
      cases i.op == 11 with
      | true => exact ok_grp _ _ _ _ _ h4
      | false =>
        cases (bif i.size != 1 then short8 i.size i.src.n else false) with
        | true => exact ok_grp _ _ _ _ _ h1
        | false => exact ok_grp _ _ _ _ _ h4
theorem ok_sum (i : Ins) : EncOk (sumE i) := by
  unfold sumE
  cases isI i.src with
  | true => exact ok_imm i
  | false =>
    cases isR i.src with
    | true => exact ok_reg _ _ _ _ (by simp) (by simp)
    | false => exact ok_reg _ _ _ _ (by simp) (by simp)
theorem ok_sh (i : Ins) : EncOk (shE i) := by
  unfold shE
  cases isI i.src with
  | true => exact ok_grp _ _ _ _ _ (by rw [leL_lm]; decide)
  | false => exact ok_grp _ _ _ _ _ (by decide)
theorem ok_plus (r op : Int) : EncOk (plusE r op) := ok_p (by cases decide (r ≥ 8) <;> decide) (by simp) (by simp) (by simp) no_holes
theorem ok_st (i : Ins) : EncOk (stE i) := by
  unfold stE
  cases (bif i.op == 20 then isR i.src else false) with
  | true => exact ok_plus _ _
  | false =>
    cases (bif i.op == 21 then isR i.to else false) with
    | true => exact ok_plus _ _
    | false =>
      cases i.op == 21 with
      | true => exact ok_rm _ _ _ (by simp) (by simp)
      | false =>
        cases isM i.src with
        | true => exact ok_rm _ _ _ (by simp) (by simp)
        | false =>
          cases byteN i.src.n with
          | true => exact ok_p ⟨by decide, by decide⟩ (by simp) (by simp) (by rw [leL_lm]; decide) no_holes
          | false => exact ok_p ⟨by decide, by decide⟩ (by simp) (by simp) (by rw [leL_lm]; decide) no_holes
theorem ok_j (i : Ins) : EncOk (jE i) := by
  unfold jE
  cases !isT i.to with
  | true => exact ok_rm _ _ _ (by simp) (by simp)
  | false =>
    refine ok_p ⟨by decide, by decide⟩ ?_ ?_ (by rw [leL_lm]; omega) ?_
    · unfold jOp; cases i.short <;> cases i.op == 22 <;> cases i.op == 23 <;> simp
    · unfold jOp; cases i.short <;> cases i.op == 22 <;> cases i.op == 23 <;> simp
    · unfold jHole
      cases anon i.to with
      | true => exact no_holes
      | false => exact ⟨by simp, fun h hh => by simp at hh; subst hh; exact ⟨Int.le_refl _, by simp⟩⟩
end Go.Proofs.YthmighgfefjcmaaGreat.Enc
end

section
/- The forms of instructions that may be. No condition. -/
set_option maxRecDepth 100000
namespace Go.Proofs.YthmighgfefjcmaaGreat.Enc
open Go.RowKit Go.Proofs.YthmighgfefjcmaaGreat.X Go.IntWalk

def RmO (o : Opd) : Prop := RegO o ∨ MemO o
def Sz9 (s : Int) : Prop := s = 1 ∨ s = 4 ∨ s = 8
def Sz4 (s : Int) : Prop := s = 4 ∨ s = 8
inductive Form (i : Ins) : Prop where
  | rr (op : i.op = 1 ∨ (3 ≤ i.op ∧ i.op ≤ 10) ∨ i.op = 11 ∨ i.op = 31) (sz : Sz9 i.size) (sz2 : i.op = 31 → Sz4 i.size) (cond : i.cond = 0) (short : i.short = false) (to : RmO i.to) (src : RegO i.src)
  | rm (op : i.op = 1 ∨ (3 ≤ i.op ∧ i.op ≤ 10)) (sz : Sz9 i.size) (cond : i.cond = 0) (short : i.short = false) (to : RegO i.to) (src : MemO i.src)
  | ri (op : i.op = 1 ∨ (3 ≤ i.op ∧ i.op ≤ 10) ∨ i.op = 11) (sz : Sz9 i.size) (cond : i.cond = 0) (short : i.short = false) (to : RmO i.to) (src : ImmO i.src) (fits : fitsB i.src.n i.size = true)
  | mi (op : i.op = 1) (sz : i.size = 8) (cond : i.cond = 0) (short : i.short = false) (to : RegO i.to) (src : ImmO i.src)
  | lea (op : i.op = 2) (sz : Sz4 i.size) (cond : i.cond = 0) (short : i.short = false) (to : RegO i.to) (src : MemO i.src) (fs : i.src.fs = false)
  | ld (op : i.op = 12 ∨ i.op = 28 ∨ i.op = 29 ∨ i.op = 30) (sz : Sz4 i.size) (c0 : 0 ≤ i.cond) (c1 : i.cond ≤ 15) (cond : i.op ≠ 28 → i.cond = 0) (short : i.short = false) (to : RegO i.to) (src : RmO i.src)
  | one (op : 13 ≤ i.op ∧ i.op ≤ 16) (sz : Sz9 i.size) (cond : i.cond = 0) (short : i.short = false) (to : RmO i.to) (src : NoneO i.src)
  | set (op : i.op = 27) (sz : i.size = 1) (c0 : 0 ≤ i.cond) (c1 : i.cond ≤ 15) (short : i.short = false) (to : RmO i.to) (src : NoneO i.src)
  | shr (op : 17 ≤ i.op ∧ i.op ≤ 19) (sz : Sz9 i.size) (cond : i.cond = 0) (short : i.short = false) (to : RmO i.to) (src : RegO i.src) (r : i.src.r = 1)
  | shi (op : 17 ≤ i.op ∧ i.op ≤ 19) (sz : Sz9 i.size) (cond : i.cond = 0) (short : i.short = false) (to : RmO i.to) (src : ImmO i.src) (n0 : 0 ≤ i.src.n) (n1 : i.src.n ≤ 63)
  | push (op : i.op = 20) (sz : i.size = 8) (cond : i.cond = 0) (short : i.short = false) (to : NoneO i.to) (src : RmO i.src)
  | pushi (op : i.op = 20) (sz : i.size = 8) (cond : i.cond = 0) (short : i.short = false) (to : NoneO i.to) (src : ImmO i.src) (wide : wideB i.src.n = true)
  | pop (op : i.op = 21) (sz : i.size = 8) (cond : i.cond = 0) (short : i.short = false) (to : RmO i.to) (src : NoneO i.src)
  | jt (op : i.op = 22 ∨ i.op = 23 ∨ i.op = 24) (sz : i.size = 8) (c0 : 0 ≤ i.cond) (c1 : i.cond ≤ 15) (cond : i.op ≠ 24 → i.cond = 0) (short : i.short = true → i.op ≠ 22 ∧ (anon i.to = true → -128 ≤ i.to.n ∧ i.to.n ≤ 127)) (to : TgtO i.to) (src : NoneO i.src)
  | jm (op : i.op = 22 ∨ i.op = 23) (sz : i.size = 8) (cond : i.cond = 0) (short : i.short = false) (to : RmO i.to) (src : NoneO i.src)
  | bare (op : i.op = 25 ∨ i.op = 26 ∨ (32 ≤ i.op ∧ i.op ≤ 35)) (sz : i.size = 0) (cond : i.cond = 0) (short : i.short = false) (to : NoneO i.to) (src : NoneO i.src)

theorem nn {b : Bool} (h : (!(!b)) = true) : b = true := by cases b <;> simp_all
theorem s9_ok {s : Int} (h : s9 (s == 1) (s == 4) (s == 8) = true) : Sz9 s := by
  unfold s9 at h
  simp at h
  unfold Sz9; omega
theorem s4_ok {s : Int} (h : s4 (s == 1) (s == 4) (s == 8) = true) : Sz4 s := by
  unfold s4 at h
  simp at h
  unfold Sz4; omega
theorem s8_ok {s : Int} (h : s8 (s == 1) (s == 4) (s == 8) = true) : s = 8 := by
  unfold s8 at h
  simp at h
  omega
theorem sq_ok {s k : Int} (h : (!(!(s == k))) = true) : s = k := by simpa using h
theorem c_ok {c : Int} (h : (!(c != 0)) = true) : c = 0 := by simpa using h
theorem sz49 {s : Int} (h : Sz4 s) : Sz9 s := .inr h
section
variable {i : Ins}
theorem sum_ok (h : sumB i = true) : (rmB i.to = true ∧ regB i.src = true) ∨ (rmB i.to = true ∧ givenB i = true) ∨ (regB i.to = true ∧ memB i.src = true) := by
  unfold sumB loadB at h
  cases h1 : rmB i.to <;> cases h2 : regB i.src <;> cases h3 : givenB i <;> simp [h1, h2, h3] at h <;> simp_all
theorem given_ok (h : givenB i = true) : ImmO i.src ∧ fitsB i.src.n i.size = true := by
  unfold givenB at h
  simp [bif3] at h
  exact ⟨immO h.1, h.2⟩
theorem test_ok (h : testB i = true) : rmB i.to = true ∧ (regB i.src = true ∨ givenB i = true) := by
  unfold testB at h
  simpa using h
theorem lea_ok (h : leaB i = true) : RegO i.to ∧ MemO i.src ∧ i.src.fs = false := by
  unfold leaB at h
  simp at h
  exact ⟨regO h.1, memO h.2.1, h.2.2⟩
theorem ld_ok (h : ldB i = true) : RegO i.to ∧ RmO i.src := by
  unfold ldB at h
  simp at h
  exact ⟨regO h.1, rmB_or h.2⟩
theorem one_ok (h : oneB i = true) : RmO i.to ∧ NoneO i.src := by
  unfold oneB at h
  simp at h
  exact ⟨rmB_or h.1, noneO h.2⟩
theorem bare_ok (h : bareB i = true) : NoneO i.to ∧ NoneO i.src := by
  unfold bareB at h
  simp at h
  exact ⟨noneO h.1, noneO h.2⟩
theorem xchg_ok (h : xchgB i = true) : RmO i.to ∧ RegO i.src := by
  unfold xchgB at h
  simp at h
  exact ⟨rmB_or h.1, regO h.2⟩
theorem push_ok (h : pushB i = true) : NoneO i.to ∧ (RmO i.src ∨ (ImmO i.src ∧ wideB i.src.n = true)) := by
  unfold pushB at h
  simp at h
  exact ⟨noneO h.1, h.2.imp rmB_or fun h => ⟨immO h.1, h.2⟩⟩
theorem by_ok {m : Int} (h : byB i m = true) : ImmO i.src ∧ 0 ≤ i.src.n ∧ i.src.n ≤ m := by
  unfold byB at h
  simp at h
  exact ⟨immO h.1, h.2⟩
theorem shm_ok {m : Int} (h : shiftM i m = true) : RmO i.to ∧ ((RegO i.src ∧ i.src.r = 1) ∨ (ImmO i.src ∧ 0 ≤ i.src.n ∧ i.src.n ≤ m)) := by
  unfold shiftM at h
  cases h1 : rmB i.to with
  | false => rw [h1] at h; cases h
  | true =>
    refine ⟨rmB_or h1, ?_⟩
    rw [h1, cond_true] at h
    cases h2 : regB i.src with
    | false => rw [h2, cond_false] at h; exact .inr (by_ok h)
    | true =>
      rw [h2, cond_true] at h
      cases h3 : (i.src.r == 1) with
      | true => exact .inl ⟨regO h2, eq_of_beq h3⟩
      | false => rw [h3, cond_false] at h; exact .inr (by_ok h)
theorem sh_ok (h : shiftB i = true) : RmO i.to ∧ ((RegO i.src ∧ i.src.r = 1) ∨ (ImmO i.src ∧ 0 ≤ i.src.n ∧ i.src.n ≤ 63)) := by
  unfold shiftB at h
  cases h1 : (i.size == 8) with
  | true => rw [h1, cond_true] at h; exact shm_ok h
  | false => rw [h1, cond_false] at h; have := shm_ok h; exact ⟨this.1, this.2.imp id fun h => ⟨h.1, h.2.1, by omega⟩⟩
theorem near_ok (h : nearB i = true) : NoneO i.src ∧ TgtO i.to ∧ (i.short = true → anon i.to = true → -128 ≤ i.to.n ∧ i.to.n ≤ 127) := by
  unfold nearB at h
  simp at h
  refine ⟨noneO h.1, tgtO h.2.1, fun h1 h2 => ?_⟩
  have := h.2.2
  rw [h1, h2] at this
  simpa using this
end

theorem chk_form {i : Ins} (h : chkB i = true) : Form i := by
  have P := chk_parts h
  clear h
  obtain ⟨op, size, cond, to, src, short⟩ := i
  have h0 : 1 ≤ op := P.op0
  have h1 : op ≤ 35 := P.op1
  have hn : op ≠ 23 → op ≠ 24 → short = false := fun h2 h3 => by
    cases short with
    | false => rfl
    | true => exact absurd (P.short rfl) (by simp only; omega)
  have c0 : 0 ≤ cond := P.c0
  have c1 : cond ≤ 15 := P.c1
  have hs := P.short
  have hop : op = 1 ∨ op = 2 ∨ op = 3 ∨ op = 4 ∨ op = 5 ∨ op = 6 ∨ op = 7 ∨ op = 8 ∨ op = 9 ∨ op = 10 ∨ op = 11 ∨ op = 12 ∨ op = 13 ∨ op = 14 ∨ op = 15 ∨ op = 16 ∨ op = 17 ∨ op = 18 ∨ op = 19 ∨ op = 20 ∨ op = 21 ∨ op = 22 ∨ op = 23 ∨ op = 24 ∨ op = 25 ∨ op = 26 ∨ op = 27 ∨ op = 28 ∨ op = 29 ∨ op = 30 ∨ op = 31 ∨ op = 32 ∨ op = 33 ∨ op = 34 ∨ op = 35 := by omega
  rcases hop with rfl | rfl | rfl | rfl | rfl | rfl | rfl | rfl | rfl | rfl | rfl | rfl | rfl | rfl | rfl | rfl | rfl | rfl | rfl | rfl | rfl | rfl | rfl | rfl | rfl | rfl | rfl | rfl | rfl | rfl | rfl | rfl | rfl | rfl | rfl
  · have sz : Sz9 size := s9_ok P.size
    have cd : cond = 0 := c_ok P.cond
    have sh : short = false := hn (by decide) (by decide)
    have o : movB ⟨1, size, cond, to, src, short⟩ = true := nn P.ops
    have o2 : sumB ⟨1, size, cond, to, src, short⟩ = true ∨ (size = 8 ∧ regB to = true ∧ immB src = true) := by
      unfold movB at o
      simpa using o
    rcases o2 with o2 | o2
    · rcases sum_ok o2 with hh | hh | hh
      · exact .rr (by simp) sz (fun h => absurd h (by simp)) cd sh (rmB_or hh.1) (regO hh.2)
      · exact .ri (by simp) sz cd sh (rmB_or hh.1) (given_ok hh.2).1 (given_ok hh.2).2
      · exact .rm (by simp) sz cd sh (regO hh.1) (memO hh.2)
    · exact .mi rfl o2.1 cd sh (regO o2.2.1) (immO o2.2.2)
  · have sz : Sz4 size := s4_ok P.size
    have cd : cond = 0 := c_ok P.cond
    have sh : short = false := hn (by decide) (by decide)
    have o : leaB ⟨2, size, cond, to, src, short⟩ = true := nn P.ops
    exact .lea rfl sz cd sh (lea_ok o).1 (lea_ok o).2.1 (lea_ok o).2.2
  · have sz : Sz9 size := s9_ok P.size
    have cd : cond = 0 := c_ok P.cond
    have sh : short = false := hn (by decide) (by decide)
    have o : sumB ⟨3, size, cond, to, src, short⟩ = true := nn P.ops
    rcases sum_ok o with hh | hh | hh
    · exact .rr (by simp) sz (fun h => absurd h (by simp)) cd sh (rmB_or hh.1) (regO hh.2)
    · exact .ri (by simp) sz cd sh (rmB_or hh.1) (given_ok hh.2).1 (given_ok hh.2).2
    · exact .rm (by simp) sz cd sh (regO hh.1) (memO hh.2)
  · have sz : Sz9 size := s9_ok P.size
    have cd : cond = 0 := c_ok P.cond
    have sh : short = false := hn (by decide) (by decide)
    have o : sumB ⟨4, size, cond, to, src, short⟩ = true := nn P.ops
    rcases sum_ok o with hh | hh | hh
    · exact .rr (by simp) sz (fun h => absurd h (by simp)) cd sh (rmB_or hh.1) (regO hh.2)
    · exact .ri (by simp) sz cd sh (rmB_or hh.1) (given_ok hh.2).1 (given_ok hh.2).2
    · exact .rm (by simp) sz cd sh (regO hh.1) (memO hh.2)
  · have sz : Sz9 size := s9_ok P.size
    have cd : cond = 0 := c_ok P.cond
    have sh : short = false := hn (by decide) (by decide)
    have o : sumB ⟨5, size, cond, to, src, short⟩ = true := nn P.ops
    rcases sum_ok o with hh | hh | hh
    · exact .rr (by simp) sz (fun h => absurd h (by simp)) cd sh (rmB_or hh.1) (regO hh.2)
    · exact .ri (by simp) sz cd sh (rmB_or hh.1) (given_ok hh.2).1 (given_ok hh.2).2
    · exact .rm (by simp) sz cd sh (regO hh.1) (memO hh.2)
  · have sz : Sz9 size := s9_ok P.size
    have cd : cond = 0 := c_ok P.cond
    have sh : short = false := hn (by decide) (by decide)
    have o : sumB ⟨6, size, cond, to, src, short⟩ = true := nn P.ops
    rcases sum_ok o with hh | hh | hh
    · exact .rr (by simp) sz (fun h => absurd h (by simp)) cd sh (rmB_or hh.1) (regO hh.2)
    · exact .ri (by simp) sz cd sh (rmB_or hh.1) (given_ok hh.2).1 (given_ok hh.2).2
    · exact .rm (by simp) sz cd sh (regO hh.1) (memO hh.2)
  · have sz : Sz9 size := s9_ok P.size
    have cd : cond = 0 := c_ok P.cond
    have sh : short = false := hn (by decide) (by decide)
    have o : sumB ⟨7, size, cond, to, src, short⟩ = true := nn P.ops
    rcases sum_ok o with hh | hh | hh
    · exact .rr (by simp) sz (fun h => absurd h (by simp)) cd sh (rmB_or hh.1) (regO hh.2)
    · exact .ri (by simp) sz cd sh (rmB_or hh.1) (given_ok hh.2).1 (given_ok hh.2).2
    · exact .rm (by simp) sz cd sh (regO hh.1) (memO hh.2)
  · have sz : Sz9 size := s9_ok P.size
    have cd : cond = 0 := c_ok P.cond
    have sh : short = false := hn (by decide) (by decide)
    have o : sumB ⟨8, size, cond, to, src, short⟩ = true := nn P.ops
    rcases sum_ok o with hh | hh | hh
    · exact .rr (by simp) sz (fun h => absurd h (by simp)) cd sh (rmB_or hh.1) (regO hh.2)
    · exact .ri (by simp) sz cd sh (rmB_or hh.1) (given_ok hh.2).1 (given_ok hh.2).2
    · exact .rm (by simp) sz cd sh (regO hh.1) (memO hh.2)
  · have sz : Sz9 size := s9_ok P.size
    have cd : cond = 0 := c_ok P.cond
    have sh : short = false := hn (by decide) (by decide)
    have o : sumB ⟨9, size, cond, to, src, short⟩ = true := nn P.ops
    rcases sum_ok o with hh | hh | hh
    · exact .rr (by simp) sz (fun h => absurd h (by simp)) cd sh (rmB_or hh.1) (regO hh.2)
    · exact .ri (by simp) sz cd sh (rmB_or hh.1) (given_ok hh.2).1 (given_ok hh.2).2
    · exact .rm (by simp) sz cd sh (regO hh.1) (memO hh.2)
  · have sz : Sz9 size := s9_ok P.size
    have cd : cond = 0 := c_ok P.cond
    have sh : short = false := hn (by decide) (by decide)
    have o : sumB ⟨10, size, cond, to, src, short⟩ = true := nn P.ops
    rcases sum_ok o with hh | hh | hh
    · exact .rr (by simp) sz (fun h => absurd h (by simp)) cd sh (rmB_or hh.1) (regO hh.2)
    · exact .ri (by simp) sz cd sh (rmB_or hh.1) (given_ok hh.2).1 (given_ok hh.2).2
    · exact .rm (by simp) sz cd sh (regO hh.1) (memO hh.2)
  · have sz : Sz9 size := s9_ok P.size
    have cd : cond = 0 := c_ok P.cond
    have sh : short = false := hn (by decide) (by decide)
    have o : testB ⟨11, size, cond, to, src, short⟩ = true := nn P.ops
    rcases (test_ok o).2 with hh | hh
    · exact .rr (by simp) sz (fun h => absurd h (by simp)) cd sh (rmB_or (test_ok o).1) (regO hh)
    · exact .ri (by simp) sz cd sh (rmB_or (test_ok o).1) (given_ok hh).1 (given_ok hh).2
  · have sz : Sz4 size := s4_ok P.size
    have cd : cond = 0 := c_ok P.cond
    have sh : short = false := hn (by decide) (by decide)
    have o : ldB ⟨12, size, cond, to, src, short⟩ = true := nn P.ops
    exact .ld (by simp) sz c0 c1 (fun _ => cd) sh (ld_ok o).1 (ld_ok o).2
  · have sz : Sz9 size := s9_ok P.size
    have cd : cond = 0 := c_ok P.cond
    have sh : short = false := hn (by decide) (by decide)
    have o : oneB ⟨13, size, cond, to, src, short⟩ = true := nn P.ops
    exact .one (by simp) sz cd sh (one_ok o).1 (one_ok o).2
  · have sz : Sz9 size := s9_ok P.size
    have cd : cond = 0 := c_ok P.cond
    have sh : short = false := hn (by decide) (by decide)
    have o : oneB ⟨14, size, cond, to, src, short⟩ = true := nn P.ops
    exact .one (by simp) sz cd sh (one_ok o).1 (one_ok o).2
  · have sz : Sz9 size := s9_ok P.size
    have cd : cond = 0 := c_ok P.cond
    have sh : short = false := hn (by decide) (by decide)
    have o : oneB ⟨15, size, cond, to, src, short⟩ = true := nn P.ops
    exact .one (by simp) sz cd sh (one_ok o).1 (one_ok o).2
  · have sz : Sz9 size := s9_ok P.size
    have cd : cond = 0 := c_ok P.cond
    have sh : short = false := hn (by decide) (by decide)
    have o : oneB ⟨16, size, cond, to, src, short⟩ = true := nn P.ops
    exact .one (by simp) sz cd sh (one_ok o).1 (one_ok o).2
  · have sz : Sz9 size := s9_ok P.size
    have cd : cond = 0 := c_ok P.cond
    have sh : short = false := hn (by decide) (by decide)
    have o : shiftB ⟨17, size, cond, to, src, short⟩ = true := nn P.ops
    rcases (sh_ok o).2 with hh | hh
    · exact .shr (by simp) sz cd sh (sh_ok o).1 hh.1 hh.2
    · exact .shi (by simp) sz cd sh (sh_ok o).1 hh.1 hh.2.1 hh.2.2
  · have sz : Sz9 size := s9_ok P.size
    have cd : cond = 0 := c_ok P.cond
    have sh : short = false := hn (by decide) (by decide)
    have o : shiftB ⟨18, size, cond, to, src, short⟩ = true := nn P.ops
    rcases (sh_ok o).2 with hh | hh
    · exact .shr (by simp) sz cd sh (sh_ok o).1 hh.1 hh.2
    · exact .shi (by simp) sz cd sh (sh_ok o).1 hh.1 hh.2.1 hh.2.2
  · have sz : Sz9 size := s9_ok P.size
    have cd : cond = 0 := c_ok P.cond
    have sh : short = false := hn (by decide) (by decide)
    have o : shiftB ⟨19, size, cond, to, src, short⟩ = true := nn P.ops
    rcases (sh_ok o).2 with hh | hh
    · exact .shr (by simp) sz cd sh (sh_ok o).1 hh.1 hh.2
    · exact .shi (by simp) sz cd sh (sh_ok o).1 hh.1 hh.2.1 hh.2.2
  · have sz : size = 8 := s8_ok P.size
    have cd : cond = 0 := c_ok P.cond
    have sh : short = false := hn (by decide) (by decide)
    have o : pushB ⟨20, size, cond, to, src, short⟩ = true := nn P.ops
    rcases (push_ok o).2 with hh | hh
    · exact .push rfl sz cd sh (push_ok o).1 hh
    · exact .pushi rfl sz cd sh (push_ok o).1 hh.1 hh.2
  · have sz : size = 8 := s8_ok P.size
    have cd : cond = 0 := c_ok P.cond
    have sh : short = false := hn (by decide) (by decide)
    have o : oneB ⟨21, size, cond, to, src, short⟩ = true := nn P.ops
    exact .pop rfl sz cd sh (one_ok o).1 (one_ok o).2
  · have sz : size = 8 := sq_ok P.size
    have cd : cond = 0 := c_ok P.cond
    have sh : short = false := hn (by decide) (by decide)
    have o : callB ⟨22, size, cond, to, src, short⟩ = true := nn P.ops
    have o2 : nearB ⟨22, size, cond, to, src, short⟩ = true ∨ oneB ⟨22, size, cond, to, src, short⟩ = true := by
      unfold callB at o
      simp at o
      exact o.2
    rcases o2 with o2 | o2
    · exact .jt (by simp) sz c0 c1 (fun _ => cd) (fun h => by rw [sh] at h; cases h) (near_ok o2).2.1 (near_ok o2).1
    · exact .jm (by simp) sz cd sh (one_ok o2).1 (one_ok o2).2
  · have sz : size = 8 := sq_ok P.size
    have cd : cond = 0 := c_ok P.cond
    have o : jmpB ⟨23, size, cond, to, src, short⟩ = true := nn P.ops
    have o2 : nearB ⟨23, size, cond, to, src, short⟩ = true ∨ (short = false ∧ oneB ⟨23, size, cond, to, src, short⟩ = true) := by
      unfold jmpB at o
      simpa using o
    rcases o2 with o2 | o2
    · exact .jt (by simp) sz c0 c1 (fun _ => cd) (fun h => ⟨by simp, (near_ok o2).2.2 h⟩) (near_ok o2).2.1 (near_ok o2).1
    · exact .jm (by simp) sz cd o2.1 (one_ok o2.2).1 (one_ok o2.2).2
  · have sz : size = 8 := sq_ok P.size
    have o : nearB ⟨24, size, cond, to, src, short⟩ = true := nn P.ops
    exact .jt (by simp) sz c0 c1 (fun h => absurd rfl h) (fun h => ⟨by simp, (near_ok o).2.2 h⟩) (near_ok o).2.1 (near_ok o).1
  · have sz : size = 0 := sq_ok P.size
    have cd : cond = 0 := c_ok P.cond
    have sh : short = false := hn (by decide) (by decide)
    have o : bareB ⟨25, size, cond, to, src, short⟩ = true := nn P.ops
    exact .bare (by simp) sz cd sh (bare_ok o).1 (bare_ok o).2
  · have sz : size = 0 := sq_ok P.size
    have cd : cond = 0 := c_ok P.cond
    have sh : short = false := hn (by decide) (by decide)
    have o : bareB ⟨26, size, cond, to, src, short⟩ = true := nn P.ops
    exact .bare (by simp) sz cd sh (bare_ok o).1 (bare_ok o).2
  · have sz : size = 1 := sq_ok P.size
    have sh : short = false := hn (by decide) (by decide)
    have o : oneB ⟨27, size, cond, to, src, short⟩ = true := nn P.ops
    exact .set rfl sz c0 c1 sh (one_ok o).1 (one_ok o).2
  · have sz : Sz4 size := s4_ok P.size
    have sh : short = false := hn (by decide) (by decide)
    have o : ldB ⟨28, size, cond, to, src, short⟩ = true := nn P.ops
    exact .ld (by simp) sz c0 c1 (fun h => absurd rfl h) sh (ld_ok o).1 (ld_ok o).2
  · have sz : Sz4 size := s4_ok P.size
    have cd : cond = 0 := c_ok P.cond
    have sh : short = false := hn (by decide) (by decide)
    have o : ldB ⟨29, size, cond, to, src, short⟩ = true := nn P.ops
    exact .ld (by simp) sz c0 c1 (fun _ => cd) sh (ld_ok o).1 (ld_ok o).2
  · have sz : Sz4 size := s4_ok P.size
    have cd : cond = 0 := c_ok P.cond
    have sh : short = false := hn (by decide) (by decide)
    have o : ldB ⟨30, size, cond, to, src, short⟩ = true := nn P.ops
    exact .ld (by simp) sz c0 c1 (fun _ => cd) sh (ld_ok o).1 (ld_ok o).2
  · have sz : Sz4 size := s4_ok P.size
    have cd : cond = 0 := c_ok P.cond
    have sh : short = false := hn (by decide) (by decide)
    have o : xchgB ⟨31, size, cond, to, src, short⟩ = true := nn P.ops
    exact .rr (by simp) (sz49 sz) (fun _ => sz) cd sh (xchg_ok o).1 (xchg_ok o).2
  · have sz : size = 0 := sq_ok P.size
    have cd : cond = 0 := c_ok P.cond
    have sh : short = false := hn (by decide) (by decide)
    have o : bareB ⟨32, size, cond, to, src, short⟩ = true := nn P.ops
    exact .bare (by simp) sz cd sh (bare_ok o).1 (bare_ok o).2
  · have sz : size = 0 := sq_ok P.size
    have cd : cond = 0 := c_ok P.cond
    have sh : short = false := hn (by decide) (by decide)
    have o : bareB ⟨33, size, cond, to, src, short⟩ = true := nn P.ops
    exact .bare (by simp) sz cd sh (bare_ok o).1 (bare_ok o).2
  · have sz : size = 0 := sq_ok P.size
    have cd : cond = 0 := c_ok P.cond
    have sh : short = false := hn (by decide) (by decide)
    have o : bareB ⟨34, size, cond, to, src, short⟩ = true := nn P.ops
    exact .bare (by simp) sz cd sh (bare_ok o).1 (bare_ok o).2
  · have sz : size = 0 := sq_ok P.size
    have cd : cond = 0 := c_ok P.cond
    have sh : short = false := hn (by decide) (by decide)
    have o : bareB ⟨35, size, cond, to, src, short⟩ = true := nn P.ops
    exact .bare (by simp) sz cd sh (bare_ok o).1 (bare_ok o).2
end Go.Proofs.YthmighgfefjcmaaGreat.Enc
end

section
/- Written by vc.py: what is to be shown, read out. No condition. -/
set_option maxRecDepth 1000000
set_option maxHeartbeats 0
namespace Go.Proofs.YthmighgfefjcmaaGreat.Enc
open Go.RowKit Go.Proofs.YthmighgfefjcmaaGreat.X
theorem bytes_goal (σ : Dt) (α : At') : (cBytes.goal Tryz.prog Lchk.mk' 3000 Tryz.f4 σ α) = (
let x0 := (Ins.mk (σ.I 0) (σ.I 1) (σ.I 2) (Opd.mk (σ.I 3) (σ.I 4) (σ.I 5) (σ.I 6) (σ.I 7) (σ.B 8) (σ.B 9) (σ.I 10) (σ.S 11) (σ.I 12)) (Opd.mk (σ.I 13) (σ.I 14) (σ.I 15) (σ.I 16) (σ.I
    17) (σ.B 18) (σ.B 19) (σ.I 20) (σ.S 21) (σ.I 22)) (σ.B 23));
let x1 := bif chkB x0 then (0 : Int) else (30 : Int);
let x2 := x1 != (0 : Int);
let x3 := σ.I 0 == (1 : Int);
let x4 := σ.I 0 == (11 : Int);
let x5 := bif x3 then x3 else bif x4 then x4 else σ.I 0 == (31 : Int);
let x6 := sumE x0;
let x7 := rowsB x6.pre;
let x8 := x7.length;
let x9 := rowsB x6.op;
let x10 := x9.length;
let x11 := rowsB x6.tail;
let x12 := x11.length;
let x13 := rowsB x6.number;
let x14 := x13.length;
let x15 := rowsH x6.holes;
let x16 := x15.length;
let x17 := x6.rex;
let x18 := x7 ++ rowsB (rexL x17 x6.force) ++ x9;
let x19 := x18 ++ x11;
let x20 := x19 ++ x13;
let x21 := x20.length;
let x22 := x6.inTail;
let x23 := movRs x22 (finAt x22 x18.length x19.length) (↑x21 : Int) 0 x15;
let x24 := (True ∧ sumOk x0) ∧ ((((((True ∧ x8 = x8) ∧ x10 = x10) ∧ x12 = x12) ∧ x14 = x14) ∧ x16 = x16) ∧ (0 : Int) ≤ x17 ∧ x17 ≤ (15 : Int) ∧ x8 ≤ 10 ∧ x10 ≤ 10 ∧ x12 ≤ 10 ∧ x14 ≤ 10 ∧ ∃ l, x15 = rowsH l ∧ l.length ≤ 1 ∧ ∀ (h : Hol), h ∈ l → (0 : Int) ≤ h.at_ ∧ h.at_ ≤ (100 : Int)) ∧ True ∧ (chkB
    (ins σ 0) = true → Ex.ret = Ex.ret ∧ true = true ∧ (True ∧ x21 = x21 ∧ x20 = rowsB (encI (ins σ 0)).bytes) ∧ x16 = x23.length ∧ x23 = rowsH (encI (ins σ 0)).hols) ∧ (chkB (ins σ 0) = false → Ex.ret = Ex.ret ∧ true = true ∧ False);
let x25 := σ.I 0 == (3 : Int);
let x26 := σ.I 0 == (4 : Int);
let x27 := σ.I 0 == (5 : Int);
let x28 := σ.I 0 == (6 : Int);
let x29 := σ.I 0 == (7 : Int);
let x30 := σ.I 0 == (8 : Int);
let x31 := σ.I 0 == (9 : Int);
let x32 := bif x25 then x25 else bif x26 then x26 else bif x27 then x27 else bif x28 then x28 else bif x29 then x29 else bif x30 then x30 else bif x31 then x31 else σ.I 0 == (10 : Int);
let x33 := σ.I 0 == (17 : Int);
let x34 := σ.I 0 == (18 : Int);
let x35 := bif x33 then x33 else bif x34 then x34 else σ.I 0 == (19 : Int);
let x36 := shE x0;
let x37 := rowsB x36.pre;
let x38 := x37.length;
let x39 := rowsB x36.op;
let x40 := x39.length;
let x41 := rowsB x36.tail;
let x42 := x41.length;
let x43 := rowsB x36.number;
let x44 := x43.length;
let x45 := rowsH x36.holes;
let x46 := x45.length;
let x47 := x36.rex;
let x48 := x37 ++ rowsB (rexL x47 x36.force) ++ x39;
let x49 := x48 ++ x41;
let x50 := x49 ++ x43;
let x51 := x50.length;
let x52 := x36.inTail;
let x53 := movRs x52 (finAt x52 x48.length x49.length) (↑x51 : Int) 0 x45;
let x54 := σ.I 0 == (20 : Int);
let x55 := bif x54 then x54 else σ.I 0 == (21 : Int);
let x56 := stE x0;
let x57 := rowsB x56.pre;
let x58 := x57.length;
let x59 := rowsB x56.op;
let x60 := x59.length;
let x61 := rowsB x56.tail;
let x62 := x61.length;
let x63 := rowsB x56.number;
let x64 := x63.length;
let x65 := rowsH x56.holes;
let x66 := x65.length;
let x67 := x56.rex;
let x68 := x57 ++ rowsB (rexL x67 x56.force) ++ x59;
let x69 := x68 ++ x61;
let x70 := x69 ++ x63;
let x71 := x70.length;
let x72 := x56.inTail;
let x73 := movRs x72 (finAt x72 x68.length x69.length) (↑x71 : Int) 0 x65;
let x74 := σ.I 0 == (22 : Int);
let x75 := σ.I 0 == (23 : Int);
let x76 := bif x74 then x74 else bif x75 then x75 else σ.I 0 == (24 : Int);
let x77 := jE x0;
let x78 := rowsB x77.pre;
let x79 := x78.length;
let x80 := rowsB x77.op;
let x81 := x80.length;
let x82 := rowsB x77.tail;
let x83 := x82.length;
let x84 := rowsB x77.number;
let x85 := x84.length;
let x86 := rowsH x77.holes;
let x87 := x86.length;
let x88 := x77.rex;
let x89 := x78 ++ rowsB (rexL x88 x77.force) ++ x80;
let x90 := x89 ++ x82;
let x91 := x90 ++ x84;
let x92 := x91.length;
let x93 := x77.inTail;
let x94 := movRs x93 (finAt x93 x89.length x90.length) (↑x92 : Int) 0 x86;
let x95 := otE x0;
let x96 := rowsB x95.pre;
let x97 := x96.length;
let x98 := rowsB x95.op;
let x99 := x98.length;
let x100 := rowsB x95.tail;
let x101 := x100.length;
let x102 := rowsB x95.number;
let x103 := x102.length;
let x104 := rowsH x95.holes;
let x105 := x104.length;
let x106 := x95.rex;
let x107 := x96 ++ rowsB (rexL x106 x95.force) ++ x98;
let x108 := x107 ++ x100;
let x109 := x108 ++ x102;
let x110 := x109.length;
let x111 := x95.inTail;
let x112 := movRs x111 (finAt x111 x107.length x108.length) (↑x110 : Int) 0 x104;
(True ∧ True) ∧ (x2 = true → True ∧ (chkB (ins σ 0) = true → Ex.ret = Ex.ret ∧ true = true ∧ ((True ∧ 0 = 0 ∧ [] = rowsB (encI (ins σ 0)).bytes) ∧ 0 = 0 ∧ [] = rowsH (encI (ins σ 0)).hols) ∧ Value.int IntKind.i64 x1 = Value.int IntKind.i64 (0 : Int)) ∧ (chkB (ins σ 0) = false → Ex.ret = Ex.ret ∧
    true = true ∧ True ∧ Value.int IntKind.i64 x1 = Value.int IntKind.i64 (30 : Int))) ∧ (x2 = false → (x5 = true → x24) ∧ (x5 = false → (x32 = true → x24) ∧ (x32 = false → (x35 = true → (True ∧ (17 : Int) ≤ σ.I 0 ∧ σ.I 0 ≤ (19 : Int) ∧ rmOk x0.to) ∧ ((((((True ∧ x38 = x38) ∧ x40 = x40) ∧ x42 = x42)
    ∧ x44 = x44) ∧ x46 = x46) ∧ (0 : Int) ≤ x47 ∧ x47 ≤ (15 : Int) ∧ x38 ≤ 10 ∧ x40 ≤ 10 ∧ x42 ≤ 10 ∧ x44 ≤ 10 ∧ ∃ l, x45 = rowsH l ∧ l.length ≤ 1 ∧ ∀ (h : Hol), h ∈ l → (0 : Int) ≤ h.at_ ∧ h.at_ ≤ (100 : Int)) ∧ True ∧ (chkB (ins σ 0) = true → Ex.ret = Ex.ret ∧ true = true ∧ (True ∧ x51 = x51 ∧ x50
    = rowsB (encI (ins σ 0)).bytes) ∧ x46 = x53.length ∧ x53 = rowsH (encI (ins σ 0)).hols) ∧ (chkB (ins σ 0) = false → Ex.ret = Ex.ret ∧ true = true ∧ False)) ∧ (x35 = false → (x55 = true → (True ∧ stOk x0) ∧ ((((((True ∧ x58 = x58) ∧ x60 = x60) ∧ x62 = x62) ∧ x64 = x64) ∧ x66 = x66) ∧ (0 : Int) ≤
    x67 ∧ x67 ≤ (15 : Int) ∧ x58 ≤ 10 ∧ x60 ≤ 10 ∧ x62 ≤ 10 ∧ x64 ≤ 10 ∧ ∃ l, x65 = rowsH l ∧ l.length ≤ 1 ∧ ∀ (h : Hol), h ∈ l → (0 : Int) ≤ h.at_ ∧ h.at_ ≤ (100 : Int)) ∧ True ∧ (chkB (ins σ 0) = true → Ex.ret = Ex.ret ∧ true = true ∧ (True ∧ x71 = x71 ∧ x70 = rowsB (encI (ins σ 0)).bytes) ∧ x66 =
    x73.length ∧ x73 = rowsH (encI (ins σ 0)).hols) ∧ (chkB (ins σ 0) = false → Ex.ret = Ex.ret ∧ true = true ∧ False)) ∧ (x55 = false → (x76 = true → (True ∧ jOk x0) ∧ ((((((True ∧ x79 = x79) ∧ x81 = x81) ∧ x83 = x83) ∧ x85 = x85) ∧ x87 = x87) ∧ (0 : Int) ≤ x88 ∧ x88 ≤ (15 : Int) ∧ x79 ≤ 10 ∧ x81 ≤
    10 ∧ x83 ≤ 10 ∧ x85 ≤ 10 ∧ ∃ l, x86 = rowsH l ∧ l.length ≤ 1 ∧ ∀ (h : Hol), h ∈ l → (0 : Int) ≤ h.at_ ∧ h.at_ ≤ (100 : Int)) ∧ True ∧ (chkB (ins σ 0) = true → Ex.ret = Ex.ret ∧ true = true ∧ (True ∧ x92 = x92 ∧ x91 = rowsB (encI (ins σ 0)).bytes) ∧ x87 = x94.length ∧ x94 = rowsH (encI (ins σ
    0)).hols) ∧ (chkB (ins σ 0) = false → Ex.ret = Ex.ret ∧ true = true ∧ False)) ∧ (x76 = false → (True ∧ otOk x0) ∧ ((((((True ∧ x97 = x97) ∧ x99 = x99) ∧ x101 = x101) ∧ x103 = x103) ∧ x105 = x105) ∧ (0 : Int) ≤ x106 ∧ x106 ≤ (15 : Int) ∧ x97 ≤ 10 ∧ x99 ≤ 10 ∧ x101 ≤ 10 ∧ x103 ≤ 10 ∧ ∃ l, x104 =
    rowsH l ∧ l.length ≤ 1 ∧ ∀ (h : Hol), h ∈ l → (0 : Int) ≤ h.at_ ∧ h.at_ ≤ (100 : Int)) ∧ True ∧ (chkB (ins σ 0) = true → Ex.ret = Ex.ret ∧ true = true ∧ (True ∧ x110 = x110 ∧ x109 = rowsB (encI (ins σ 0)).bytes) ∧ x105 = x112.length ∧ x112 = rowsH (encI (ins σ 0)).hols) ∧ (chkB (ins σ 0) = false
    → Ex.ret = Ex.ret ∧ true = true ∧ False)))))))) := by kernel_rfl

end Go.Proofs.YthmighgfefjcmaaGreat.Enc
end

section
/- The bytes and the hole of an instruction: shown. No condition. -/
set_option maxRecDepth 100000
namespace Go.Proofs.YthmighgfefjcmaaGreat.Enc
open Go.RowKit Go.Proofs.YthmighgfefjcmaaGreat.X Go.IntWalk

theorem bif_or (a b : Bool) : (bif a then a else b) = (a || b) := by cases a <;> rfl
theorem isSums_iff (op : Int) : isSums op = true ↔ (op = 1 ∨ op = 11 ∨ op = 31 ∨ (3 ≤ op ∧ op ≤ 10)) := by
  unfold isSums; simp [or_assoc]
theorem isSh_iff (op : Int) : isSh op = true ↔ 17 ≤ op ∧ op ≤ 19 := by
  unfold isSh; simp only [bif_or, Bool.or_eq_true, beq_iff_eq]; omega
theorem enc_sum {i : Ins} (h : i.op = 1 ∨ i.op = 11 ∨ i.op = 31 ∨ (3 ≤ i.op ∧ i.op ≤ 10)) : encI i = sumE i := by
  unfold encI; rw [(isSums_iff i.op).2 h]; rfl
theorem nsum {i : Ins} (h : ¬(i.op = 1 ∨ i.op = 11 ∨ i.op = 31 ∨ (3 ≤ i.op ∧ i.op ≤ 10))) : isSums i.op = false := by
  cases hh : isSums i.op with
  | false => rfl
  | true => exact absurd ((isSums_iff i.op).1 hh) h
theorem nsh {i : Ins} (h : ¬(17 ≤ i.op ∧ i.op ≤ 19)) : isSh i.op = false := by
  cases hh : isSh i.op with
  | false => rfl
  | true => exact absurd ((isSh_iff i.op).1 hh) h
theorem enc_sh {i : Ins} (h : 17 ≤ i.op ∧ i.op ≤ 19) : encI i = shE i := by
  unfold encI; rw [nsum (by omega), (isSh_iff i.op).2 h]; rfl
theorem enc_st {i : Ins} (h : i.op = 20 ∨ i.op = 21) : encI i = stE i := by
  unfold encI; rw [nsum (by omega), nsh (by omega), show (i.op == 20 || i.op == 21) = true by simp [h]]; rfl
theorem enc_j {i : Ins} (h : i.op = 22 ∨ i.op = 23 ∨ i.op = 24) : encI i = jE i := by
  unfold encI; rw [nsum (by omega), nsh (by omega), show (i.op == 20 || i.op == 21) = false by simp; omega, show (i.op == 22 || i.op == 23 || i.op == 24) = true by simp [or_assoc, h]]; rfl
theorem enc_ot {i : Ins} (h0 : ¬(i.op = 1 ∨ i.op = 11 ∨ i.op = 31 ∨ (3 ≤ i.op ∧ i.op ≤ 10))) (h1 : ¬(17 ≤ i.op ∧ i.op ≤ 19)) (h2 : ¬(i.op = 20 ∨ i.op = 21)) (h3 : ¬(i.op = 22 ∨ i.op = 23 ∨ i.op = 24)) : encI i = otE i := by
  unfold encI; rw [nsum h0, nsh h1, show (i.op == 20 || i.op == 21) = false by simp; omega, show (i.op == 22 || i.op == 23 || i.op == 24) = false by simp; omega]; rfl
theorem rmO_ok {o : Opd} (h : RmO o) : rmOk o := h.elim rmOk_reg rmOk_mem
theorem isR_reg {o : Opd} (h : RegO o) : isR o = true := by unfold isR; rw [h.kind]; rfl
theorem isR_mem {o : Opd} (h : MemO o) : isR o = false := by unfold isR; rw [h.kind]; rfl
theorem isR_imm {o : Opd} (h : ImmO o) : isR o = false := by unfold isR; rw [h.kind]; rfl
theorem isR_tgt {o : Opd} (h : TgtO o) : isR o = false := by unfold isR; rw [h.kind]; rfl
theorem isI_reg {o : Opd} (h : RegO o) : isI o = false := by unfold isI; rw [h.kind]; rfl
theorem isI_mem {o : Opd} (h : MemO o) : isI o = false := by unfold isI; rw [h.kind]; rfl
theorem isI_imm {o : Opd} (h : ImmO o) : isI o = true := by unfold isI; rw [h.kind]; rfl
theorem isM_imm {o : Opd} (h : ImmO o) : isM o = false := by unfold isM; rw [h.kind]; rfl
theorem isM_mem {o : Opd} (h : MemO o) : isM o = true := by unfold isM; rw [h.kind]; rfl
theorem isM_reg {o : Opd} (h : RegO o) : isM o = false := by unfold isM; rw [h.kind]; rfl
theorem isT_rm {o : Opd} (h : RmO o) : isT o = false := by
  unfold isT; rcases h with h | h <;> rw [h.kind] <;> rfl
theorem isT_tgt {o : Opd} (h : TgtO o) : isT o = true := by unfold isT; rw [h.kind]; rfl

theorem form_sum {i : Ins} (f : Form i) (h : i.op = 1 ∨ i.op = 11 ∨ i.op = 31 ∨ (3 ≤ i.op ∧ i.op ≤ 10)) : sumOk i := by
  cases f with
  | rr op sz sz2 cd sh to src => exact ⟨h, sz, by rw [isI_reg src, isR_reg src]; exact ⟨src.r0, src.r1, rmO_ok to⟩⟩
  | rm op sz cd sh to src => exact ⟨h, sz, by rw [isI_mem src, isR_mem src]; exact ⟨to.r0, to.r1, rmOk_mem src⟩⟩
  | ri op sz cd sh to src fits => exact ⟨h, sz, by rw [isI_imm src]; exact ⟨by omega, sz, rmO_ok to⟩⟩
  | mi op sz cd sh to src => exact ⟨h, .inr (.inr sz), by rw [isI_imm src]; exact ⟨by omega, .inr (.inr sz), rmOk_reg to⟩⟩
  | _ => omega
theorem form_sh {i : Ins} (f : Form i) (h : 17 ≤ i.op ∧ i.op ≤ 19) : rmOk i.to := by
  cases f with
  | shr op sz cd sh to src r => exact rmO_ok to
  | shi op sz cd sh to src r => exact rmO_ok to
  | _ => omega
theorem form_st {i : Ins} (f : Form i) (h : i.op = 20 ∨ i.op = 21) : stOk i := by
  cases f with
  | push op sz cd sh to src => exact .inl ⟨op, fun _ => rmO_ok src⟩
  | pushi op sz cd sh to src w => exact .inl ⟨op, fun h => by rw [isR_imm src, isM_imm src] at h; cases h with | inl h => cases h | inr h => cases h⟩
  | pop op sz cd sh to src => exact .inr ⟨op, rmO_ok to⟩
  | _ => omega
theorem form_j {i : Ins} (f : Form i) (h : i.op = 22 ∨ i.op = 23 ∨ i.op = 24) : jOk i := by
  cases f with
  | jt op sz c0 c1 cd sh to src => exact ⟨c0, c1, fun h => by rw [isT_tgt to] at h; cases h⟩
  | jm op sz cd sh to src => exact ⟨by omega, by omega, fun _ => ⟨op, rmO_ok to⟩⟩
  | _ => omega
theorem form_ot {i : Ins} (f : Form i) (h0 : ¬(i.op = 1 ∨ i.op = 11 ∨ i.op = 31 ∨ (3 ≤ i.op ∧ i.op ≤ 10))) (h1 : ¬(17 ≤ i.op ∧ i.op ≤ 19)) (h2 : ¬(i.op = 20 ∨ i.op = 21)) (h3 : ¬(i.op = 22 ∨ i.op = 23 ∨ i.op = 24)) : otOk i ∧ EncOk (otE i) := by
  cases f with
  | lea op sz cd sh to src fs =>
    refine ⟨⟨by omega, by omega, fun _ => ⟨to.r0, to.r1, rmOk_mem src⟩, fun h => by omega⟩, ?_⟩
    unfold otE; rw [op]
    exact ok_reg _ _ _ _ (by simp) (by simp)
  | ld op sz c0 c1 cd sh to src =>
    refine ⟨⟨by omega, by omega, fun _ => ⟨to.r0, to.r1, rmO_ok src⟩, fun h => by omega⟩, ?_⟩
    unfold otE
    rcases op with op | op | op | op <;> rw [op] <;> exact ok_reg _ _ _ _ (by simp) (by simp)
  | one op sz cd sh to src =>
    refine ⟨⟨by omega, by omega, fun h => by omega, fun _ => rmO_ok to⟩, ?_⟩
    have : i.op = 13 ∨ i.op = 14 ∨ i.op = 15 ∨ i.op = 16 := by omega
    unfold otE
    rcases this with op | op | op | op <;> rw [op] <;> exact ok_grp _ _ _ _ _ (by simp)
  | set op sz c0 c1 sh to src =>
    refine ⟨⟨by omega, by omega, fun h => by omega, fun _ => rmO_ok to⟩, ?_⟩
    unfold otE; rw [op]
    exact ok_rm _ _ _ (by simp) (by simp)
  | bare op sz cd sh to src =>
    refine ⟨⟨by omega, by omega, fun h => by omega, fun h => by omega⟩, ?_⟩
    have : i.op = 25 ∨ i.op = 26 ∨ i.op = 32 ∨ i.op = 33 ∨ i.op = 34 ∨ i.op = 35 := by omega
    unfold otE
    rcases this with op | op | op | op | op | op <;> rw [op] <;> exact ok_p ⟨by decide, by decide⟩ (by simp) (by simp) (by simp) no_holes
  | _ => omega

theorem rowsB_app (a b : List Int) : rowsB (a ++ b) = rowsB a ++ rowsB b := List.map_append
theorem rowsH_len (a : List Hol) : (rowsH a).length = a.length := List.length_map _
theorem rows_bytes (e : Enc) : rowsB e.pre ++ rowsB (rexL e.rex e.force) ++ rowsB e.op ++ rowsB e.tail ++ rowsB e.number = rowsB e.bytes := by
  unfold Enc.bytes Enc.front; simp only [rowsB_app]
theorem rows_hols (e : Enc) : movRs e.inTail (finAt e.inTail (rowsB e.pre ++ rowsB (rexL e.rex e.force) ++ rowsB e.op).length (rowsB e.pre ++ rowsB (rexL e.rex e.force) ++ rowsB e.op ++ rowsB e.tail).length) ((rowsB e.pre ++ rowsB (rexL e.rex e.force) ++ rowsB e.op ++ rowsB e.tail ++ rowsB e.number).length : Int) 0 (rowsH e.holes) = rowsH e.hols := by
  rw [rows_bytes]
  unfold movRs Enc.hols Enc.at_ Enc.front
  simp only [← rowsB_app, rowsB_len]
  simp only [rowsH, List.take_zero, List.nil_append, List.drop_zero, List.map_map]
  rfl
/-- The end of each way of writing. -/
theorem bytes_fin {e : Enc} (ok : EncOk e) {A B : Prop} {C : Bool} (hC : C = true) (hA : A) (e' : Enc) (he : e' = e) :
    let x7 := rowsB e.pre
    let x9 := rowsB e.op
    let x11 := rowsB e.tail
    let x13 := rowsB e.number
    let x15 := rowsH e.holes
    let x18 := x7 ++ rowsB (rexL e.rex e.force) ++ x9
    let x19 := x18 ++ x11
    let x20 := x19 ++ x13
    let x23 := movRs e.inTail (finAt e.inTail x18.length x19.length) (↑x20.length : Int) 0 x15
    (True ∧ A) ∧ ((((((True ∧ x7.length = x7.length) ∧ x9.length = x9.length) ∧ x11.length = x11.length) ∧ x13.length = x13.length) ∧ x15.length = x15.length) ∧ (0 : Int) ≤ e.rex ∧ e.rex ≤ (15 : Int) ∧ x7.length ≤ 10 ∧ x9.length ≤ 10 ∧ x11.length ≤ 10 ∧ x13.length ≤ 10 ∧ ∃ l, x15 = rowsH l ∧ l.length ≤ 1 ∧ ∀ (h : Hol), h ∈ l → (0 : Int) ≤ h.at_ ∧ h.at_ ≤ (100 : Int)) ∧ True ∧
    (C = true → Ex.ret = Ex.ret ∧ true = true ∧ (True ∧ x20.length = x20.length ∧ x20 = rowsB e'.bytes) ∧ x15.length = x23.length ∧ x23 = rowsH e'.hols) ∧ (C = false → Ex.ret = Ex.ret ∧ true = true ∧ B) := by
  intro x7 x9 x11 x13 x15 x18 x19 x20 x23
  subst he
  have h1 : x20 = rowsB e'.bytes := rows_bytes e'
  have h2 : x23 = rowsH e'.hols := rows_hols e'
  refine ⟨⟨trivial, hA⟩, ⟨⟨⟨⟨⟨⟨trivial, rfl⟩, rfl⟩, rfl⟩, rfl⟩, rfl⟩, ok.r0, ok.r1, ?_, ?_, ?_, ?_, e'.holes, rfl, ok.h1, ok.hat⟩, trivial, fun _ => ⟨rfl, rfl, ⟨trivial, rfl, h1⟩, ?_, h2⟩, fun h => by rw [hC] at h; cases h⟩
  · show (rowsB _).length ≤ 10; rw [rowsB_len]; have := ok.pre; omega
  · show (rowsB _).length ≤ 10; rw [rowsB_len]; have := ok.op1; omega
  · show (rowsB _).length ≤ 10; rw [rowsB_len]; have := ok.tail; omega
  · show (rowsB _).length ≤ 10; rw [rowsB_len]; have := ok.number; omega
  · rw [h2]; show (rowsH _).length = _; rw [rowsH_len, rowsH_len]; unfold Enc.hols; rw [List.length_map]

set_option maxHeartbeats 4000000 in
theorem good_bytes : Lib.Good Tryz.prog Lbytes := lib_con good_chk Tryz.func4 cBytes 3000 fun σ α _ => by
  rw [bytes_goal]
  intro x0 x1 x2 x3 x4 x5 x6 x7 x8 x9 x10 x11 x12 x13 x14 x15 x16 x17 x18 x19 x20 x21 x22 x23 x24 x25 x26 x27 x28 x29 x30 x31 x32 x33 x34 x35 x36 x37 x38 x39 x40 x41 x42 x43 x44 x45 x46 x47 x48 x49 x50 x51 x52 x53 x54 x55 x56 x57 x58 x59 x60 x61 x62 x63 x64 x65 x66 x67 x68 x69 x70 x71 x72 x73 x74 x75 x76 x77 x78 x79 x80 x81 x82 x83 x84 x85 x86 x87 x88 x89 x90 x91 x92 x93 x94 x95 x96 x97 x98 x99 x100 x101 x102 x103 x104 x105 x106 x107 x108 x109 x110 x111 x112
  have e0 : ins σ 0 = x0 := rfl
  refine ⟨⟨trivial, trivial⟩, fun h2 => ?_, fun h2 => ?_⟩
  · have hc : chkB x0 = false := by
      cases h : chkB x0 with
      | false => rfl
      | true => have : ((bif chkB x0 then (0 : Int) else 30) != 0) = true := h2; rw [h] at this; cases this
    have h1 : x1 = 30 := by show (bif chkB x0 then (0 : Int) else 30) = 30; rw [hc]; rfl
    refine ⟨trivial, fun h => absurd (show chkB x0 = true from h) (by rw [hc]; decide), fun _ => ⟨rfl, rfl, trivial, by rw [h1]⟩⟩
  · have hc : chkB x0 = true := by
      cases h : chkB x0 with
      | true => rfl
      | false => have : ((bif chkB x0 then (0 : Int) else 30) != 0) = false := h2; rw [h] at this; cases this
    have f := chk_form hc
    have eop : x0.op = σ.I 0 := rfl
    refine ⟨fun c1 => ?_, fun c1 => ⟨fun c2 => ?_, fun c2 => ⟨fun c3 => ?_, fun c3 => ⟨fun c4 => ?_, fun c4 => ⟨fun c5 => ?_, fun c5 => ?_⟩⟩⟩⟩⟩
    · have hs : x0.op = 1 ∨ x0.op = 11 ∨ x0.op = 31 := by
        have : (bif σ.I 0 == 1 then σ.I 0 == 1 else bif σ.I 0 == 11 then σ.I 0 == 11 else σ.I 0 == 31) = true := c1
        rw [eop]; revert this; cases h1 : σ.I 0 == 1 <;> cases h2 : σ.I 0 == 11 <;> simp_all
      have hs' : x0.op = 1 ∨ x0.op = 11 ∨ x0.op = 31 ∨ (3 ≤ x0.op ∧ x0.op ≤ 10) := by omega
      exact bytes_fin (ok_sum x0) hc (form_sum f hs') (encI x0) (enc_sum hs')
    · have hs : 3 ≤ x0.op ∧ x0.op ≤ 10 := by
        have : (bif σ.I 0 == 3 then σ.I 0 == 3 else bif σ.I 0 == 4 then σ.I 0 == 4 else bif σ.I 0 == 5 then σ.I 0 == 5 else bif σ.I 0 == 6 then σ.I 0 == 6 else bif σ.I 0 == 7 then σ.I 0 == 7 else bif σ.I 0 == 8 then σ.I 0 == 8 else bif σ.I 0 == 9 then σ.I 0 == 9 else σ.I 0 == 10) = true := c2
        rw [eop]; generalize σ.I 0 = k at this
        simp only [bif_or, Bool.or_eq_true, beq_iff_eq] at this
        omega
      have hs' : x0.op = 1 ∨ x0.op = 11 ∨ x0.op = 31 ∨ (3 ≤ x0.op ∧ x0.op ≤ 10) := by omega
      exact bytes_fin (ok_sum x0) hc (form_sum f hs') (encI x0) (enc_sum hs')
    · have hs : 17 ≤ x0.op ∧ x0.op ≤ 19 := by
        have : (bif σ.I 0 == 17 then σ.I 0 == 17 else bif σ.I 0 == 18 then σ.I 0 == 18 else σ.I 0 == 19) = true := c3
        rw [eop]; generalize σ.I 0 = k at this
        simp only [bif_or, Bool.or_eq_true, beq_iff_eq] at this
        omega
      exact bytes_fin (ok_sh x0) hc ⟨hs.1, hs.2, form_sh f hs⟩ (encI x0) (enc_sh hs)
    · have hs : x0.op = 20 ∨ x0.op = 21 := by
        have : (bif σ.I 0 == 20 then σ.I 0 == 20 else σ.I 0 == 21) = true := c4
        rw [eop]; generalize σ.I 0 = k at this
        simp only [bif_or, Bool.or_eq_true, beq_iff_eq] at this
        omega
      exact bytes_fin (ok_st x0) hc (form_st f hs) (encI x0) (enc_st hs)
    · have hs : x0.op = 22 ∨ x0.op = 23 ∨ x0.op = 24 := by
        have : (bif σ.I 0 == 22 then σ.I 0 == 22 else bif σ.I 0 == 23 then σ.I 0 == 23 else σ.I 0 == 24) = true := c5
        rw [eop]; generalize σ.I 0 = k at this
        simp only [bif_or, Bool.or_eq_true, beq_iff_eq] at this
        omega
      exact bytes_fin (ok_j x0) hc (form_j f hs) (encI x0) (enc_j hs)
    · have a1 : (bif σ.I 0 == 1 then σ.I 0 == 1 else bif σ.I 0 == 11 then σ.I 0 == 11 else σ.I 0 == 31) = false := c1
      have a2 : (bif σ.I 0 == 3 then σ.I 0 == 3 else bif σ.I 0 == 4 then σ.I 0 == 4 else bif σ.I 0 == 5 then σ.I 0 == 5 else bif σ.I 0 == 6 then σ.I 0 == 6 else bif σ.I 0 == 7 then σ.I 0 == 7 else bif σ.I 0 == 8 then σ.I 0 == 8 else bif σ.I 0 == 9 then σ.I 0 == 9 else σ.I 0 == 10) = false := c2
      have a3 : (bif σ.I 0 == 17 then σ.I 0 == 17 else bif σ.I 0 == 18 then σ.I 0 == 18 else σ.I 0 == 19) = false := c3
      have a4 : (bif σ.I 0 == 20 then σ.I 0 == 20 else σ.I 0 == 21) = false := c4
      have a5 : (bif σ.I 0 == 22 then σ.I 0 == 22 else bif σ.I 0 == 23 then σ.I 0 == 23 else σ.I 0 == 24) = false := c5
      simp only [bif_or, Bool.or_eq_false_iff, beq_eq_false_iff_ne] at a1 a2 a3 a4 a5
      have b1 : ¬(x0.op = 1 ∨ x0.op = 11 ∨ x0.op = 31 ∨ (3 ≤ x0.op ∧ x0.op ≤ 10)) := by rw [eop]; omega
      have b2 : ¬(17 ≤ x0.op ∧ x0.op ≤ 19) := by rw [eop]; omega
      have b3 : ¬(x0.op = 20 ∨ x0.op = 21) := by rw [eop]; omega
      have b4 : ¬(x0.op = 22 ∨ x0.op = 23 ∨ x0.op = 24) := by rw [eop]; omega
      have fo := form_ot f b1 b2 b3 b4
      exact bytes_fin fo.2 hc fo.1 (encI x0) (enc_ot b1 b2 b3 b4)
end Go.Proofs.YthmighgfefjcmaaGreat.Enc
end

section
/- What every statement of the layer asks at its end: shown once. No condition. -/
set_option maxRecDepth 100000
namespace Go.Proofs.YthmighgfefjcmaaGreat.Enc
open Go.RowKit Go.Proofs.YthmighgfefjcmaaGreat.X

theorem live_run : (run Tryz.prog (Lstr.mk' fun _ _ _ _ => False) 3000 Tryz.f9 []).resM Tryz.prog Tryz.f9 = some (.bool true) := by kernel_rfl
def liveS : List Value → Option Value
  | [] => some (.bool true)
  | _ => none
noncomputable def Llive : Lib := { Lbytes with fs := (9, liveS) :: Lbytes.fs }
theorem good_live : Lib.Good Tryz.prog Llive := lib_fs good_bytes fun vs z hz w => by
  unfold liveS at hz
  split at hz
  · simp only [Option.some.injEq] at hz
    subst hz
    exact calls_of_run (good_str _) (fun _ _ _ _ h => h) Tryz.func9 3000 [] [] rfl rfl (.bool true) live_run w
  · cases hz
end Go.Proofs.YthmighgfefjcmaaGreat.Enc
end

section
/- The document's layer 3: contracts. No condition. -/
namespace Go.Proofs.YthmighgfefjcmaaGreat.Enc
open Go.RowKit Go.Proofs.YthmighgfefjcmaaGreat.X

def big : Nat := 9223372036854775807
def cRn : Con where
  ps := [.s 0, .i .i64 2]
  bl := []
  top := 0
  pre := fun σ => 0 ≤ σ.I 2 ∧ σ.I 2 ≤ (σ.S 0).size ∧ (σ.S 0).size ≤ big
  post := fun σ => .ite (restOk (σ.S 0) (σ.I 2)) (.leaf (.exit 0) [(0, .gs (σ.S 0))] [] []) (.leaf .ret [(0, .gs (σ.S 0)), (2, .gb false)] [] [])
noncomputable def bRn : Code := loopAt Tryz.prog 2 "ref.go:19"
noncomputable def lRn : LCon := { c := cRn, sl := [0, 3], nt := Tryz.f107.ntmps, hv := nubN (writes bRn) [], meas := fun σ => ((σ.S 0).size - σ.I 2).toNat }
noncomputable def Lrn : Lib := { Llive with ls := (2, "ref.go:19", lRn) :: Llive.ls }
def cRname : Con where
  ps := [.s 0]
  bl := []
  top := 0
  pre := fun σ => (σ.S 0).size ≤ big
  post := fun σ => .leaf .ret [(0, .gb (nameOk (σ.S 0)))] [] []
noncomputable def Lrname : Lib := { Lrn with cs := (107, cRname) :: Lrn.cs }
def cOr (f : Opd → Bool) : Con where
  ps := [.a (opdP 0)]
  bl := []
  top := 0
  pre := fun σ => (σ.S 8).size ≤ big
  post := fun σ => .leaf .ret [(0, .gb (f (opd σ 0)))] [] []
noncomputable def Lrreg : Lib := { Lrname with cs := (83, cOr regB) :: Lrname.cs }
noncomputable def Lrimm : Lib := { Lrreg with cs := (84, cOr immB) :: Lrreg.cs }
noncomputable def Lrnone : Lib := { Lrimm with cs := (87, cOr noneB) :: Lrimm.cs }
noncomputable def Lrmem : Lib := { Lrnone with cs := (85, cOr memB) :: Lrnone.cs }
noncomputable def Lrtgt : Lib := { Lrmem with cs := (101, cOr tgtB) :: Lrmem.cs }
def cRchk : Con where
  ps := [.a (instP 0)]
  bl := []
  top := 0
  pre := fun σ => (σ.S 11).size ≤ big ∧ (σ.S 21).size ≤ big
  post := fun σ => .leaf .ret [(0, .gi .i64 (bif chkB (ins σ 0) then 0 else 30))] [] []
noncomputable def Lrchk : Lib := { Lrtgt with cs := (17, cRchk) :: Lrtgt.cs }
end Go.Proofs.YthmighgfefjcmaaGreat.Enc
end

section
/- The document's layer 4: how an instruction is written: the spec, and contracts. No condition. -/
namespace Go.Proofs.YthmighgfefjcmaaGreat.Enc
open Go.RowKit Go.Proofs.YthmighgfefjcmaaGreat.X

/-- A row of the document's table. -/
structure RowS where
  code : List Int
  wide : Bool
  plus : Int
  reg : Int
  hasRm : Bool
  rm : Opd
  num : Int
  n : Int
  name : Opd
def opdV (o : Opd) : List Pt := [.gi .i64 o.kind, .gi .i64 o.r, .gi .i64 o.base, .gi .i64 o.index, .gi .i64 o.scale, .gb o.rip, .gb o.fs, .gi .i64 o.n, .gs o.name, .gi .i64 o.mod]
def rowV' (j : Nat) (r : RowS) : List Pt := [.gr j 5 byteK (rowsB r.code), .gb r.wide, .gi .i64 r.plus, .gi .i64 r.reg, .gb r.hasRm] ++ opdV r.rm ++ [.gi .i64 r.num, .gi .i64 r.n] ++ opdV r.name
def twoR (size a b : Int) : List Int := [bif size == 1 then a else b]
def numR (size : Int) : Int := bif size == 1 then 1 else 4
def modrmR (code : List Int) (wide : Bool) (reg : Int) (rm : Opd) : RowS := ⟨code, wide, -1, reg, true, rm, 0, 0, noO⟩
def plainR (code : List Int) : RowS := ⟨code, false, -1, 0, false, noO, 0, 0, noO⟩
def plusR (code : Int) (wide : Bool) (r : Int) : RowS := ⟨[code], wide, r, 0, false, noO, 0, 0, noO⟩
def movR (i : Ins) : RowS :=
  let w := i.size == 8
  bif isR i.src then modrmR (twoR i.size 136 137) w i.src.r i.to
  else bif isM i.src then modrmR (twoR i.size 138 139) w i.to.r i.src
  else bif (bif isR i.to then !w else false) then { plusR (bif i.size == 1 then 176 else 184) false i.to.r with num := numR i.size, n := i.src.n }
  else bif (bif isR i.to then !fits32 i.src.n else false) then { plusR 184 true i.to.r with num := 8, n := i.src.n }
  else { modrmR (twoR i.size 198 199) w 0 i.to with num := numR i.size, n := i.src.n }
def grpN (i : Ins) : Int := bif i.size == 4 then IntKind.i64.wrap (IntKind.i32.wrap (IntKind.u32.wrap i.src.n)) else i.src.n
def groupR (i : Ins) : RowS :=
  let w := i.size == 8
  let k := i.op - 3
  bif isR i.src then modrmR (twoR i.size (8 * k) (8 * k + 1)) w i.src.r i.to
  else bif isM i.src then modrmR (twoR i.size (8 * k + 2) (8 * k + 3)) w i.to.r i.src
  else bif (bif i.size != 1 then byteN (grpN i) else false) then { modrmR [131] w k i.to with num := 1, n := grpN i }
  else { modrmR (twoR i.size 128 129) w k i.to with num := numR i.size, n := grpN i }
def jumpR (i : Ins) (near : List Int) (short digit : Int) : RowS :=
  bif !isT i.to then modrmR [255] false digit i.to
  else bif i.short then { plainR [short] with num := 1, n := i.to.n, name := i.to }
  else { plainR near with num := 4, n := i.to.n, name := i.to }
def pushR (i : Ins) : RowS :=
  bif isR i.src then plusR 80 false i.src.r
  else bif isM i.src then modrmR [255] false 6 i.src
  else bif byteN i.src.n then { plainR [106] with num := 1, n := i.src.n }
  else { plainR [104] with num := 4, n := i.src.n }
def shiftR (i : Ins) (digit : Int) : RowS :=
  bif isR i.src then modrmR (twoR i.size 210 211) (i.size == 8) digit i.to
  else { modrmR (twoR i.size 192 193) (i.size == 8) digit i.to with num := 1, n := i.src.n }
def testR (i : Ins) : RowS :=
  bif isR i.src then modrmR (twoR i.size 132 133) (i.size == 8) i.src.r i.to
  else { modrmR (twoR i.size 246 247) (i.size == 8) 0 i.to with num := numR i.size, n := i.src.n }
def popR (i : Ins) : RowS := bif isR i.to then plusR 88 false i.to.r else modrmR [143] false 0 i.to
def moreR (i : Ins) : RowS :=
  let w := i.size == 8
  bif i.op == 20 then pushR i
  else bif i.op == 21 then popR i
  else bif i.op == 22 then jumpR i [232] 0 2
  else bif i.op == 23 then jumpR i [233] 235 4
  else bif i.op == 24 then jumpR i [15, 128 + i.cond] (112 + i.cond) 0
  else bif i.op == 27 then modrmR [15, 144 + i.cond] false 0 i.to
  else bif i.op == 28 then modrmR [15, 64 + i.cond] w i.to.r i.src
  else bif i.op == 29 then modrmR [15, 182] w i.to.r i.src
  else bif i.op == 30 then modrmR [15, 190] w i.to.r i.src
  else bif i.op == 31 then modrmR [135] w i.src.r i.to
  else bif i.op == 25 then plainR [195]
  else bif i.op == 26 then plainR [201]
  else bif i.op == 32 then plainR [72, 153]
  else bif i.op == 33 then plainR [144]
  else plainR [15, bif i.op == 34 then 11 else 5]
def isGrp (op : Int) : Bool := bif op == 3 then op == 3 else bif op == 4 then op == 4 else bif op == 5 then op == 5 else bif op == 6 then op == 6 else bif op == 7 then op == 7 else bif op == 8 then op == 8 else bif op == 9 then op == 9 else op == 10
def oneR (i : Ins) (a b k : Int) : RowS := modrmR (twoR i.size a b) (i.size == 8) k i.to
def rowR (i : Ins) : RowS :=
  bif i.op == 1 then movR i
  else bif i.op == 2 then modrmR [141] (i.size == 8) i.to.r i.src
  else bif isGrp i.op then groupR i
  else bif i.op == 11 then testR i
  else bif i.op == 12 then modrmR [15, 175] (i.size == 8) i.to.r i.src
  else bif i.op == 14 then oneR i 246 247 2
  else bif i.op == 13 then oneR i 246 247 3
  else bif i.op == 15 then oneR i 254 255 0
  else bif i.op == 16 then oneR i 254 255 1
  else bif i.op == 17 then shiftR i 4
  else bif i.op == 18 then shiftR i 5
  else bif i.op == 19 then shiftR i 7
  else moreR i
def cI (pre : Dt → Prop) (f : Ins → RowS) : Con where
  ps := [.a (instP 0)]
  bl := []
  top := 0
  pre := pre
  post := fun σ => .leaf .ret [(0, .a (rowV' 0 (f (ins σ 0))))] [] []
def cond16 (σ : Dt) : Prop := 0 ≤ σ.I 2 ∧ σ.I 2 ≤ 15
def cMov : Con := cI (fun _ => True) movR
def cGroupR : Con := cI (fun σ => 3 ≤ σ.I 0 ∧ σ.I 0 ≤ 10) groupR
def cPushR : Con := cI (fun _ => True) pushR
def cMore : Con := cI cond16 moreR
def cRow : Con := cI cond16 rowR
noncomputable def Lrmov : Lib := { Lrchk with cs := (43, cMov) :: Lrchk.cs }
noncomputable def Lrgrp : Lib := { Lrmov with cs := (45, cGroupR) :: Lrmov.cs }
noncomputable def Lrpush : Lib := { Lrgrp with cs := (92, cPushR) :: Lrgrp.cs }
noncomputable def Lrmore : Lib := { Lrpush with cs := (49, cMore) :: Lrpush.cs }
noncomputable def Lrrow : Lib := { Lrmore with cs := (18, cRow) :: Lrmore.cs }
end Go.Proofs.YthmighgfefjcmaaGreat.Enc
end

section
/- The document's layer 4: operands, numbers, all bytes: contracts. No condition. -/
namespace Go.Proofs.YthmighgfefjcmaaGreat.Enc
open Go.RowKit Go.Proofs.YthmighgfefjcmaaGreat.X

def cLowL : Con where
  ps := [.r 0 5 byteK, .i .u64 4, .i .i64 5, .i .i64 6]
  bl := []
  top := 4
  pre := fun σ => 0 ≤ σ.I 4 ∧ σ.I 4 < 18446744073709551616 ∧ 0 ≤ σ.I 5 ∧ σ.I 5 ≤ σ.I 6 ∧ σ.I 6 ≤ 8 ∧ (σ.R 0).length = (σ.I 5).toNat
  post := fun σ => .leaf (.exit 0) [(5, .gr 4 5 byteK (σ.R 0 ++ rowsB (leL (σ.I 4) (σ.I 6 - σ.I 5).toNat))), (1, .gi .i64 (σ.I 6))] [] [0]
noncomputable def bLowL : Code := loopAt Tryz.prog 4 "ref.go:274"
noncomputable def lLowL : LCon := { c := cLowL, sl := [5, 6, 7, 1], nt := Tryz.f21.ntmps, hv := nubN (writes bLowL) [], meas := fun σ => (σ.I 6 - σ.I 5).toNat, mvr := [0] }
noncomputable def LrlowL : Lib := { Lrrow with ls := (4, "ref.go:274", lLowL) :: Lrrow.ls }
def cLowR : Con where
  ps := [.i .i64 0, .i .i64 1]
  bl := []
  top := 0
  pre := fun σ => 0 ≤ σ.I 1 ∧ σ.I 1 ≤ 8
  post := fun σ => .leaf .ret [(0, .gr 0 5 byteK (rowsB (leL (σ.I 0) (σ.I 1).toNat)))] [] []
noncomputable def Lrlow : Lib := { LrlowL with cs := (21, cLowR) :: LrlowL.cs }
def cOperand : Con where
  ps := [.i .i64 0, .a (opdP 1)]
  bl := []
  top := 0
  pre := fun σ => 0 ≤ σ.I 0 ∧ σ.I 0 ≤ 15 ∧ rmOk (opd σ 1)
  post := fun σ => .leaf .ret [(0, .t [.gr 0 5 byteK (rowsB (rmHead (σ.I 0 % 8) (opd σ 1))), .gi .i64 (rmSize (opd σ 1))])] [] []
noncomputable def Lroper : Lib := { Lrlow with cs := (20, cOperand) :: Lrlow.cs }
end Go.Proofs.YthmighgfefjcmaaGreat.Enc
end

section
/- The document's layer 4: REX, holes, all bytes: the spec, and contracts. No condition. -/
namespace Go.Proofs.YthmighgfefjcmaaGreat.Enc
open Go.RowKit Go.Proofs.YthmighgfefjcmaaGreat.X

def smallReg (o : Opd) : Bool := bif o.kind == 1 then bif decide (o.r ≥ 4) then decide (o.r ≤ 7) else false else false
def smallR (i : Ins) : Bool :=
  let to := bif i.size == 1 then smallReg i.to else false
  let src := smallReg i.src
  bif isSh i.op then to else bif i.op == 29 || i.op == 30 then src else to || (src && i.size == 1)
def rexRow (r : RowS) : Int :=
  64 + (bif r.wide then 8 else 0) + (bif r.hasRm && decide (r.reg ≥ 8) then 4 else 0) + (bif r.hasRm && (r.rm.kind == 3 && decide (r.rm.index ≥ 8)) then 2 else 0) +
    (bif decide (r.plus ≥ 8) || (r.hasRm && ((r.rm.kind == 1 && decide (r.rm.r ≥ 8)) || (r.rm.kind == 3 && decide (r.rm.base ≥ 8)))) then 1 else 0)
def rexB (i : Ins) (r : RowS) : Int := bif rexRow r == 64 && !smallR i then 0 else rexRow r
/-- A row's pattern, its code's bytes at key j. -/
def rowP (j n : Nat) : List Pt := [.r j 5 byteK, .b n, .i .i64 (n + 1), .i .i64 (n + 2), .b (n + 3)] ++ opdP (n + 4) ++ [.i .i64 (n + 14), .i .i64 (n + 15)] ++ opdP (n + 16)
def rowOf' (σ : Dt) (n : Nat) (code : List Int) : RowS := ⟨code, σ.B n, σ.I (n + 1), σ.I (n + 2), σ.B (n + 3), opd σ (n + 4), σ.I (n + 14), σ.I (n + 15), opd σ (n + 16)⟩
def cRex : Con where
  ps := [.a (instP 0), .a (rowP 0 30)]
  bl := []
  top := 4
  pre := fun _ => True
  post := fun σ => .leaf .ret [(0, .gi .u8 (rexB (ins σ 0) (rowOf' σ 30 [])))] [] []
noncomputable def Lrex : Lib := { Lroper with cs := (19, cRex) :: Lroper.cs }
def holeR' (o : Opd) (at_ size n : Int) : Hol :=
  bif o.kind == 4 && size == 1 then ⟨at_, size, 0, o.name, -1⟩
  else bif o.kind == 4 then ⟨at_, size, bif o.mod == 1 then 4 else 2, o.name, -4⟩
  else bif o.rip then ⟨at_, size, bif o.mod == 3 then 22 else bif o.mod == 2 then 9 else 2, o.name, IntKind.i64.wrap (o.n - n)⟩
  else ⟨at_, size, bif o.mod == 4 then 23 else 21, o.name, o.n⟩
def cHole : Con where
  ps := [.a (opdP 0), .i .i64 10, .i .i64 11, .i .i64 12]
  bl := []
  top := 0
  pre := fun _ => True
  post := fun σ => let h := holeR' (opd σ 0) (σ.I 10) (σ.I 11) (σ.I 12); .leaf .ret [(0, .a [.gi .i64 h.at_, .gi .i64 h.size, .gi .i64 h.type, .gs h.name, .gi .i64 h.add])] [] []
noncomputable def Lrhole : Lib := { Lrex with cs := (22, cHole) :: Lrex.cs }
end Go.Proofs.YthmighgfefjcmaaGreat.Enc
end

section
/- The document's layer 4: all bytes: the spec, and the contract. No condition. -/
namespace Go.Proofs.YthmighgfefjcmaaGreat.Enc
open Go.RowKit Go.Proofs.YthmighgfefjcmaaGreat.X

/-- The last byte, more. -/
def addLast (l : List Int) (n : Int) : List Int := l.take (l.length - 1) ++ (l.drop (l.length - 1)).map fun b => IntKind.u8.wrap (b + n)
def rHead (i : Ins) (r : RowS) : List Int :=
  let b := (bif i.to.fs || i.src.fs then [100] else []) ++ (bif rexB i r != 0 then [rexB i r] else []) ++ r.code
  bif decide (r.plus ≥ 0) then addLast b (r.plus % 8) else b
def rMod (r : RowS) : List Int := bif r.hasRm then rmHead (r.reg % 8) r.rm ++ leL (bif !anon r.rm then 0 else r.rm.n) (rmSize r.rm) else []
def rNum (r : RowS) : List Int := leL (bif !anon r.name then 0 else r.n) r.num.toNat
def rBytes (i : Ins) (r : RowS) : List Int := rHead i r ++ rMod r ++ rNum r
def rHols (i : Ins) (r : RowS) : List Hol :=
  let n : Int := (rBytes i r).length
  bif !anon r.name then [holeR' r.name (rHead i r ++ rMod r).length r.num (n - (rHead i r ++ rMod r).length)]
  else bif r.hasRm && !anon r.rm then [holeR' r.rm (rHead i r ++ rmHead (r.reg % 8) r.rm).length (rmSize r.rm) (n - (rHead i r ++ rmHead (r.reg % 8) r.rm).length)]
  else []
def rowGood (r : RowS) : Prop := 1 ≤ r.code.length ∧ r.code.length ≤ 4 ∧ (r.hasRm = true → 0 ≤ r.reg ∧ r.reg ≤ 15 ∧ rmOk r.rm) ∧ 0 ≤ r.num ∧ r.num ≤ 8
def cRbytes : Con where
  ps := [.a (instP 0)]
  bl := []
  top := 0
  pre := fun σ => (σ.S 11).size ≤ big ∧ (σ.S 21).size ≤ big ∧ (chkB (ins σ 0) = true → rowGood (rowR (ins σ 0)))
  post := fun σ => .ite (chkB (ins σ 0))
    (.leaf .ret [(0, .t [.gr 0 5 byteK (rowsB (rBytes (ins σ 0) (rowR (ins σ 0)))), .gr 4 54 holeK (rowsH (rHols (ins σ 0) (rowR (ins σ 0)))), .c (.int .i64 0)])] [] [])
    (.leaf .ret [(0, .t [nilP, nilP, .c (.int .i64 30)])] [] [])
noncomputable def Lrbytes : Lib := { Lrhole with cs := (5, cRbytes) :: Lrhole.cs }
end Go.Proofs.YthmighgfefjcmaaGreat.Enc
end

section
/- What an argument of plain parts (numbers, truths, texts, structs of these) is: its cells by their kinds. No condition. -/
namespace Go.Proofs.YthmighgfefjcmaaGreat.X
open Go.RowKit Go.ChangeShapes Go.WideShapes

/-- A cell of a kind, within its bounds. -/
def okC : PK → Value → Prop
  | .int k, v => ∃ n, v = .int k n ∧ (Lit.int k n).wf = true
  | .str, v => ∃ s : ByteArray, v = .string s ∧ s.size ≤ maxLen
  | .bool, v => ∃ b, v = .bool b
def okCells : List PK → List Value → Prop
  | [], [] => True
  | k :: ks, c :: cs => okC k c ∧ okCells ks cs
  | _, _ => False
theorem okCells_len : ∀ {ks : List PK} {cs : List Value}, okCells ks cs → cs.length = ks.length
  | [], [], _ => rfl
  | [], _ :: _, h => h.elim
  | _ :: _, [], h => h.elim
  | _ :: _, _ :: _, h => congrArg (· + 1) (okCells_len h.2)
theorem okCells_app : ∀ {ks ks' : List PK} {cs cs' : List Value}, okCells ks cs → okCells ks' cs' → okCells (ks ++ ks') (cs ++ cs')
  | [], _, [], _, _, h => h
  | [], _, _ :: _, _, h, _ => h.elim
  | _ :: _, _, [], _, h, _ => h.elim
  | _ :: _, _, _ :: _, _, h, h' => ⟨h.1, okCells_app h.2 h'⟩
def flatFs (rec : TypeId → Option (List PK)) (P : Program) : List Field → Nat → Option (List PK)
  | [], _ => some []
  | f :: fs, off => bif Nat.beq f.offset off then (rec f.type).bind fun ks => bif Nat.beq ks.length (P.cellsOf f.type) then (flatFs rec P fs (off + ks.length)).bind fun r => some (ks ++ r) else none else none
/-- The kinds of a plain type's cells. -/
def flat (P : Program) : Nat → TypeId → Option (List PK)
  | 0, _ => none
  | n + 1, t => match P.underlying t with
    | some (.int k) => some [.int k]
    | some .bool => some [.bool]
    | some .string => some [.str]
    | some (.struct fs) => (flatFs (flat P n) P fs.toList 0).bind fun ks => bif Nat.beq ks.length (P.cellsOf t) then some ks else none
    | _ => none

section
variable {H : Type} {enc : TypeId × Value → H} {P : Program} {w : World} {base : Nat} {sp : Nat → Bool} {hd : Bool}
theorem trod_flatFs {rec : TypeId → Option (List PK)} {m : Nat} (ih : ∀ t ks cs x, rec t = some ks → DataW.trod enc P w base sp hd m t cs = some x → okCells ks cs ∧ x.2 = []) {cs : List Value} :
    ∀ (fs : List Field) (off : Nat) (xs : List (DataW H × List MemPlace)) (ks : List PK), flatFs rec P fs off = some ks → xs.length = fs.length →
      (∀ (i : Nat) (f : Field), fs[i]? = some f → DataW.trod enc P w base sp hd m f.type ((cs.drop f.offset).take (P.cellsOf f.type)) = xs[i]?) → okCells ks ((cs.drop off).take ks.length) ∧ xs.flatMap (·.2) = []
  | [], off, [], ks, h, _, _ => by
    simp only [flatFs, Option.some.injEq] at h
    subst h
    exact ⟨by simp [okCells], rfl⟩
  | [], _, _ :: _, _, _, hl, _ => by simp at hl
  | _ :: _, _, [], _, _, hl, _ => by simp at hl
  | f :: fs, off, x :: xs, ks, h, hl, hg => by
    simp only [flatFs] at h
    cases ho : Nat.beq f.offset off with
    | false => rw [ho] at h; cases h
    | true =>
    rw [ho] at h
    simp only [cond_true] at h
    obtain ⟨k1, hk1, h⟩ := Option.bind_eq_some_iff.1 h
    cases hc : Nat.beq k1.length (P.cellsOf f.type) with
    | false => rw [hc] at h; cases h
    | true =>
    rw [hc] at h
    simp only [cond_true] at h
    obtain ⟨k2, hk2, h⟩ := Option.bind_eq_some_iff.1 h
    simp only [Option.some.injEq] at h
    subst h
    have e1 := Nat.eq_of_beq_eq_true ho
    have e2 := Nat.eq_of_beq_eq_true hc
    have g0 := hg 0 f rfl
    rw [e1, ← e2] at g0
    obtain ⟨a1, a2⟩ := ih _ _ _ _ hk1 g0
    obtain ⟨b1, b2⟩ := trod_flatFs ih fs (off + k1.length) xs k2 hk2 (by simpa using hl) fun i f' hf => by
      have := hg (i + 1) f' (by simpa using hf)
      simpa using this
    refine ⟨?_, by simp only [List.flatMap_cons, a2, b2, List.nil_append]⟩
    rw [List.length_append, List.take_add, List.drop_drop]
    exact okCells_app a1 b1
theorem trod_flat : ∀ (n : Nat) (t : TypeId) (ks : List PK) (cs : List Value) (m : Nat) (x : DataW H × List MemPlace), flat P n t = some ks → DataW.trod enc P w base sp hd m t cs = some x → okCells ks cs ∧ x.2 = []
  | 0, _, _, _, _, _, h, _ => by simp [flat] at h
  | n + 1, t, ks, cs, m, x, h, ht => by
    simp only [flat] at h
    split at h
    · rename_i k hu
      simp only [Option.some.injEq] at h
      subst h
      obtain ⟨z, rfl, rfl, hw⟩ := DataW.trod_int hu ht
      exact ⟨⟨⟨z, rfl, hw⟩, trivial⟩, rfl⟩
    · rename_i hu
      simp only [Option.some.injEq] at h
      subst h
      obtain ⟨z, rfl, rfl⟩ := DataW.trod_bool hu ht
      exact ⟨⟨⟨z, rfl⟩, trivial⟩, rfl⟩
    · rename_i hu
      simp only [Option.some.injEq] at h
      subst h
      obtain ⟨z, rfl, rfl, hw⟩ := DataW.trod_string hu ht
      exact ⟨⟨⟨z, rfl, hw⟩, trivial⟩, rfl⟩
    · rename_i fs hu
      obtain ⟨k1, hk1, h⟩ := Option.bind_eq_some_iff.1 h
      cases hc : Nat.beq k1.length (P.cellsOf t) with
      | false => rw [hc] at h; cases h
      | true =>
      rw [hc] at h
      simp only [cond_true, Option.some.injEq] at h
      subst h
      obtain ⟨xs, m', rfl, rfl, hlen, hl, hg⟩ := DataW.trod_struct hu ht
      obtain ⟨a1, a2⟩ := trod_flatFs (fun t ks cs x h1 h2 => trod_flat n t ks cs m' x h1 h2) fs.toList 0 xs k1 hk1 (by simpa using hl) fun i f hf => hg i f (by simpa using hf)
      rw [List.drop_zero, Nat.eq_of_beq_eq_true hc, ← hlen, List.take_length] at a1
      exact ⟨a1, a2⟩
    · cases h
/-- An argument that is a struct of plain parts. -/
theorem open_flat {r : Reach} {b0 : Nat} {t : TypeId} {ks : List PK} {n : Nat} {fs : Array Field} {v : Value} {d : DataW H} {p : List MemPlace} (hu : P.underlying t = some (.struct fs)) (hf : flat P n t = some ks)
    (hv : Value.okWide P w r b0 t v) (h : DataW.Trod enc P w base sp hd t v d p) : ∃ cs : List Value, v = .agg cs.toArray ∧ okCells ks cs ∧ p = [] := by
  obtain ⟨cs, rfl, _⟩ := okWide_struct hu hv
  obtain ⟨fuel, hfu⟩ := h
  obtain ⟨a1, a2⟩ := trod_flat n t ks _ fuel _ hf hfu
  exact ⟨cs.toList, rfl, a1, a2⟩
end

/-- Patterns of cells by their kinds. -/
def patK : List PK → Nat → List Pt
  | [], _ => []
  | .int k :: ks, i => .i k i :: patK ks (i + 1)
  | .str :: ks, i => .s i :: patK ks (i + 1)
  | .bool :: ks, i => .b i :: patK ks (i + 1)
theorem fill_patK (σ : Dt) (α : At') : ∀ (ks : List PK) (i : Nat) (cs : List Value), okCells ks cs → (∀ j, j < cs.length → σ.D (i + j) = cs.getD j undef) → valL (fillL σ α (patK ks i)) = some cs
  | [], _, [], _, _ => rfl
  | [], _, _ :: _, h, _ => h.elim
  | _ :: _, _, [], h, _ => h.elim
  | k :: ks, i, c :: cs, h, hd => by
    have h0 := hd 0 (by simp)
    have ih := fill_patK σ α ks (i + 1) cs h.2 fun j hj => by
      have := hd (j + 1) (by simpa using hj)
      rw [show i + 1 + j = i + (j + 1) by omega]
      simpa using this
    rw [Nat.add_zero, List.getD_cons_zero] at h0
    cases k with
    | int k =>
      obtain ⟨n, rfl, _⟩ := h.1
      show (valL (fillL σ α (patK ks (i + 1)))).bind (fun ags => some (Value.int k (σ.I i) :: ags)) = _
      rw [ih]; unfold Dt.I; rw [h0]; rfl
    | str =>
      obtain ⟨n, rfl, _⟩ := h.1
      show (valL (fillL σ α (patK ks (i + 1)))).bind (fun ags => some (Value.string (σ.S i) :: ags)) = _
      rw [ih]; unfold Dt.S; rw [h0]; rfl
    | bool =>
      obtain ⟨n, rfl⟩ := h.1
      show (valL (fillL σ α (patK ks (i + 1)))).bind (fun ags => some (Value.bool (σ.B i) :: ags)) = _
      rw [ih]; unfold Dt.B; rw [h0]; rfl
theorem refs_patK (σ : Dt) (α : At') : ∀ (ks : List PK) (i : Nat), refsL (fillL σ α (patK ks i)) = []
  | [], _ => rfl
  | .int k :: ks, i => refs_patK σ α ks (i + 1)
  | .str :: ks, i => refs_patK σ α ks (i + 1)
  | .bool :: ks, i => refs_patK σ α ks (i + 1)
/-- A law that hands back true, from what is read of it. -/
theorem calls_true {P : Program} {φ : Specs} (hφ : Good P φ) (hrom : ∀ nn ad ks xs, ¬ φ.rom nn ad ks xs) {g : FuncId} {fn : Func} (hf : P.funcs[g]? = some fn) (n : Nat) (args : List V) (vs : List Value) (hv : valL args = some vs) (hb : refsL args = []) (w : World) {z : Value}
    (h : (run P φ n fn args).sat (hands P fn z)) : Calls P g vs.toArray w fun e w' => e = .returned z ∧ Below w.heap.size w w' := by
  refine calls_of_sat hφ hrom hf n args vs hv hb w _ (T.sat_mono h ?_)
  rintro e s ⟨he, hz⟩
  split at hz
  · rename_i v hv
    subst hz
    obtain ⟨x, hx, hxv⟩ := Option.bind_eq_some_iff.1 hv
    exact ⟨he, x, hx, fun β w' H _ => ⟨by rw [val_den β _ _ hxv], H.below_⟩⟩
  · exact hz.elim

/-- A law's arguments: structs of plain parts (true), single ones (false). -/
abbrev ArgK := Bool × List PK
def argsV (σ : Dt) (α : At') : List ArgK → Nat → List V
  | [], _ => []
  | (b, ks) :: r, i => (bif b then .a (fillL σ α (patK ks i)) else (fillL σ α (patK ks i)).headD .u) :: argsV σ α r (i + ks.length)
def okArgs : List ArgK → List Value → List Value → Prop
  | [], [], [] => True
  | (b, ks) :: r, v :: vs, cs => ∃ c1 c2, cs = c1 ++ c2 ∧ okCells ks c1 ∧ (bif b then v = .agg c1.toArray else c1 = [v]) ∧ okArgs r vs c2
  | _, _, _ => False
theorem okArgs_agg {ks : List PK} {r : List ArgK} {vs c1 c2 : List Value} (h : okCells ks c1) (h' : okArgs r vs c2) : okArgs ((true, ks) :: r) (.agg c1.toArray :: vs) (c1 ++ c2) := ⟨c1, c2, rfl, h, rfl, h'⟩
theorem okArgs_one {k : PK} {r : List ArgK} {v : Value} {vs c2 : List Value} (h : okC k v) (h' : okArgs r vs c2) : okArgs ((false, [k]) :: r) (v :: vs) ([v] ++ c2) := ⟨[v], c2, rfl, ⟨h, trivial⟩, rfl, h'⟩
theorem okArgs_nil : okArgs [] [] [] := trivial
def dtL (cs : List Value) : Dt := ⟨fun n => cs.getD n undef, fun _ => []⟩
def at0 : At' := ⟨fun _ => false, fun _ => ⟨0, 0, none⟩, fun _ => 0⟩
theorem okArgs_cells : ∀ {ags : List ArgK} {vs cs : List Value}, okArgs ags vs cs → okCells (ags.flatMap (·.2)) cs
  | [], [], [], _ => trivial
  | [], [], _ :: _, h => h.elim
  | [], _ :: _, _, h => h.elim
  | _ :: _, [], _, h => h.elim
  | (b, ks) :: r, v :: vs, cs, h => by
    obtain ⟨c1, c2, rfl, h1, _, h3⟩ := h
    exact okCells_app h1 (okArgs_cells h3)
theorem argsV_ok (α : At') (all : List Value) : ∀ (ags : List ArgK) (i : Nat) (vs cs : List Value), okArgs ags vs cs → (∀ j, j < cs.length → (dtL all).D (i + j) = cs.getD j undef) →
    valL (argsV (dtL all) α ags i) = some vs ∧ refsL (argsV (dtL all) α ags i) = []
  | [], _, [], [], _, _ => ⟨rfl, rfl⟩
  | [], _, [], _ :: _, h, _ => h.elim
  | [], _, _ :: _, _, h, _ => h.elim
  | _ :: _, _, [], _, h, _ => h.elim
  | (b, ks) :: r, i, v :: vs, cs, h, hd => by
    obtain ⟨c1, c2, rfl, h1, h2, h3⟩ := h
    have hl := okCells_len h1
    have v1 := fill_patK (dtL all) α ks i c1 h1 fun j hj => by
      rw [hd j (by rw [List.length_append]; omega), List.getD_eq_getElem?_getD, List.getD_eq_getElem?_getD, List.getElem?_append_left hj]
    have r1 := refs_patK (dtL all) α ks i
    obtain ⟨i1, i2⟩ := argsV_ok α all r (i + ks.length) vs c2 h3 fun j hj => by
      have := hd (ks.length + j) (by rw [List.length_append, hl]; omega)
      rw [Nat.add_assoc, this, List.getD_eq_getElem?_getD, List.getD_eq_getElem?_getD, List.getElem?_append_right (by omega), hl, Nat.add_sub_cancel_left]
    cases b with
    | true =>
      simp only [cond_true] at h2
      subst h2
      refine ⟨?_, ?_⟩
      · show (val (.a (fillL _ _ (patK ks i)))).bind (fun x => (valL (argsV _ _ r _)).bind fun y => some (x :: y)) = _
        simp only [val, v1, i1, Option.bind_some]
      · show refs (.a (fillL _ _ (patK ks i))) ++ refsL (argsV _ _ r _) = []
        simp only [refs, r1, i2, List.nil_append]
    | false =>
      simp only [cond_false] at h2
      subst h2
      match ks, hl with
      | [k], _ =>
        generalize hf : fillL (dtL all) α (patK [k] i) = fl at v1 r1
        match fl, v1 with
        | [], v1 => simp [valL] at v1
        | y :: ys, v1 =>
          simp only [valL, Option.bind_eq_some_iff, Option.some.injEq, List.cons.injEq] at v1
          obtain ⟨z, hz, _, _, rfl, rfl⟩ := v1
          have r2 : refs y = [] := by
            simp only [refsL, List.append_eq_nil_iff] at r1
            exact r1.1
          refine ⟨?_, ?_⟩
          · show (val ((fillL (dtL all) α (patK [k] i)).headD .u)).bind (fun x => (valL (argsV _ _ r _)).bind fun y => some (x :: y)) = _
            rw [hf]
            simp only [List.headD_cons, hz, i1, Option.bind_some]
          · show refs ((fillL (dtL all) α (patK [k] i)).headD .u) ++ refsL (argsV _ _ r _) = []
            rw [hf, List.headD_cons, r2, i2]; rfl
/-- What a reader finds of a law: boxed. -/
structure SatB (P : Program) (L : Lib) (n : Nat) (fn : Func) (ags : List V) : Prop where
  sat : (run P (L.mk' fun _ _ _ _ => False) n fn ags).sat (hands P fn (.bool true))
/-- A law that hands back true, for all arguments of plain parts. -/
theorem law_calls {P : Program} {L : Lib} (hL : Lib.Good P L) {g : FuncId} {fn : Func} (hf : P.funcs[g]? = some fn) (n : Nat) (ags : List ArgK)
    (h : ∀ cs, okCells (ags.flatMap (·.2)) cs → SatB P L n fn (argsV (dtL cs) at0 ags 0)) (vs cs : List Value) (hv : okArgs ags vs cs) (w : World) :
    Calls P g vs.toArray w fun e w' => e = .returned (.bool true) ∧ Below w.heap.size w w' := by
  obtain ⟨h1, h2⟩ := argsV_ok at0 cs ags 0 vs cs hv fun j _ => by rw [Nat.zero_add]; rfl
  exact calls_true (hL _) (fun _ _ _ _ h => h) hf n _ vs h1 h2 w (h cs (okArgs_cells hv)).sat
end Go.Proofs.YthmighgfefjcmaaGreat.X
end

section
/- The arguments of the layer's statements. No condition. -/
namespace Go.Proofs.YthmighgfefjcmaaGreat.Enc
open Go.RowKit Go.Proofs.YthmighgfefjcmaaGreat.X
def opdK : List PK := [.int .i64, .int .i64, .int .i64, .int .i64, .int .i64, .bool, .bool, .int .i64, .str, .int .i64]
def instK : List PK := [.int .i64, .int .i64, .int .i64] ++ opdK ++ opdK ++ [.bool]
theorem flatI : flat Tryz.prog 4 25 = some instK := by kernel_rfl
def aPfx : List ArgK := [(true, instK), (true, instK)]
def aHole : List ArgK := [(true, instK), (false, [.str])]
end Go.Proofs.YthmighgfefjcmaaGreat.Enc
end

section
/- EncodeBytes: its loops' contracts. No condition. -/
namespace Go.Proofs.YthmighgfefjcmaaGreat.Enc
open Go.RowKit Go.Proofs.YthmighgfefjcmaaGreat.X

noncomputable def Llv : Lib := { Lrbytes with fs := (9, liveS) :: Lrbytes.fs }
def cHsL : Con where
  ps := [.r 0 54 holeK, .r 4 54 holeK, .i .i64 8]
  bl := []
  top := 8
  pre := fun σ => σ.R 0 = σ.R 4 ∧ 0 ≤ σ.I 8 ∧ σ.I 8 ≤ (σ.R 0).length ∧ (σ.R 0).length ≤ 100
  post := fun σ => .leaf (.exit 0) [(0, .k 0 (σ.R 0).length), (1, .k 4 (σ.R 4).length)] [] []
noncomputable def bHsL : Code := loopAt Tryz.prog 4 "law.go:32"
noncomputable def lHsL : LCon := { c := cHsL, sl := [0, 1, 5], nt := Tryz.f7.ntmps, hv := nubN (writes bHsL) [], meas := fun σ => ((σ.R 0).length - σ.I 8).toNat }
noncomputable def LhsL : Lib := { Llv with ls := (4, "law.go:32", lHsL) :: Llv.ls }
def cHs : Con where
  ps := [.r 0 54 holeK, .r 4 54 holeK]
  bl := []
  top := 8
  pre := fun σ => σ.R 0 = σ.R 4 ∧ (σ.R 0).length ≤ 100
  post := fun _ => .leaf .ret [(0, .c (.bool true))] [] []
noncomputable def Lhs : Lib := { LhsL with cs := (7, cHs) :: LhsL.cs }
def cSev : Con where
  ps := [.r 0 5 byteK, .i .i64 4]
  bl := []
  top := 4
  pre := fun σ => 0 ≤ σ.I 4 ∧ σ.I 4 ≤ (σ.R 0).length ∧ (σ.R 0).length ≤ 100
  post := fun _ => .leaf (.exit 0) [] [] [0]
noncomputable def bSev : Code := loopAt Tryz.prog 7 "law.go:48"
noncomputable def lSev : LCon := { c := cSev, sl := [3, 11], nt := Tryz.f3.ntmps, hv := nubN (writes bSev) [3], meas := fun σ => ((σ.R 0).length - σ.I 4).toNat, mvr := [0] }
noncomputable def Lsev : Lib := { Lhs with ls := (7, "law.go:48", lSev) :: Lhs.ls }
def aByt : List ArgK := [(true, instK)]
end Go.Proofs.YthmighgfefjcmaaGreat.Enc
end

section
/- A contract with two ways out, where it is known which way is gone; a law whose arguments are given. No condition. -/
namespace Go.Proofs.YthmighgfefjcmaaGreat.X
open Go.RowKit

/-- One way out of a contract. -/
def Con.way (c : Con) (b : Dt → Bool) (v : Bool) (x : Dt → Po) : Con := { c with pre := fun σ => c.pre σ ∧ b σ = v, post := x }
theorem instT_way (c : Con) (b : Dt → Bool) (v : Bool) (x : Dt → Po) (m : M) : ∀ p : Po, (c.way b v x).instT m p = c.instT m p
  | .leaf _ _ _ _ => rfl
  | .ite q y z => by simp only [Con.instT, instT_way c b v x m y, instT_way c b v x m z]
theorem lib_way {P : Program} {L : Lib} (hL : Lib.Good P L) {g : FuncId} {c : Con} (hfind : ∀ rom, cspec (L.mk' rom) g = some (c.call rom)) (b : Dt → Bool) (v : Bool) (x y : Dt → Po)
    (hpost : ∀ σ, c.post σ = bif v then .ite (b σ) (x σ) (y σ) else .ite (b σ) (y σ) (x σ)) (hwf : ∀ σ, c.wf σ = true) : Lib.Good P { L with cs := (g, c.way b v x) :: L.cs } :=
  lib_cs hL fun rom ags h nx t ht => by
    unfold Con.call at ht
    obtain ⟨m, hm, ht⟩ := Option.bind_eq_some_iff.1 ht
    cases hw : (c.way b v x).wf m.dt with
    | false => rw [hw] at ht; cases ht
    | true =>
      rw [hw] at ht
      simp only [cond_true, Option.some.injEq] at ht
      subst ht
      have h1 := (hL rom).cs g (c.call rom) (hfind rom) ags h nx (.req (m.p ∧ c.pre m.dt) (c.instT m (c.post m.dt))) (by
        unfold Con.call
        rw [show view rom c.ps c.bl ags h nx [] = some m from hm]
        simp only [Option.bind_some, hwf, cond_true])
      rw [instT_way]
      rw [hpost] at h1
      refine ⟨?_, fun F w0 β w K hR hH ha hn hs => ?_⟩
      · cases v with
        | true => exact h1.1.1
        | false => exact h1.1.2
      · refine h1.2 F w0 β w K hR hH ha hn ?_
        obtain ⟨⟨hp, hpre, hb⟩, hs⟩ := hs
        refine ⟨⟨hp, hpre⟩, ?_⟩
        cases v with
        | true => exact ⟨fun _ => hs, fun h => by (rw [hb] at h; cases h)⟩
        | false => exact ⟨fun h => by (rw [hb] at h; cases h), fun _ => hs⟩
/-- A law that hands back true, for these arguments. -/
theorem law_calls1 {P : Program} {L : Lib} (hL : Lib.Good P L) {g : FuncId} {fn : Func} (hf : P.funcs[g]? = some fn) (n : Nat) (ags : List ArgK)
    (vs cs : List Value) (hv : okArgs ags vs cs) (h : SatB P L n fn (argsV (dtL cs) at0 ags 0)) (w : World) :
    Calls P g vs.toArray w fun e w' => e = .returned (.bool true) ∧ Below w.heap.size w w' := by
  obtain ⟨h1, h2⟩ := argsV_ok at0 cs ags 0 vs cs hv fun j _ => by rw [Nat.zero_add]; rfl
  exact calls_true (hL _) (fun _ _ _ _ h => h) hf n _ vs h1 h2 w h.sat
end Go.Proofs.YthmighgfefjcmaaGreat.X
end

section
/- EncodeBytes: instructions that may be, and those that may not: contracts. No condition. -/
namespace Go.Proofs.YthmighgfefjcmaaGreat.Enc
open Go.RowKit Go.Proofs.YthmighgfefjcmaaGreat.X

def chkD (σ : Dt) : Bool := chkB (ins σ 0)
def outB (σ : Dt) : Po := .leaf .ret [(0, .t [.gr 0 5 byteK (rowsB (encI (ins σ 0)).bytes), .gr 4 54 holeK (rowsH (encI (ins σ 0)).hols), .c (.int .i64 0)])] [] []
def outR (σ : Dt) : Po := .leaf .ret [(0, .t [.gr 0 5 byteK (rowsB (rBytes (ins σ 0) (rowR (ins σ 0)))), .gr 4 54 holeK (rowsH (rHols (ins σ 0) (rowR (ins σ 0)))), .c (.int .i64 0)])] [] []
def outN (_ : Dt) : Po := .leaf .ret [(0, .t [nilP, nilP, .c (.int .i64 30)])] [] []
noncomputable def LbT1 : Lib := { Lsev with cs := (4, cBytes.way chkD true outB) :: Lsev.cs }
noncomputable def LbT : Lib := { LbT1 with cs := (5, cRbytes.way chkD true outR) :: LbT1.cs }
noncomputable def LbN1 : Lib := { Lsev with cs := (4, cBytes.way chkD false outN) :: Lsev.cs }
noncomputable def LbN : Lib := { LbN1 with cs := (5, cRbytes.way chkD false outN) :: LbN1.cs }
end Go.Proofs.YthmighgfefjcmaaGreat.Enc
end

section
/- Written by vc.py: what is to be shown, read out. No condition. -/
set_option maxRecDepth 1000000
set_option maxHeartbeats 0
namespace Go.Proofs.YthmighgfefjcmaaGreat.Enc
open Go.RowKit Go.Proofs.YthmighgfefjcmaaGreat.X
theorem bytN_law (σ : Dt) (α : At') : ((run Tryz.prog (LbN.mk' fun _ _ _ _ => False) 3000 Tryz.f3 (argsV σ α aByt 0)).sat (hands Tryz.prog Tryz.f3 (.bool true))) = (
let x0 := (Ins.mk (σ.I 0) (σ.I 1) (σ.I 2) (Opd.mk (σ.I 3) (σ.I 4) (σ.I 5) (σ.I 6) (σ.I 7) (σ.B 8) (σ.B 9) (σ.I 10) (σ.S 11) (σ.I 12)) (Opd.mk (σ.I 13) (σ.I 14) (σ.I 15) (σ.I 16) (σ.I
    17) (σ.B 18) (σ.B 19) (σ.I 20) (σ.S 21) (σ.I 22)) (σ.B 23));
let x1 := chkB x0;
let x3 := True ∧ True ∧ x1 = false;
x3 ∧ (True ∧ ((σ.S 11).size ≤ 9223372036854775807 ∧ (σ.S 21).size ≤ 9223372036854775807 ∧ (x1 = true → rowGood (rowR x0))) ∧ x1 = false) ∧ x3 ∧ (((True ∧ 0 = 0) ∧ 0 = 0) ∧ ([] : List (List Value)) = [] ∧ 0 ≤ 100) ∧ ((True ∧ 0 = 0) ∧ (0 : Int) ≤ (0 : Int) ∧ (0 : Int) ≤ (0 : Int) ∧ 0 ≤ 100) ∧ x3 ∧ True ∧ Value.bool true =
    Value.bool true) := by kernel_rfl

theorem bytT_law (σ : Dt) (α : At') : ((run Tryz.prog (LbT.mk' fun _ _ _ _ => False) 3000 Tryz.f3 (argsV σ α aByt 0)).sat (hands Tryz.prog Tryz.f3 (.bool true))) = (
let x0 := (Ins.mk (σ.I 0) (σ.I 1) (σ.I 2) (Opd.mk (σ.I 3) (σ.I 4) (σ.I 5) (σ.I 6) (σ.I 7) (σ.B 8) (σ.B 9) (σ.I 10) (σ.S 11) (σ.I 12)) (Opd.mk (σ.I 13) (σ.I 14) (σ.I 15) (σ.I 16) (σ.I
    17) (σ.B 18) (σ.B 19) (σ.I 20) (σ.S 21) (σ.I 22)) (σ.B 23));
let x1 := chkB x0 = true;
let x2 := True ∧ True ∧ x1;
let x3 := rowR x0;
let x4 := encI x0;
let x5 := rowsB x4.bytes;
let x6 := x5.length;
let x7 := x6 ≤ x6;
let x8 := rowsB (rBytes x0 x3);
let x9 := x8.length;
let x10 := x9 ≤ x9;
let x11 := (ByteArray.mk (List.map (fun r => UInt8.ofNat (asI (r.getD 0 (Value.tuple #[]))).toNat) (List.take x6 x5)).toArray).toList == (ByteArray.mk (List.map (fun r => UInt8.ofNat (asI (r.getD 0 (Value.tuple #[]))).toNat) (List.take x9 x8)).toArray).toList;
let x12 := !x11;
let x13 := rowsH x4.hols;
let x14 := x13.length;
let x15 := rowsH (rHols x0 x3);
let x16 := x15.length;
let x17 := (↑x6 : Int);
let x18 := x17 != (↑x9 : Int);
x2 ∧ (True ∧ ((σ.S 11).size ≤ 9223372036854775807 ∧ (σ.S 21).size ≤ 9223372036854775807 ∧ (x1 → rowGood x3)) ∧ x1) ∧ x2 ∧ x7 ∧ x10 ∧ (x12 = false → (((True ∧ x14 = x14) ∧ x16 = x16) ∧ x13 = x15 ∧ x14 ≤ 100) ∧ (x18 = false → ((True ∧ x6 = x6) ∧ (0 : Int) ≤ (0 : Int) ∧ (0 : Int) ≤ x17 ∧ x6 ≤ 100) ∧ x2
    ∧ x7 ∧ x10)) ∧ True ∧ Value.bool (bif x12 then false else bif x18 then false else bif x11 then true else false) = Value.bool true) := by kernel_rfl

end Go.Proofs.YthmighgfefjcmaaGreat.Enc
end

section
/- Written by vc.py: what is to be shown, read out. No condition. -/
set_option maxRecDepth 1000000
set_option maxHeartbeats 0
namespace Go.Proofs.YthmighgfefjcmaaGreat.Enc
open Go.RowKit Go.Proofs.YthmighgfefjcmaaGreat.X
theorem hs_round (σ : Dt) (α : At') (rest : Nat → Value) : (lHsL.goal Tryz.prog Llv.mk' 2000 bHsL σ α rest) = (
let x0 := σ.I 8 < (↑(σ.R 0).length : Int);
let x1 := decide x0;
let x2 := !(asI (((σ.R 0).getD (σ.I 8).toNat []).getD 0 (Value.tuple #[])) == asI (((σ.R 4).getD (σ.I 8).toNat []).getD 0 (Value.tuple #[])) && (asI (((σ.R 0).getD (σ.I 8).toNat []).getD 1 (Value.tuple #[])) == asI (((σ.R 4).getD (σ.I 8).toNat []).getD 1 (Value.tuple #[])) && (asI (((σ.R 0).getD
    (σ.I 8).toNat []).getD 2 (Value.tuple #[])) == asI (((σ.R 4).getD (σ.I 8).toNat []).getD 2 (Value.tuple #[])) && ((asS (((σ.R 0).getD (σ.I 8).toNat []).getD 3 (Value.tuple #[]))).toList == (asS (((σ.R 4).getD (σ.I 8).toNat []).getD 3 (Value.tuple #[]))).toList && (asI (((σ.R 0).getD (σ.I
    8).toNat []).getD 4 (Value.tuple #[])) == asI (((σ.R 4).getD (σ.I 8).toNat []).getD 4 (Value.tuple #[])) && true)))));
let x3 := (σ.R 0).length = (σ.R 0).length;
let x4 := (σ.R 4).length = (σ.R 4).length;
let x5 := (True ∧ x3) ∧ x4;
let x6 := IntKind.i64.wrap (σ.I 8 + (1 : Int));
true = true ∧ (x1 = true → ((0 : Int) ≤ σ.I 8 ∧ x0 ∧ (σ.R 0).length ≤ (σ.R 0).length) ∧ (σ.I 8).toNat < (σ.R 0).length ∧ ((0 : Int) ≤ σ.I 8 ∧ σ.I 8 < (↑(σ.R 4).length : Int) ∧ (σ.R 4).length ≤ (σ.R 4).length) ∧ (σ.I 8).toNat < (σ.R 4).length ∧ (x2 = true → true = true ∧ Ex.exit 0 = Ex.ret ∧ true =
    true ∧ False) ∧ (x2 = false → true = true ∧ true = true ∧ x5 ∧ (σ.R 0 = σ.R 4 ∧ (0 : Int) ≤ x6 ∧ x6 ≤ (↑(σ.R 0).length : Int) ∧ (σ.R 0).length ≤ 100) ∧ ((↑(σ.R 0).length : Int) - x6).toNat < ((↑(σ.R 0).length : Int) - σ.I 8).toNat ∧ Po.leaf (Ex.exit 0) [(0, Pt.k 0 (σ.R 0).length), (1, Pt.k 4
    (σ.R 4).length)] [] [] = Po.leaf (Ex.exit 0) [(0, Pt.k 0 (σ.R 0).length), (1, Pt.k 4 (σ.R 4).length)] [] [] ∧ asSt ([], [(0, (54 : TypeId), [PK.int IntKind.i64, PK.int IntKind.i64, PK.int IntKind.i64, PK.str, PK.int IntKind.i64], σ.R 0), (4, (54 : TypeId), [PK.int
    IntKind.i64, PK.int IntKind.i64, PK.int IntKind.i64, PK.str, PK.int IntKind.i64], σ.R 4)]) = ([], [(0, (54 : TypeId), [PK.int IntKind.i64, PK.int IntKind.i64, PK.int IntKind.i64, PK.str, PK.int IntKind.i64], σ.R 0), (4, (54 : TypeId), [PK.int IntKind.i64, PK.int
    IntKind.i64, PK.int IntKind.i64, PK.str, PK.int IntKind.i64], σ.R 4)]))) ∧ (x1 = false → true = true ∧ Ex.exit 0 = Ex.exit 0 ∧ true = true ∧ (x5 ∧ x3 ∧ σ.R 0 = σ.R 0) ∧ x4 ∧ σ.R 4 = σ.R 4)) := by kernel_rfl

theorem hs_goal (σ : Dt) (α : At') : (cHs.goal Tryz.prog LhsL.mk' 2000 Tryz.f7 σ α) = (
let x0 := (↑(σ.R 0).length : Int) != (↑(σ.R 4).length : Int);
let x1 := (σ.R 0).length = (σ.R 0).length;
let x2 := (σ.R 4).length = (σ.R 4).length;
(x0 = true → True ∧ Ex.ret = Ex.ret ∧ true = true ∧ False) ∧ (x0 = false → (((True ∧ x1) ∧ x2) ∧ σ.R 0 = σ.R 4 ∧ (0 : Int) ≤ (0 : Int) ∧ (0 : Int) ≤ (↑(σ.R 0).length : Int) ∧ (σ.R 0).length ≤ 100) ∧ True ∧ Ex.ret = Ex.ret ∧ true = true ∧ (True ∧ x1 ∧ σ.R 0 = σ.R 0) ∧ x2 ∧ σ.R 4 = σ.R 4)) := by kernel_rfl

theorem sev_round (σ : Dt) (α : At') (rest : Nat → Value) : (lSev.goal Tryz.prog Lhs.mk' 2000 bSev σ α rest) = (
let x0 := σ.I 4 < (↑(σ.R 0).length : Int);
let x1 := decide x0;
let x2 := ((σ.R 0).set (σ.I 4).toNat (setRow ((σ.R 0).getD (σ.I 4).toNat []) 0 [Value.int IntKind.u8 (7 : Int)])).length;
let x3 := IntKind.i64.wrap (σ.I 4 + (1 : Int));
let x4 := (↑x2 : Int);
true = true ∧ (x1 = true → ((0 : Int) ≤ σ.I 4 ∧ x0 ∧ (σ.R 0).length ≤ (σ.R 0).length) ∧ (σ.I 4).toNat < (σ.R 0).length ∧ true = true ∧ true = true ∧ (True ∧ (σ.R 0).length = x2) ∧ ((0 : Int) ≤ x3 ∧ x3 ≤ x4 ∧ x2 ≤ 100) ∧ (x4 - x3).toNat < ((↑(σ.R 0).length : Int) - σ.I 4).toNat ∧ Po.leaf (Ex.exit 0)
    [] [] [0] = Po.leaf (Ex.exit 0) [] [] [0] ∧ asSt ([], []) = ([], [])) ∧ (x1 = false → true = true ∧ Ex.exit 0 = Ex.exit 0 ∧ true = true ∧ True)) := by kernel_rfl

end Go.Proofs.YthmighgfefjcmaaGreat.Enc
end

section
/- Written by vc.py: what is to be shown, read out. No condition. -/
set_option maxRecDepth 1000000
set_option maxHeartbeats 0
namespace Go.Proofs.YthmighgfefjcmaaGreat.Enc
open Go.RowKit Go.Proofs.YthmighgfefjcmaaGreat.X
theorem rbytes_goal (σ : Dt) (α : At') : (cRbytes.goal Tryz.prog Lrhole.mk' 3000 Tryz.f5 σ α) = (
let x0 := (Ins.mk (σ.I 0) (σ.I 1) (σ.I 2) (Opd.mk (σ.I 3) (σ.I 4) (σ.I 5) (σ.I 6) (σ.I 7) (σ.B 8) (σ.B 9) (σ.I 10) (σ.S 11) (σ.I 12)) (Opd.mk (σ.I 13) (σ.I 14) (σ.I 15) (σ.I 16) (σ.I
    17) (σ.B 18) (σ.B 19) (σ.I 20) (σ.S 21) (σ.I 22)) (σ.B 23));
let x1 := bif chkB x0 then (0 : Int) else (30 : Int);
let x2 := x1 != (0 : Int);
let x3 := rowsB (rBytes (ins σ 0) (rowR (ins σ 0)));
let x4 := rowsH (rHols (ins σ 0) (rowR (ins σ 0)));
let x5 := 0 = 0 ∧ [] = x4;
let x6 := bif σ.B 9 then true else σ.B 19;
let x7 := rowR x0;
let x8 := rowsB x7.code;
let x9 := x8.length;
let x10 := (True ∧ x9 = x9) ∧ True;
let x11 := x7.plus;
let x12 := x7.reg;
let x13 := x7.hasRm;
let x14 := x7.rm;
let x15 := x14.kind;
let x16 := x14.r;
let x17 := x14.base;
let x18 := x14.index;
let x19 := x14.scale;
let x20 := x14.rip;
let x21 := x14.fs;
let x22 := x14.n;
let x23 := x14.name;
let x24 := x14.mod;
let x25 := (Opd.mk x15 x16 x17 x18 x19 x20 x21 x22 x23 x24);
let x26 := x7.num;
let x27 := x7.n;
let x28 := x7.name;
let x29 := x28.kind;
let x30 := x28.r;
let x31 := x28.base;
let x32 := x28.index;
let x33 := x28.scale;
let x34 := x28.rip;
let x35 := x28.fs;
let x36 := x28.n;
let x37 := x28.name;
let x38 := x28.mod;
let x39 := rexB x0 (RowS.mk ([]) x7.wide x11 x12 x13 x25 x26 x27 (Opd.mk x29 x30 x31 x32 x33 x34 x35 x36 x37 x38));
let x40 := x39 != (0 : Int);
let x42 := x9 ≤ x9;
let x43 := [[Value.int IntKind.u8 x39]];
let x44 := List.take x9 x8;
let x45 := [Value.int IntKind.u8 (100 : Int)] :: x43 ++ x44;
let x46 := x45.length;
let x47 := decide (x11 ≥ (0 : Int));
let x49 := (↑x46 : Int);
let x50 := IntKind.i64.wrap (x49 - (1 : Int));
let x51 := (0 : Int) ≤ x50 ∧ x50 < x49 ∧ x46 ≤ x46;
let x52 := x50.toNat;
let x53 := x52 < x46;
let x55 := True ∧ (0 : Int) ≤ x12 ∧ x12 ≤ (15 : Int) ∧ rmOk x25;
let x56 := IntKind.u8.wrap (IntKind.i64.wrap (↑(BitVec.ofInt 64 x11 &&& BitVec.ofInt 64 (7 : Int)).toNat : Int));
let x57 := bif x47 then x45.set x52 (setRow (x45.getD x52 []) 0 [Value.int IntKind.u8 (IntKind.u8.wrap (asI ((x45.getD x52 []).getD 0 (Value.tuple #[])) + x56))]) else x45;
let x58 := x46 = x57.length;
let x59 := rowsB (rmHead (x12 % (8 : Int)) x25);
let x60 := x59.length;
let x61 := x60 ≤ x60;
let x62 := List.take x60 x59;
let x63 := x57 ++ x62;
let x64 := x63.length;
let x65 := (↑(rmSize x25) : Int);
let x66 := True ∧ (0 : Int) ≤ x65 ∧ x65 ≤ (8 : Int);
let x67 := !x23.toList == [];
let x68 := rowsB (leL (bif x67 then (0 : Int) else x22) x65.toNat);
let x69 := x68.length;
let x70 := x69 ≤ x69;
let x71 := List.take x69 x68;
let x72 := x63 ++ x71;
let x73 := x72.length;
let x74 := True ∧ (0 : Int) ≤ x26 ∧ x26 ≤ (8 : Int);
let x75 := !x37.toList == [];
let x76 := rowsB (leL (bif x75 then (0 : Int) else x27) x26.toNat);
let x77 := x76.length;
let x78 := x77 ≤ x77;
let x79 := List.take x77 x76;
let x80 := x72 ++ x79;
let x81 := x80.length;
let x82 := bif x75 then (↑x73 : Int) else bif x67 then (↑x64 : Int) else (-1 : Int);
let x83 := decide (x82 < (0 : Int));
let x84 := True ∧ x81 = x81 ∧ x80 = x3;
let x85 := (Opd.mk (bif x75 then x29 else bif x67 then x15 else (0 : Int)) (bif x75 then x30 else bif x67 then x16 else (0 : Int)) (bif x75 then x31 else bif x67 then x17 else (0 : Int)) (bif x75 then x32 else bif x67 then x18 else (0 : Int)) (bif x75 then x33 else bif
    x67 then x19 else (0 : Int)) (bif x75 then x34 else bif x67 then x20 else false) (bif x75 then x35 else bif x67 then x21 else false) (bif x75 then x36 else bif x67 then x22 else (0 : Int)) (bif x75 then x37 else bif x67 then x23 else (ByteArray.mk (#[]))) (bif
    x75 then x38 else bif x67 then x24 else (0 : Int)));
let x86 := bif x75 then x26 else bif x67 then x65 else (0 : Int);
let x87 := holeR' x85 x82 x86 (IntKind.i64.wrap ((↑x81 : Int) - x82));
let x88 := [[Value.int IntKind.i64 x87.at_, Value.int IntKind.i64 x87.size, Value.int IntKind.i64 x87.type, Value.string x87.name, Value.int IntKind.i64 x87.add]];
let x90 := x57 ++ x79;
let x91 := x90.length;
let x92 := bif x75 then x49 else (-1 : Int);
let x93 := decide (x92 < (0 : Int));
let x94 := True ∧ x91 = x91 ∧ x90 = x3;
let x95 := (Opd.mk (bif x75 then x29 else (0 : Int)) (bif x75 then x30 else (0 : Int)) (bif x75 then x31 else (0 : Int)) (bif x75 then x32 else (0 : Int)) (bif x75 then x33 else (0 : Int)) (bif x75 then x34 else false) (bif x75 then x35 else false) (bif x75
    then x36 else (0 : Int)) (bif x75 then x37 else (ByteArray.mk (#[]))) (bif x75 then x38 else (0 : Int)));
let x96 := bif x75 then x26 else (0 : Int);
let x97 := holeR' x95 x92 x96 (IntKind.i64.wrap ((↑x91 : Int) - x92));
let x98 := [[Value.int IntKind.i64 x97.at_, Value.int IntKind.i64 x97.size, Value.int IntKind.i64 x97.type, Value.string x97.name, Value.int IntKind.i64 x97.add]];
let x100 := [[Value.int IntKind.u8 (100 : Int)]] ++ x44;
let x101 := x100.length;
let x102 := (↑x101 : Int);
let x103 := IntKind.i64.wrap (x102 - (1 : Int));
let x104 := (0 : Int) ≤ x103 ∧ x103 < x102 ∧ x101 ≤ x101;
let x105 := x103.toNat;
let x106 := x105 < x101;
let x107 := bif x47 then x100.set x105 (setRow (x100.getD x105 []) 0 [Value.int IntKind.u8 (IntKind.u8.wrap (asI ((x100.getD x105 []).getD 0 (Value.tuple #[])) + x56))]) else x100;
let x108 := x101 = x107.length;
let x109 := x107 ++ x62;
let x110 := x109.length;
let x111 := x109 ++ x71;
let x112 := x111.length;
let x113 := x111 ++ x79;
let x114 := x113.length;
let x115 := bif x75 then (↑x112 : Int) else bif x67 then (↑x110 : Int) else (-1 : Int);
let x116 := decide (x115 < (0 : Int));
let x117 := True ∧ x114 = x114 ∧ x113 = x3;
let x118 := holeR' x85 x115 x86 (IntKind.i64.wrap ((↑x114 : Int) - x115));
let x119 := [[Value.int IntKind.i64 x118.at_, Value.int IntKind.i64 x118.size, Value.int IntKind.i64 x118.type, Value.string x118.name, Value.int IntKind.i64 x118.add]];
let x120 := x107 ++ x79;
let x121 := x120.length;
let x122 := bif x75 then x102 else (-1 : Int);
let x123 := decide (x122 < (0 : Int));
let x124 := True ∧ x121 = x121 ∧ x120 = x3;
let x125 := holeR' x95 x122 x96 (IntKind.i64.wrap ((↑x121 : Int) - x122));
let x126 := [[Value.int IntKind.i64 x125.at_, Value.int IntKind.i64 x125.size, Value.int IntKind.i64 x125.type, Value.string x125.name, Value.int IntKind.i64 x125.add]];
let x127 := x43 ++ x44;
let x128 := x127.length;
let x129 := (↑x128 : Int);
let x130 := IntKind.i64.wrap (x129 - (1 : Int));
let x131 := (0 : Int) ≤ x130 ∧ x130 < x129 ∧ x128 ≤ x128;
let x132 := x130.toNat;
let x133 := x132 < x128;
let x134 := bif x47 then x127.set x132 (setRow (x127.getD x132 []) 0 [Value.int IntKind.u8 (IntKind.u8.wrap (asI ((x127.getD x132 []).getD 0 (Value.tuple #[])) + x56))]) else x127;
let x135 := x128 = x134.length;
let x136 := x134 ++ x62;
let x137 := x136.length;
let x138 := x136 ++ x71;
let x139 := x138.length;
let x140 := x138 ++ x79;
let x141 := x140.length;
let x142 := bif x75 then (↑x139 : Int) else bif x67 then (↑x137 : Int) else (-1 : Int);
let x143 := decide (x142 < (0 : Int));
let x144 := True ∧ x141 = x141 ∧ x140 = x3;
let x145 := holeR' x85 x142 x86 (IntKind.i64.wrap ((↑x141 : Int) - x142));
let x146 := [[Value.int IntKind.i64 x145.at_, Value.int IntKind.i64 x145.size, Value.int IntKind.i64 x145.type, Value.string x145.name, Value.int IntKind.i64 x145.add]];
let x147 := x134 ++ x79;
let x148 := x147.length;
let x149 := bif x75 then x129 else (-1 : Int);
let x150 := decide (x149 < (0 : Int));
let x151 := True ∧ x148 = x148 ∧ x147 = x3;
let x152 := holeR' x95 x149 x96 (IntKind.i64.wrap ((↑x148 : Int) - x149));
let x153 := [[Value.int IntKind.i64 x152.at_, Value.int IntKind.i64 x152.size, Value.int IntKind.i64 x152.type, Value.string x152.name, Value.int IntKind.i64 x152.add]];
let x154 := ([] : List (List Value)) ++ x44;
let x155 := x154.length;
let x156 := (↑x155 : Int);
let x157 := IntKind.i64.wrap (x156 - (1 : Int));
let x158 := (0 : Int) ≤ x157 ∧ x157 < x156 ∧ x155 ≤ x155;
let x159 := x157.toNat;
let x160 := x159 < x155;
let x161 := bif x47 then x154.set x159 (setRow (x154.getD x159 []) 0 [Value.int IntKind.u8 (IntKind.u8.wrap (asI ((x154.getD x159 []).getD 0 (Value.tuple #[])) + x56))]) else x154;
let x162 := x155 = x161.length;
let x163 := x161 ++ x62;
let x164 := x163.length;
let x165 := x163 ++ x71;
let x166 := x165.length;
let x167 := x165 ++ x79;
let x168 := x167.length;
let x169 := bif x75 then (↑x166 : Int) else bif x67 then (↑x164 : Int) else (-1 : Int);
let x170 := decide (x169 < (0 : Int));
let x171 := True ∧ x168 = x168 ∧ x167 = x3;
let x172 := holeR' x85 x169 x86 (IntKind.i64.wrap ((↑x168 : Int) - x169));
let x173 := [[Value.int IntKind.i64 x172.at_, Value.int IntKind.i64 x172.size, Value.int IntKind.i64 x172.type, Value.string x172.name, Value.int IntKind.i64 x172.add]];
let x174 := x161 ++ x79;
let x175 := x174.length;
let x176 := bif x75 then x156 else (-1 : Int);
let x177 := decide (x176 < (0 : Int));
let x178 := True ∧ x175 = x175 ∧ x174 = x3;
let x179 := holeR' x95 x176 x96 (IntKind.i64.wrap ((↑x175 : Int) - x176));
let x180 := [[Value.int IntKind.i64 x179.at_, Value.int IntKind.i64 x179.size, Value.int IntKind.i64 x179.type, Value.string x179.name, Value.int IntKind.i64 x179.add]];
(True ∧ (σ.S 11).size ≤ 9223372036854775807 ∧ (σ.S 21).size ≤ 9223372036854775807) ∧ (x2 = true → True ∧ (chkB (ins σ 0) = true → Ex.ret = Ex.ret ∧ true = true ∧ ((True ∧ 0 = 0 ∧ [] = x3) ∧ x5) ∧ Value.int IntKind.i64 x1 = Value.int IntKind.i64 (0 : Int)) ∧ (chkB (ins σ 0) = false → Ex.ret = Ex.ret
    ∧ true = true ∧ True ∧ Value.int IntKind.i64 x1 = Value.int IntKind.i64 (30 : Int))) ∧ (x2 = false → (True ∧ (0 : Int) ≤ σ.I 2 ∧ σ.I 2 ≤ (15 : Int)) ∧ (x6 = true → x10 ∧ (x40 = true → (True ∧ x42 ∧ x46 ≤ 9223372036854775807 ∧ x46 * 1 ≤ 140737488355328) ∧ (x47 = true → x51 ∧ x53 ∧ x51 ∧ x53) ∧ (x13 = true → x55 ∧
    (x58 ∧ x61 ∧ x64 ≤ 9223372036854775807 ∧ x64 * 1 ≤ 140737488355328) ∧ x66 ∧ (x64 = x64 ∧ x70 ∧ x73 ≤ 9223372036854775807 ∧ x73 * 1 ≤ 140737488355328) ∧ x74 ∧ (x73 = x73 ∧ x78 ∧ x81 ≤ 9223372036854775807 ∧ x81 * 1 ≤ 140737488355328) ∧ (x83 = true → True ∧ (chkB (ins σ 0) = true → Ex.ret = Ex.ret
    ∧ true = true ∧ x84 ∧ x5) ∧ (chkB (ins σ 0) = false → Ex.ret = Ex.ret ∧ true = true ∧ False)) ∧ (x83 = false → (True ∧ True) ∧ True ∧ (chkB (ins σ 0) = true → Ex.ret = Ex.ret ∧ true = true ∧ x84 ∧ 1 = x88.length ∧ x88 = x4) ∧ (chkB (ins σ 0) = false → Ex.ret = Ex.ret ∧ true = true ∧ False))) ∧
    (x13 = false → x74 ∧ (x58 ∧ x78 ∧ x91 ≤ 9223372036854775807 ∧ x91 * 1 ≤ 140737488355328) ∧ (x93 = true → True ∧ (chkB (ins σ 0) = true → Ex.ret = Ex.ret ∧ true = true ∧ x94 ∧ x5) ∧ (chkB (ins σ 0) = false → Ex.ret = Ex.ret ∧ true = true ∧ False)) ∧ (x93 = false → (True ∧ True) ∧ True ∧ (chkB (ins σ 0) =
    true → Ex.ret = Ex.ret ∧ true = true ∧ x94 ∧ 1 = x98.length ∧ x98 = x4) ∧ (chkB (ins σ 0) = false → Ex.ret = Ex.ret ∧ true = true ∧ False)))) ∧ (x40 = false → (True ∧ x42 ∧ x101 ≤ 9223372036854775807 ∧ x101 * 1 ≤ 140737488355328) ∧ (x47 = true → x104 ∧ x106 ∧ x104 ∧ x106) ∧ (x13 = true → x55 ∧ (x108 ∧ x61 ∧ x110 ≤
    9223372036854775807 ∧ x110 * 1 ≤ 140737488355328) ∧ x66 ∧ (x110 = x110 ∧ x70 ∧ x112 ≤ 9223372036854775807 ∧ x112 * 1 ≤ 140737488355328) ∧ x74 ∧ (x112 = x112 ∧ x78 ∧ x114 ≤ 9223372036854775807 ∧ x114 * 1 ≤ 140737488355328) ∧ (x116 = true → True ∧ (chkB (ins σ 0) = true → Ex.ret = Ex.ret ∧ true =
    true ∧ x117 ∧ x5) ∧ (chkB (ins σ 0) = false → Ex.ret = Ex.ret ∧ true = true ∧ False)) ∧ (x116 = false → (True ∧ True) ∧ True ∧ (chkB (ins σ 0) = true → Ex.ret = Ex.ret ∧ true = true ∧ x117 ∧ 1 = x119.length ∧ x119 = x4) ∧ (chkB (ins σ 0) = false → Ex.ret = Ex.ret ∧ true = true ∧ False))) ∧ (x13 = false
    → x74 ∧ (x108 ∧ x78 ∧ x121 ≤ 9223372036854775807 ∧ x121 * 1 ≤ 140737488355328) ∧ (x123 = true → True ∧ (chkB (ins σ 0) = true → Ex.ret = Ex.ret ∧ true = true ∧ x124 ∧ x5) ∧ (chkB (ins σ 0) = false → Ex.ret = Ex.ret ∧ true = true ∧ False)) ∧ (x123 = false → (True ∧ True) ∧ True ∧ (chkB (ins σ 0)
    = true → Ex.ret = Ex.ret ∧ true = true ∧ x124 ∧ 1 = x126.length ∧ x126 = x4) ∧ (chkB (ins σ 0) = false → Ex.ret = Ex.ret ∧ true = true ∧ False))))) ∧ (x6 = false → x10 ∧ (x40 = true → (True ∧ x42 ∧ x128 ≤ 9223372036854775807 ∧ x128 * 1 ≤ 140737488355328) ∧ (x47 = true → x131 ∧ x133 ∧ x131 ∧ x133) ∧ (x13 = true → x55
    ∧ (x135 ∧ x61 ∧ x137 ≤ 9223372036854775807 ∧ x137 * 1 ≤ 140737488355328) ∧ x66 ∧ (x137 = x137 ∧ x70 ∧ x139 ≤ 9223372036854775807 ∧ x139 * 1 ≤ 140737488355328) ∧ x74 ∧ (x139 = x139 ∧ x78 ∧ x141 ≤ 9223372036854775807 ∧ x141 * 1 ≤ 140737488355328) ∧ (x143 = true → True ∧ (chkB (ins σ 0) = true →
    Ex.ret = Ex.ret ∧ true = true ∧ x144 ∧ x5) ∧ (chkB (ins σ 0) = false → Ex.ret = Ex.ret ∧ true = true ∧ False)) ∧ (x143 = false → (True ∧ True) ∧ True ∧ (chkB (ins σ 0) = true → Ex.ret = Ex.ret ∧ true = true ∧ x144 ∧ 1 = x146.length ∧ x146 = x4) ∧ (chkB (ins σ 0) = false → Ex.ret = Ex.ret ∧ true
    = true ∧ False))) ∧ (x13 = false → x74 ∧ (x135 ∧ x78 ∧ x148 ≤ 9223372036854775807 ∧ x148 * 1 ≤ 140737488355328) ∧ (x150 = true → True ∧ (chkB (ins σ 0) = true → Ex.ret = Ex.ret ∧ true = true ∧ x151 ∧ x5) ∧ (chkB (ins σ 0) = false → Ex.ret = Ex.ret ∧ true = true ∧ False)) ∧ (x150 = false → (True ∧ True)
    ∧ True ∧ (chkB (ins σ 0) = true → Ex.ret = Ex.ret ∧ true = true ∧ x151 ∧ 1 = x153.length ∧ x153 = x4) ∧ (chkB (ins σ 0) = false → Ex.ret = Ex.ret ∧ true = true ∧ False)))) ∧ (x40 = false → (True ∧ x42 ∧ x155 ≤ 9223372036854775807 ∧ x155 * 1 ≤ 140737488355328) ∧ (x47 = true → x158 ∧ x160 ∧ x158 ∧ x160) ∧ (x13 = true →
    x55 ∧ (x162 ∧ x61 ∧ x164 ≤ 9223372036854775807 ∧ x164 * 1 ≤ 140737488355328) ∧ x66 ∧ (x164 = x164 ∧ x70 ∧ x166 ≤ 9223372036854775807 ∧ x166 * 1 ≤ 140737488355328) ∧ x74 ∧ (x166 = x166 ∧ x78 ∧ x168 ≤ 9223372036854775807 ∧ x168 * 1 ≤ 140737488355328) ∧ (x170 = true → True ∧ (chkB (ins σ 0) = true
    → Ex.ret = Ex.ret ∧ true = true ∧ x171 ∧ x5) ∧ (chkB (ins σ 0) = false → Ex.ret = Ex.ret ∧ true = true ∧ False)) ∧ (x170 = false → (True ∧ True) ∧ True ∧ (chkB (ins σ 0) = true → Ex.ret = Ex.ret ∧ true = true ∧ x171 ∧ 1 = x173.length ∧ x173 = x4) ∧ (chkB (ins σ 0) = false → Ex.ret = Ex.ret ∧
    true = true ∧ False))) ∧ (x13 = false → x74 ∧ (x162 ∧ x78 ∧ x175 ≤ 9223372036854775807 ∧ x175 * 1 ≤ 140737488355328) ∧ (x177 = true → True ∧ (chkB (ins σ 0) = true → Ex.ret = Ex.ret ∧ true = true ∧ x178 ∧ x5) ∧ (chkB (ins σ 0) = false → Ex.ret = Ex.ret ∧ true = true ∧ False)) ∧ (x177 = false → (True ∧
    True) ∧ True ∧ (chkB (ins σ 0) = true → Ex.ret = Ex.ret ∧ true = true ∧ x178 ∧ 1 = x180.length ∧ x180 = x4) ∧ (chkB (ins σ 0) = false → Ex.ret = Ex.ret ∧ true = true ∧ False))))))) := by kernel_rfl

end Go.Proofs.YthmighgfefjcmaaGreat.Enc
end

section
/- Written by vc.py: what is to be shown, read out. No condition. -/
set_option maxRecDepth 1000000
set_option maxHeartbeats 0
namespace Go.Proofs.YthmighgfefjcmaaGreat.Enc
open Go.RowKit Go.Proofs.YthmighgfefjcmaaGreat.X
theorem rex_goal (σ : Dt) (α : At') : (cRex.goal Tryz.prog Lroper.mk' 2000 Tryz.f19 σ α) = (
let x0 := bif σ.B 33 then decide (σ.I 32 ≥ (8 : Int)) else false;
let x2 := σ.I 34 == (3 : Int);
let x3 := bif σ.B 33 then bif x2 then decide (σ.I 37 ≥ (8 : Int)) else false else false;
let x5 := bif x2 then decide (σ.I 36 ≥ (8 : Int)) else false;
let x6 := bif decide (σ.I 31 ≥ (8 : Int)) then true else bif σ.B 33 then bif σ.I 34 == (1 : Int) then bif decide (σ.I 35 ≥ (8 : Int)) then true else x5 else x5 else false;
let x8 := rexB (ins σ 0) (rowOf' σ 30 []);
let x9 := (σ.R 0).length = (σ.R 0).length ∧ σ.R 0 = σ.R 0;
let x13 := σ.I 0 == (17 : Int);
let x14 := σ.I 0 == (18 : Int);
let x15 := σ.I 1 == (1 : Int);
let x16 := bif x15 then bif σ.I 3 == (1 : Int) then bif decide (σ.I 4 ≥ (4 : Int)) then decide (σ.I 4 ≤ (7 : Int)) else false else false else false;
let x17 := σ.I 0 == (29 : Int);
let x18 := bif σ.I 13 == (1 : Int) then bif decide (σ.I 14 ≥ (4 : Int)) then decide (σ.I 14 ≤ (7 : Int)) else false else false;
let x19 := !bif bif x13 then x13 else bif x14 then x14 else σ.I 0 == (19 : Int) then x16 else bif bif x17 then x17 else σ.I 0 == (30 : Int) then x18 else bif x16 then true else bif x18 then x15 else false;
(σ.B 30 = true → (x0 = true → (x3 = true → (x6 = true → True ∧ Ex.ret = Ex.ret ∧ true = true ∧ (True ∧ (79 : Int) = x8) ∧ x9) ∧ (x6 = false → True ∧ Ex.ret = Ex.ret ∧ true = true ∧ (True ∧ (78 : Int) = x8) ∧ x9)) ∧ (x3 = false → (x6 = true → True ∧ Ex.ret = Ex.ret ∧ true = true ∧ (True ∧ (77 : Int) = x8) ∧ x9) ∧ (x6 = false → True ∧ Ex.ret =
    Ex.ret ∧ true = true ∧ (True ∧ (76 : Int) = x8) ∧ x9))) ∧ (x0 = false → (x3 = true → (x6 = true → True ∧ Ex.ret = Ex.ret ∧ true = true ∧ (True ∧ (75 : Int) = x8) ∧ x9) ∧ (x6 = false → True ∧ Ex.ret = Ex.ret ∧ true = true ∧ (True ∧ (74 : Int) = x8) ∧ x9)) ∧ (x3 = false → (x6 = true → True ∧ Ex.ret = Ex.ret ∧ true = true ∧ (True ∧ (73 :
    Int) = x8) ∧ x9) ∧ (x6 = false → True ∧ Ex.ret = Ex.ret ∧ true = true ∧ (True ∧ (72 : Int) = x8) ∧ x9)))) ∧ (σ.B 30 = false → (x0 = true → (x3 = true → (x6 = true → True ∧ Ex.ret = Ex.ret ∧ true = true ∧ (True ∧ (71 : Int) = x8) ∧ x9) ∧ (x6 = false → True ∧ Ex.ret = Ex.ret ∧ true = true ∧ (True ∧ (70 : Int) = x8) ∧ x9)) ∧ (x3 = false →
    (x6 = true → True ∧ Ex.ret = Ex.ret ∧ true = true ∧ (True ∧ (69 : Int) = x8) ∧ x9) ∧ (x6 = false → True ∧ Ex.ret = Ex.ret ∧ true = true ∧ (True ∧ (68 : Int) = x8) ∧ x9))) ∧ (x0 = false → (x3 = true → (x6 = true → True ∧ Ex.ret = Ex.ret ∧ true = true ∧ (True ∧ (67 : Int) = x8) ∧ x9) ∧ (x6 = false → True ∧ Ex.ret = Ex.ret ∧ true = true ∧
    (True ∧ (66 : Int) = x8) ∧ x9)) ∧ (x3 = false → (x6 = true → True ∧ Ex.ret = Ex.ret ∧ true = true ∧ (True ∧ (65 : Int) = x8) ∧ x9) ∧ (x6 = false → (x19 = true → True ∧ Ex.ret = Ex.ret ∧ true = true ∧ (True ∧ (0 : Int) = x8) ∧ x9) ∧ (x19 = false → True ∧ Ex.ret = Ex.ret ∧ true = true ∧ (True ∧ (64 : Int) = x8) ∧
    x9)))))) := by kernel_rfl

theorem rhole_goal (σ : Dt) (α : At') : (cHole.goal Tryz.prog Lrex.mk' 2000 Tryz.f22 σ α) = (
let x0 := σ.I 0 == (4 : Int);
let x1 := bif x0 then σ.I 11 == (1 : Int) else false;
let x2 := σ.I 9 == (1 : Int);
let x3 := σ.I 9 == (3 : Int);
let x4 := σ.I 9 == (2 : Int);
let x5 := bif x4 then σ.I 10 else σ.I 10;
let x6 := σ.I 9 == (4 : Int);
let x7 := holeR' (opd σ 0) (σ.I 10) (σ.I 11) (σ.I 12);
let x8 := bif x4 then σ.I 11 else σ.I 11;
let x9 := bif x4 then σ.S 8 else σ.S 8;
True ∧ Ex.ret = Ex.ret ∧ true = true ∧ ((((True ∧ (bif x1 then σ.I 10 else bif x0 then bif x2 then σ.I 10 else σ.I 10 else bif σ.B 5 then bif x3 then x5 else x5 else bif x6 then σ.I 10 else σ.I 10) = x7.at_) ∧ (bif x1 then σ.I 11 else bif x0 then bif x2 then σ.I 11 else σ.I 11 else bif σ.B 5 then
    bif x3 then x8 else x8 else bif x6 then σ.I 11 else σ.I 11) = x7.size) ∧ (bif x1 then (0 : Int) else bif x0 then bif x2 then (4 : Int) else (2 : Int) else bif σ.B 5 then bif x3 then (22 : Int) else bif x4 then (9 : Int) else (2 : Int) else bif x6 then (23 : Int) else (21 : Int)) = x7.type) ∧
    (bif x1 then σ.S 8 else bif x0 then bif x2 then σ.S 8 else σ.S 8 else bif σ.B 5 then bif x3 then x9 else x9 else bif x6 then σ.S 8 else σ.S 8) = x7.name) ∧ (bif x1 then (-1 : Int) else bif x0 then (-4 : Int) else bif σ.B 5 then IntKind.i64.wrap (σ.I 7 - σ.I 12) else bif x6 then σ.I 7 else σ.I 7)
    = x7.add) := by kernel_rfl

end Go.Proofs.YthmighgfefjcmaaGreat.Enc
end

section
/- Written by vc.py: what is to be shown, read out. No condition. -/
set_option maxRecDepth 1000000
set_option maxHeartbeats 0
namespace Go.Proofs.YthmighgfefjcmaaGreat.Enc
open Go.RowKit Go.Proofs.YthmighgfefjcmaaGreat.X
theorem lowl_round (σ : Dt) (α : At') (rest : Nat → Value) : (lLowL.goal Tryz.prog Lrrow.mk' 1000 bLowL σ α rest) = (
let x0 := decide (σ.I 5 < σ.I 6);
let x1 := (σ.R 0).length = (σ.R 0).length;
let x2 := σ.R 0 ++ [[Value.int IntKind.u8 (IntKind.u8.wrap (σ.I 4))]];
let x3 := x2.length;
let x4 := IntKind.i64.wrap (σ.I 5 + (1 : Int));
let x5 := (σ.I 6 - x4).toNat;
let x6 := (σ.I 6 - σ.I 5).toNat;
let x7 := σ.R 0 ++ rowsB (leL (σ.I 4) x6);
true = true ∧ (x0 = true → (x1 ∧ True ∧ x3 ≤ 9223372036854775807 ∧ x3 * 1 ≤ 140737488355328) ∧ true = true ∧ true = true ∧ (True ∧ x3 = x3) ∧ ((0 : Int) ≤ (σ.I 4).fdiv (256 : Int) ∧ (σ.I 4).fdiv (256 : Int) < (18446744073709551616 : Int) ∧ (0 : Int) ≤ x4 ∧ x4 ≤ σ.I 6 ∧ σ.I 6 ≤ (8 : Int) ∧ x3 =
    x4.toNat) ∧ x5 < x6 ∧ Po.leaf (Ex.exit 0) [(5, Pt.gr 4 (5 : TypeId) [PK.int IntKind.u8] (x2 ++ rowsB (leL ((σ.I 4).fdiv (256 : Int)) x5))), (1, Pt.gi IntKind.i64 (σ.I 6))] [] [0] = Po.leaf (Ex.exit 0) [(5, Pt.gr 4 (5 : TypeId) [PK.int IntKind.u8] x7), (1, Pt.gi IntKind.i64 (σ.I
    6))] [] [0] ∧ asSt ([], []) = ([], [])) ∧ (x0 = false → true = true ∧ Ex.exit 0 = Ex.exit 0 ∧ true = true ∧ (True ∧ x1 ∧ σ.R 0 = x7) ∧ σ.I 6 = σ.I 6)) := by kernel_rfl

theorem lowr_goal (σ : Dt) (α : At') : (cLowR.goal Tryz.prog LrlowL.mk' 1000 Tryz.f21 σ α) = (
let x0 := [] ++ rowsB (leL (IntKind.u64.wrap (σ.I 0)) (σ.I 1 - (0 : Int)).toNat);
let x1 := x0.length;
((True ∧ 0 = 0) ∧ (0 : Int) ≤ IntKind.u64.wrap (σ.I 0) ∧ IntKind.u64.wrap (σ.I 0) < (18446744073709551616 : Int) ∧ (0 : Int) ≤ (0 : Int) ∧ (0 : Int) ≤ σ.I 1 ∧ σ.I 1 ≤ (8 : Int) ∧ 0 = 0) ∧ True ∧ Ex.ret = Ex.ret ∧ true = true ∧ True ∧ x1 = x1 ∧ x0 = rowsB (leL (σ.I 0) (σ.I 1).toNat)) := by kernel_rfl

theorem oper_goal (σ : Dt) (α : At') : (cOperand.goal Tryz.prog Lrlow.mk' 2000 Tryz.f20 σ α) = (
let x0 := σ.I 1 == (1 : Int);
let x1 := IntKind.u8.wrap (IntKind.i64.wrap ((8 : Int) * IntKind.i64.wrap (↑(BitVec.ofInt 64 (σ.I 0) &&& BitVec.ofInt 64 (7 : Int)).toNat : Int)));
let x2 := [[Value.int IntKind.u8 (IntKind.u8.wrap (IntKind.u8.wrap ((192 : Int) + x1) + IntKind.u8.wrap (IntKind.i64.wrap (↑(BitVec.ofInt 64 (σ.I 2) &&& BitVec.ofInt 64 (7 : Int)).toNat : Int))))]];
let x3 := rowsB (rmHead (σ.I 0 % (8 : Int)) (opd σ 1));
let x4 := (0 : Int) = (↑(rmSize (opd σ 1)) : Int);
let x5 := [[Value.int IntKind.u8 (IntKind.u8.wrap (x1 + (5 : Int)))]];
let x6 := (4 : Int) = (↑(rmSize (opd σ 1)) : Int);
let x7 := [[Value.int IntKind.u8 (IntKind.u8.wrap (x1 + (4 : Int)))], [Value.int IntKind.u8 (37 : Int)]];
let x8 := (σ.S 9).toList == [];
let x9 := IntKind.i64.wrap (↑(BitVec.ofInt 64 (σ.I 3) &&& BitVec.ofInt 64 (7 : Int)).toNat : Int);
let x10 := bif x8 then bif σ.I 8 == (0 : Int) then x9 != (5 : Int) else false else false;
let x11 := decide (σ.I 4 ≥ (0 : Int));
let x13 := σ.I 5 == (2 : Int);
let x15 := IntKind.u8.wrap ((0 : Int) + x1);
let x16 := IntKind.u8.wrap (x15 + (4 : Int));
let x17 := IntKind.u8.wrap (IntKind.i64.wrap ((8 : Int) * IntKind.i64.wrap (↑(BitVec.ofInt 64 (σ.I 4) &&& BitVec.ofInt 64 (7 : Int)).toNat : Int)));
let x18 := IntKind.u8.wrap x9;
let x19 := [[Value.int IntKind.u8 (IntKind.u8.wrap (IntKind.u8.wrap ((64 : Int) + x17) + x18))]];
let x20 := [Value.int IntKind.u8 x16] :: x19;
let x22 := σ.I 5 == (4 : Int);
let x24 := [[Value.int IntKind.u8 (IntKind.u8.wrap (IntKind.u8.wrap ((128 : Int) + x17) + x18))]];
let x25 := [Value.int IntKind.u8 x16] :: x24;
let x27 := σ.I 5 == (8 : Int);
let x28 := [[Value.int IntKind.u8 (bif x27 then IntKind.u8.wrap (IntKind.u8.wrap ((192 : Int) + x17) + x18) else IntKind.u8.wrap (IntKind.u8.wrap ((0 : Int) + x17) + x18))]];
let x29 := [Value.int IntKind.u8 (bif x27 then x16 else x16)] :: x28;
let x31 := x9 == (4 : Int);
let x33 := [[Value.int IntKind.u8 (36 : Int)]];
let x34 := [Value.int IntKind.u8 x16] :: x33;
let x36 := [[Value.int IntKind.u8 (IntKind.u8.wrap (x15 + x18))]];
let x37 := bif decide (σ.I 8 ≥ (-128 : Int)) then decide (σ.I 8 ≤ (127 : Int)) else false;
let x38 := IntKind.u8.wrap ((64 : Int) + x1);
let x39 := IntKind.u8.wrap (x38 + (4 : Int));
let x40 := [Value.int IntKind.u8 x39] :: x19;
let x41 := (1 : Int) = (↑(rmSize (opd σ 1)) : Int);
let x42 := [Value.int IntKind.u8 x39] :: x24;
let x43 := [Value.int IntKind.u8 (bif x27 then x39 else x39)] :: x28;
let x44 := [Value.int IntKind.u8 x39] :: x33;
let x45 := [[Value.int IntKind.u8 (IntKind.u8.wrap (x38 + x18))]];
let x46 := IntKind.u8.wrap ((128 : Int) + x1);
let x47 := IntKind.u8.wrap (x46 + (4 : Int));
let x48 := [Value.int IntKind.u8 x47] :: x19;
let x49 := [Value.int IntKind.u8 x47] :: x24;
let x50 := [Value.int IntKind.u8 (bif x27 then x47 else x47)] :: x28;
let x51 := [Value.int IntKind.u8 x47] :: x33;
let x52 := [[Value.int IntKind.u8 (IntKind.u8.wrap (x46 + x18))]];
let x53 := (x11 = true → (x13 = true → True ∧ Ex.ret = Ex.ret ∧ true = true ∧ (True ∧ 2 = x48.length ∧ x48 = x3) ∧ x6) ∧ (x13 = false → (x22 = true → True ∧ Ex.ret = Ex.ret ∧ true = true ∧ (True ∧ 2 = x49.length ∧ x49 = x3) ∧ x6) ∧ (x22 = false → True ∧ Ex.ret = Ex.ret ∧ true = true ∧ (True ∧ 2 = x50.length ∧ x50 = x3) ∧ x6))) ∧ (x11 = false →
    (x31 = true → True ∧ Ex.ret = Ex.ret ∧ true = true ∧ (True ∧ 2 = x51.length ∧ x51 = x3) ∧ x6) ∧ (x31 = false → True ∧ Ex.ret = Ex.ret ∧ true = true ∧ (True ∧ 1 = x52.length ∧ x52 = x3) ∧ x6));
(x0 = true → True ∧ Ex.ret = Ex.ret ∧ true = true ∧ (True ∧ 1 = x2.length ∧ x2 = x3) ∧ x4) ∧ (x0 = false → (σ.B 6 = true → True ∧ Ex.ret = Ex.ret ∧ true = true ∧ (True ∧ 1 = x5.length ∧ x5 = x3) ∧ x6) ∧ (σ.B 6 = false → (σ.B 7 = true → True ∧ Ex.ret = Ex.ret ∧ true = true ∧ (True ∧ 2 = x7.length ∧
    x7 = x3) ∧ x6) ∧ (σ.B 7 = false → (x10 = true → (x11 = true → (x13 = true → True ∧ Ex.ret = Ex.ret ∧ true = true ∧ (True ∧ 2 = x20.length ∧ x20 = x3) ∧ x4) ∧ (x13 = false → (x22 = true → True ∧ Ex.ret = Ex.ret ∧ true = true ∧ (True ∧ 2 = x25.length ∧ x25 = x3) ∧ x4) ∧ (x22 = false → True ∧ Ex.ret = Ex.ret ∧ true = true ∧ (True ∧ 2
    = x29.length ∧ x29 = x3) ∧ x4))) ∧ (x11 = false → (x31 = true → True ∧ Ex.ret = Ex.ret ∧ true = true ∧ (True ∧ 2 = x34.length ∧ x34 = x3) ∧ x4) ∧ (x31 = false → True ∧ Ex.ret = Ex.ret ∧ true = true ∧ (True ∧ 1 = x36.length ∧ x36 = x3) ∧ x4))) ∧ (x10 = false → (x8 = true → (x37 = true → (x11 = true → (x13 = true → True ∧ Ex.ret =
    Ex.ret ∧ true = true ∧ (True ∧ 2 = x40.length ∧ x40 = x3) ∧ x41) ∧ (x13 = false → (x22 = true → True ∧ Ex.ret = Ex.ret ∧ true = true ∧ (True ∧ 2 = x42.length ∧ x42 = x3) ∧ x41) ∧ (x22 = false → True ∧ Ex.ret = Ex.ret ∧ true = true ∧ (True ∧ 2 = x43.length ∧ x43 = x3) ∧ x41))) ∧ (x11 = false → (x31 = true → True ∧ Ex.ret = Ex.ret ∧
    true = true ∧ (True ∧ 2 = x44.length ∧ x44 = x3) ∧ x41) ∧ (x31 = false → True ∧ Ex.ret = Ex.ret ∧ true = true ∧ (True ∧ 1 = x45.length ∧ x45 = x3) ∧ x41))) ∧ (x37 = false → x53)) ∧ (x8 = false → x53)))))) := by kernel_rfl

end Go.Proofs.YthmighgfefjcmaaGreat.Enc
end

section
/- Written by vc.py: what is to be shown, read out. No condition. -/
set_option maxRecDepth 1000000
set_option maxHeartbeats 0
namespace Go.Proofs.YthmighgfefjcmaaGreat.Enc
open Go.RowKit Go.Proofs.YthmighgfefjcmaaGreat.X
theorem more_goal (σ : Dt) (α : At') : (cMore.goal Tryz.prog Lrpush.mk' 3000 Tryz.f49 σ α) = (
let x0 := σ.I 0 == (20 : Int);
let x1 := pushR (Ins.mk (σ.I 0) (σ.I 1) (σ.I 2) (Opd.mk (σ.I 3) (σ.I 4) (σ.I 5) (σ.I 6) (σ.I 7) (σ.B 8) (σ.B 9) (σ.I 10) (σ.S 11) (σ.I 12)) (Opd.mk (σ.I 13) (σ.I 14) (σ.I 15) (σ.I 16) (σ.I 17) (σ.B 18) (σ.B 19) (σ.I 20) (σ.S 21) (σ.I 22)) (σ.B 23));
let x2 := rowsB x1.code;
let x3 := x2.length;
let x4 := x1.rm;
let x5 := x1.name;
let x6 := σ.I 0 == (21 : Int);
let x7 := σ.I 3 == (1 : Int);
let x8 := [[Value.int IntKind.u8 (88 : Int)]];
let x9 := (0 : Int) = (moreR (ins σ 0)).reg;
let x10 := (0 : Int) = (moreR (ins σ 0)).rm.kind;
let x11 := (0 : Int) = (moreR (ins σ 0)).rm.r;
let x12 := (0 : Int) = (moreR (ins σ 0)).rm.base;
let x13 := (0 : Int) = (moreR (ins σ 0)).rm.index;
let x14 := (0 : Int) = (moreR (ins σ 0)).rm.scale;
let x15 := (0 : Int) = (moreR (ins σ 0)).rm.n;
let x16 := (ByteArray.mk (#[])) = (moreR (ins σ 0)).rm.name;
let x17 := (0 : Int) = (moreR (ins σ 0)).rm.mod;
let x18 := (0 : Int) = (moreR (ins σ 0)).num;
let x19 := (0 : Int) = (moreR (ins σ 0)).n;
let x20 := (0 : Int) = (moreR (ins σ 0)).name.kind;
let x21 := (0 : Int) = (moreR (ins σ 0)).name.r;
let x22 := (0 : Int) = (moreR (ins σ 0)).name.base;
let x23 := (0 : Int) = (moreR (ins σ 0)).name.index;
let x24 := (0 : Int) = (moreR (ins σ 0)).name.scale;
let x25 := (0 : Int) = (moreR (ins σ 0)).name.n;
let x26 := (ByteArray.mk (#[])) = (moreR (ins σ 0)).name.name;
let x27 := (0 : Int) = (moreR (ins σ 0)).name.mod;
let x28 := [[Value.int IntKind.u8 (143 : Int)]];
let x29 := (-1 : Int) = (moreR (ins σ 0)).plus;
let x30 := σ.I 3 = (moreR (ins σ 0)).rm.kind;
let x31 := σ.I 4 = (moreR (ins σ 0)).rm.r;
let x32 := σ.I 5 = (moreR (ins σ 0)).rm.base;
let x33 := σ.I 6 = (moreR (ins σ 0)).rm.index;
let x34 := σ.I 7 = (moreR (ins σ 0)).rm.scale;
let x35 := σ.B 8 = (moreR (ins σ 0)).rm.rip;
let x36 := σ.B 9 = (moreR (ins σ 0)).rm.fs;
let x37 := σ.I 10 = (moreR (ins σ 0)).rm.n;
let x38 := σ.S 11 = (moreR (ins σ 0)).rm.name;
let x39 := σ.I 12 = (moreR (ins σ 0)).rm.mod;
let x40 := σ.I 0 == (22 : Int);
let x41 := σ.I 3 != (4 : Int);
let x43 := [[Value.int IntKind.u8 (255 : Int)]];
let x44 := ((True ∧ 1 = x43.length ∧ x43 = rowsB (moreR (ins σ 0)).code) ∧ false = (moreR (ins σ 0)).wide) ∧ x29;
let x46 := [[Value.int IntKind.u8 (0 : Int)]];
let x47 := (1 : Int) = (moreR (ins σ 0)).num;
let x48 := σ.I 10 = (moreR (ins σ 0)).n;
let x49 := σ.I 3 = (moreR (ins σ 0)).name.kind;
let x50 := σ.I 4 = (moreR (ins σ 0)).name.r;
let x51 := σ.I 5 = (moreR (ins σ 0)).name.base;
let x52 := σ.I 6 = (moreR (ins σ 0)).name.index;
let x53 := σ.I 7 = (moreR (ins σ 0)).name.scale;
let x54 := σ.B 8 = (moreR (ins σ 0)).name.rip;
let x55 := σ.B 9 = (moreR (ins σ 0)).name.fs;
let x56 := σ.I 10 = (moreR (ins σ 0)).name.n;
let x57 := σ.S 11 = (moreR (ins σ 0)).name.name;
let x58 := σ.I 12 = (moreR (ins σ 0)).name.mod;
let x59 := [[Value.int IntKind.u8 (232 : Int)]];
let x60 := (4 : Int) = (moreR (ins σ 0)).num;
let x61 := σ.I 0 == (23 : Int);
let x62 := [[Value.int IntKind.u8 (235 : Int)]];
let x63 := [[Value.int IntKind.u8 (233 : Int)]];
let x64 := σ.I 0 == (24 : Int);
let x65 := [[Value.int IntKind.u8 (IntKind.u8.wrap ((112 : Int) + IntKind.u8.wrap (σ.I 2)))]];
let x66 := [[Value.int IntKind.u8 (15 : Int)], [Value.int IntKind.u8 (IntKind.u8.wrap ((128 : Int) + IntKind.u8.wrap (σ.I 2)))]];
let x67 := σ.I 0 == (27 : Int);
let x68 := [[Value.int IntKind.u8 (15 : Int)], [Value.int IntKind.u8 (IntKind.u8.wrap ((144 : Int) + IntKind.u8.wrap (σ.I 2)))]];
let x69 := σ.I 0 == (28 : Int);
let x70 := [[Value.int IntKind.u8 (15 : Int)], [Value.int IntKind.u8 (IntKind.u8.wrap ((64 : Int) + IntKind.u8.wrap (σ.I 2)))]];
let x71 := (σ.I 1 == (8 : Int)) = (moreR (ins σ 0)).wide;
let x72 := σ.I 4 = (moreR (ins σ 0)).reg;
let x73 := σ.I 13 = (moreR (ins σ 0)).rm.kind;
let x74 := σ.I 14 = (moreR (ins σ 0)).rm.r;
let x75 := σ.I 15 = (moreR (ins σ 0)).rm.base;
let x76 := σ.I 16 = (moreR (ins σ 0)).rm.index;
let x77 := σ.I 17 = (moreR (ins σ 0)).rm.scale;
let x78 := σ.B 18 = (moreR (ins σ 0)).rm.rip;
let x79 := σ.B 19 = (moreR (ins σ 0)).rm.fs;
let x80 := σ.I 20 = (moreR (ins σ 0)).rm.n;
let x81 := σ.S 21 = (moreR (ins σ 0)).rm.name;
let x82 := σ.I 22 = (moreR (ins σ 0)).rm.mod;
let x83 := σ.I 0 == (29 : Int);
let x84 := [[Value.int IntKind.u8 (15 : Int)], [Value.int IntKind.u8 (182 : Int)]];
let x85 := σ.I 0 == (30 : Int);
let x86 := [[Value.int IntKind.u8 (15 : Int)], [Value.int IntKind.u8 (190 : Int)]];
let x87 := σ.I 0 == (31 : Int);
let x88 := [[Value.int IntKind.u8 (135 : Int)]];
let x89 := σ.I 0 == (25 : Int);
let x90 := [[Value.int IntKind.u8 (195 : Int)]];
let x91 := σ.I 0 == (26 : Int);
let x92 := [[Value.int IntKind.u8 (201 : Int)]];
let x93 := σ.I 0 == (32 : Int);
let x94 := [[Value.int IntKind.u8 (72 : Int)], [Value.int IntKind.u8 (153 : Int)]];
let x95 := σ.I 0 == (33 : Int);
let x96 := [[Value.int IntKind.u8 (144 : Int)]];
let x97 := [[Value.int IntKind.u8 (15 : Int)], [Value.int IntKind.u8 (bif σ.I 0 == (34 : Int) then (11 : Int) else (5 : Int))]];
(x0 = true → (True ∧ True) ∧ True ∧ Ex.ret = Ex.ret ∧ true = true ∧ ((((((((((((((((((((((((((True ∧ x3 = x3 ∧ x2 = rowsB (moreR (ins σ 0)).code) ∧ x1.wide = (moreR (ins σ 0)).wide) ∧ x1.plus = (moreR (ins σ 0)).plus) ∧ x1.reg = (moreR (ins σ 0)).reg) ∧ x1.hasRm = (moreR (ins σ 0)).hasRm) ∧ x4.kind
    = (moreR (ins σ 0)).rm.kind) ∧ x4.r = (moreR (ins σ 0)).rm.r) ∧ x4.base = (moreR (ins σ 0)).rm.base) ∧ x4.index = (moreR (ins σ 0)).rm.index) ∧ x4.scale = (moreR (ins σ 0)).rm.scale) ∧ x4.rip = (moreR (ins σ 0)).rm.rip) ∧ x4.fs = (moreR (ins σ 0)).rm.fs) ∧ x4.n = (moreR (ins σ 0)).rm.n) ∧
    x4.name = (moreR (ins σ 0)).rm.name) ∧ x4.mod = (moreR (ins σ 0)).rm.mod) ∧ x1.num = (moreR (ins σ 0)).num) ∧ x1.n = (moreR (ins σ 0)).n) ∧ x5.kind = (moreR (ins σ 0)).name.kind) ∧ x5.r = (moreR (ins σ 0)).name.r) ∧ x5.base = (moreR (ins σ 0)).name.base) ∧ x5.index = (moreR (ins σ
    0)).name.index) ∧ x5.scale = (moreR (ins σ 0)).name.scale) ∧ x5.rip = (moreR (ins σ 0)).name.rip) ∧ x5.fs = (moreR (ins σ 0)).name.fs) ∧ x5.n = (moreR (ins σ 0)).name.n) ∧ x5.name = (moreR (ins σ 0)).name.name) ∧ x5.mod = (moreR (ins σ 0)).name.mod) ∧ (x0 = false → (x6 = true → (x7 = true → True
    ∧ Ex.ret = Ex.ret ∧ true = true ∧ ((((((((((((((((((((((((((True ∧ 1 = x8.length ∧ x8 = rowsB (moreR (ins σ 0)).code) ∧ false = (moreR (ins σ 0)).wide) ∧ σ.I 4 = (moreR (ins σ 0)).plus) ∧ x9) ∧ false = (moreR (ins σ 0)).hasRm) ∧ x10) ∧ x11) ∧ x12) ∧ x13) ∧ x14) ∧ false = (moreR (ins σ
    0)).rm.rip) ∧ false = (moreR (ins σ 0)).rm.fs) ∧ x15) ∧ x16) ∧ x17) ∧ x18) ∧ x19) ∧ x20) ∧ x21) ∧ x22) ∧ x23) ∧ x24) ∧ false = (moreR (ins σ 0)).name.rip) ∧ false = (moreR (ins σ 0)).name.fs) ∧ x25) ∧ x26) ∧ x27) ∧ (x7 = false → True ∧ Ex.ret = Ex.ret ∧ true = true ∧
    ((((((((((((((((((((((((((True ∧ 1 = x28.length ∧ x28 = rowsB (moreR (ins σ 0)).code) ∧ false = (moreR (ins σ 0)).wide) ∧ x29) ∧ x9) ∧ true = (moreR (ins σ 0)).hasRm) ∧ x30) ∧ x31) ∧ x32) ∧ x33) ∧ x34) ∧ x35) ∧ x36) ∧ x37) ∧ x38) ∧ x39) ∧ x18) ∧ x19) ∧ x20) ∧ x21) ∧ x22) ∧ x23) ∧ x24) ∧ false =
    (moreR (ins σ 0)).name.rip) ∧ false = (moreR (ins σ 0)).name.fs) ∧ x25) ∧ x26) ∧ x27)) ∧ (x6 = false → (x40 = true → (x41 = true → True ∧ Ex.ret = Ex.ret ∧ true = true ∧ (((((((((((((((((((((((x44 ∧ (2 : Int) = (moreR (ins σ 0)).reg) ∧ true = (moreR (ins σ 0)).hasRm) ∧ x30) ∧ x31) ∧ x32) ∧ x33) ∧ x34)
    ∧ x35) ∧ x36) ∧ x37) ∧ x38) ∧ x39) ∧ x18) ∧ x19) ∧ x20) ∧ x21) ∧ x22) ∧ x23) ∧ x24) ∧ false = (moreR (ins σ 0)).name.rip) ∧ false = (moreR (ins σ 0)).name.fs) ∧ x25) ∧ x26) ∧ x27) ∧ (x41 = false → (σ.B 23 = true → True ∧ Ex.ret = Ex.ret ∧ true = true ∧ ((((((((((((((((((((((((((True ∧ 1 = x46.length ∧
    x46 = rowsB (moreR (ins σ 0)).code) ∧ false = (moreR (ins σ 0)).wide) ∧ x29) ∧ x9) ∧ false = (moreR (ins σ 0)).hasRm) ∧ x10) ∧ x11) ∧ x12) ∧ x13) ∧ x14) ∧ false = (moreR (ins σ 0)).rm.rip) ∧ false = (moreR (ins σ 0)).rm.fs) ∧ x15) ∧ x16) ∧ x17) ∧ x47) ∧ x48) ∧ x49) ∧ x50) ∧ x51) ∧ x52) ∧ x53) ∧
    x54) ∧ x55) ∧ x56) ∧ x57) ∧ x58) ∧ (σ.B 23 = false → True ∧ Ex.ret = Ex.ret ∧ true = true ∧ ((((((((((((((((((((((((((True ∧ 1 = x59.length ∧ x59 = rowsB (moreR (ins σ 0)).code) ∧ false = (moreR (ins σ 0)).wide) ∧ x29) ∧ x9) ∧ false = (moreR (ins σ 0)).hasRm) ∧ x10) ∧ x11) ∧ x12) ∧ x13) ∧ x14) ∧
    false = (moreR (ins σ 0)).rm.rip) ∧ false = (moreR (ins σ 0)).rm.fs) ∧ x15) ∧ x16) ∧ x17) ∧ x60) ∧ x48) ∧ x49) ∧ x50) ∧ x51) ∧ x52) ∧ x53) ∧ x54) ∧ x55) ∧ x56) ∧ x57) ∧ x58))) ∧ (x40 = false → (x61 = true → (x41 = true → True ∧ Ex.ret = Ex.ret ∧ true = true ∧ (((((((((((((((((((((((x44 ∧ (4 : Int) =
    (moreR (ins σ 0)).reg) ∧ true = (moreR (ins σ 0)).hasRm) ∧ x30) ∧ x31) ∧ x32) ∧ x33) ∧ x34) ∧ x35) ∧ x36) ∧ x37) ∧ x38) ∧ x39) ∧ x18) ∧ x19) ∧ x20) ∧ x21) ∧ x22) ∧ x23) ∧ x24) ∧ false = (moreR (ins σ 0)).name.rip) ∧ false = (moreR (ins σ 0)).name.fs) ∧ x25) ∧ x26) ∧ x27) ∧ (x41 = false → (σ.B 23 = true
    → True ∧ Ex.ret = Ex.ret ∧ true = true ∧ ((((((((((((((((((((((((((True ∧ 1 = x62.length ∧ x62 = rowsB (moreR (ins σ 0)).code) ∧ false = (moreR (ins σ 0)).wide) ∧ x29) ∧ x9) ∧ false = (moreR (ins σ 0)).hasRm) ∧ x10) ∧ x11) ∧ x12) ∧ x13) ∧ x14) ∧ false = (moreR (ins σ 0)).rm.rip) ∧ false = (moreR
    (ins σ 0)).rm.fs) ∧ x15) ∧ x16) ∧ x17) ∧ x47) ∧ x48) ∧ x49) ∧ x50) ∧ x51) ∧ x52) ∧ x53) ∧ x54) ∧ x55) ∧ x56) ∧ x57) ∧ x58) ∧ (σ.B 23 = false → True ∧ Ex.ret = Ex.ret ∧ true = true ∧ ((((((((((((((((((((((((((True ∧ 1 = x63.length ∧ x63 = rowsB (moreR (ins σ 0)).code) ∧ false = (moreR (ins σ
    0)).wide) ∧ x29) ∧ x9) ∧ false = (moreR (ins σ 0)).hasRm) ∧ x10) ∧ x11) ∧ x12) ∧ x13) ∧ x14) ∧ false = (moreR (ins σ 0)).rm.rip) ∧ false = (moreR (ins σ 0)).rm.fs) ∧ x15) ∧ x16) ∧ x17) ∧ x60) ∧ x48) ∧ x49) ∧ x50) ∧ x51) ∧ x52) ∧ x53) ∧ x54) ∧ x55) ∧ x56) ∧ x57) ∧ x58))) ∧ (x61 = false → (x64 =
    true → (x41 = true → True ∧ Ex.ret = Ex.ret ∧ true = true ∧ (((((((((((((((((((((((x44 ∧ x9) ∧ true = (moreR (ins σ 0)).hasRm) ∧ x30) ∧ x31) ∧ x32) ∧ x33) ∧ x34) ∧ x35) ∧ x36) ∧ x37) ∧ x38) ∧ x39) ∧ x18) ∧ x19) ∧ x20) ∧ x21) ∧ x22) ∧ x23) ∧ x24) ∧ false = (moreR (ins σ 0)).name.rip) ∧ false = (moreR
    (ins σ 0)).name.fs) ∧ x25) ∧ x26) ∧ x27) ∧ (x41 = false → (σ.B 23 = true → True ∧ Ex.ret = Ex.ret ∧ true = true ∧ ((((((((((((((((((((((((((True ∧ 1 = x65.length ∧ x65 = rowsB (moreR (ins σ 0)).code) ∧ false = (moreR (ins σ 0)).wide) ∧ x29) ∧ x9) ∧ false = (moreR (ins σ 0)).hasRm) ∧ x10) ∧ x11) ∧ x12) ∧
    x13) ∧ x14) ∧ false = (moreR (ins σ 0)).rm.rip) ∧ false = (moreR (ins σ 0)).rm.fs) ∧ x15) ∧ x16) ∧ x17) ∧ x47) ∧ x48) ∧ x49) ∧ x50) ∧ x51) ∧ x52) ∧ x53) ∧ x54) ∧ x55) ∧ x56) ∧ x57) ∧ x58) ∧ (σ.B 23 = false → True ∧ Ex.ret = Ex.ret ∧ true = true ∧ ((((((((((((((((((((((((((True ∧ 2 = x66.length ∧
    x66 = rowsB (moreR (ins σ 0)).code) ∧ false = (moreR (ins σ 0)).wide) ∧ x29) ∧ x9) ∧ false = (moreR (ins σ 0)).hasRm) ∧ x10) ∧ x11) ∧ x12) ∧ x13) ∧ x14) ∧ false = (moreR (ins σ 0)).rm.rip) ∧ false = (moreR (ins σ 0)).rm.fs) ∧ x15) ∧ x16) ∧ x17) ∧ x60) ∧ x48) ∧ x49) ∧ x50) ∧ x51) ∧ x52) ∧ x53) ∧
    x54) ∧ x55) ∧ x56) ∧ x57) ∧ x58))) ∧ (x64 = false → (x67 = true → True ∧ Ex.ret = Ex.ret ∧ true = true ∧ ((((((((((((((((((((((((((True ∧ 2 = x68.length ∧ x68 = rowsB (moreR (ins σ 0)).code) ∧ false = (moreR (ins σ 0)).wide) ∧ x29) ∧ x9) ∧ true = (moreR (ins σ 0)).hasRm) ∧ x30) ∧ x31) ∧ x32) ∧
    x33) ∧ x34) ∧ x35) ∧ x36) ∧ x37) ∧ x38) ∧ x39) ∧ x18) ∧ x19) ∧ x20) ∧ x21) ∧ x22) ∧ x23) ∧ x24) ∧ false = (moreR (ins σ 0)).name.rip) ∧ false = (moreR (ins σ 0)).name.fs) ∧ x25) ∧ x26) ∧ x27) ∧ (x67 = false → (x69 = true → True ∧ Ex.ret = Ex.ret ∧ true = true ∧ ((((((((((((((((((((((((((True ∧ 2
    = x70.length ∧ x70 = rowsB (moreR (ins σ 0)).code) ∧ x71) ∧ x29) ∧ x72) ∧ true = (moreR (ins σ 0)).hasRm) ∧ x73) ∧ x74) ∧ x75) ∧ x76) ∧ x77) ∧ x78) ∧ x79) ∧ x80) ∧ x81) ∧ x82) ∧ x18) ∧ x19) ∧ x20) ∧ x21) ∧ x22) ∧ x23) ∧ x24) ∧ false = (moreR (ins σ 0)).name.rip) ∧ false = (moreR (ins σ
    0)).name.fs) ∧ x25) ∧ x26) ∧ x27) ∧ (x69 = false → (x83 = true → True ∧ Ex.ret = Ex.ret ∧ true = true ∧ ((((((((((((((((((((((((((True ∧ 2 = x84.length ∧ x84 = rowsB (moreR (ins σ (0 : Nat))).code) ∧ x71) ∧ x29) ∧ x72) ∧ true = (moreR (ins σ 0)).hasRm) ∧ x73) ∧ x74) ∧ x75) ∧ x76) ∧ x77) ∧ x78) ∧
    x79) ∧ x80) ∧ x81) ∧ x82) ∧ x18) ∧ x19) ∧ x20) ∧ x21) ∧ x22) ∧ x23) ∧ x24) ∧ false = (moreR (ins σ 0)).name.rip) ∧ false = (moreR (ins σ 0)).name.fs) ∧ x25) ∧ x26) ∧ x27) ∧ (x83 = false → (x85 = true → True ∧ Ex.ret = Ex.ret ∧ true = true ∧ ((((((((((((((((((((((((((True ∧ 2 = x86.length ∧ x86 =
    rowsB (moreR (ins σ (0 : Nat))).code) ∧ x71) ∧ x29) ∧ x72) ∧ true = (moreR (ins σ 0)).hasRm) ∧ x73) ∧ x74) ∧ x75) ∧ x76) ∧ x77) ∧ x78) ∧ x79) ∧ x80) ∧ x81) ∧ x82) ∧ x18) ∧ x19) ∧ x20) ∧ x21) ∧ x22) ∧ x23) ∧ x24) ∧ false = (moreR (ins σ 0)).name.rip) ∧ false = (moreR (ins σ 0)).name.fs) ∧ x25) ∧
    x26) ∧ x27) ∧ (x85 = false → (x87 = true → True ∧ Ex.ret = Ex.ret ∧ true = true ∧ ((((((((((((((((((((((((((True ∧ 1 = x88.length ∧ x88 = rowsB (moreR (ins σ (0 : Nat))).code) ∧ x71) ∧ x29) ∧ σ.I 14 = (moreR (ins σ 0)).reg) ∧ true = (moreR (ins σ 0)).hasRm) ∧ x30) ∧ x31) ∧ x32) ∧ x33) ∧ x34) ∧
    x35) ∧ x36) ∧ x37) ∧ x38) ∧ x39) ∧ x18) ∧ x19) ∧ x20) ∧ x21) ∧ x22) ∧ x23) ∧ x24) ∧ false = (moreR (ins σ 0)).name.rip) ∧ false = (moreR (ins σ 0)).name.fs) ∧ x25) ∧ x26) ∧ x27) ∧ (x87 = false → (x89 = true → True ∧ Ex.ret = Ex.ret ∧ true = true ∧ ((((((((((((((((((((((((((True ∧ 1 = x90.length
    ∧ x90 = rowsB (moreR (ins σ (0 : Nat))).code) ∧ false = (moreR (ins σ (0 : Nat))).wide) ∧ x29) ∧ x9) ∧ false = (moreR (ins σ (0 : Nat))).hasRm) ∧ x10) ∧ x11) ∧ x12) ∧ x13) ∧ x14) ∧ false = (moreR (ins σ 0)).rm.rip) ∧ false = (moreR (ins σ 0)).rm.fs) ∧ x15) ∧ x16) ∧ x17) ∧ x18) ∧ x19) ∧ x20) ∧
    x21) ∧ x22) ∧ x23) ∧ x24) ∧ false = (moreR (ins σ 0)).name.rip) ∧ false = (moreR (ins σ 0)).name.fs) ∧ x25) ∧ x26) ∧ x27) ∧ (x89 = false → (x91 = true → True ∧ Ex.ret = Ex.ret ∧ true = true ∧ ((((((((((((((((((((((((((True ∧ 1 = x92.length ∧ x92 = rowsB (moreR (ins σ (0 : Nat))).code) ∧ false =
    (moreR (ins σ (0 : Nat))).wide) ∧ x29) ∧ x9) ∧ false = (moreR (ins σ (0 : Nat))).hasRm) ∧ x10) ∧ x11) ∧ x12) ∧ x13) ∧ x14) ∧ false = (moreR (ins σ 0)).rm.rip) ∧ false = (moreR (ins σ 0)).rm.fs) ∧ x15) ∧ x16) ∧ x17) ∧ x18) ∧ x19) ∧ x20) ∧ x21) ∧ x22) ∧ x23) ∧ x24) ∧ false = (moreR (ins σ
    0)).name.rip) ∧ false = (moreR (ins σ 0)).name.fs) ∧ x25) ∧ x26) ∧ x27) ∧ (x91 = false → (x93 = true → True ∧ Ex.ret = Ex.ret ∧ true = true ∧ ((((((((((((((((((((((((((True ∧ (2 : Nat) = x94.length ∧ x94 = rowsB (moreR (ins σ (0 : Nat))).code) ∧ false = (moreR (ins σ (0 : Nat))).wide) ∧ x29) ∧
    x9) ∧ false = (moreR (ins σ (0 : Nat))).hasRm) ∧ x10) ∧ x11) ∧ x12) ∧ x13) ∧ x14) ∧ false = (moreR (ins σ (0 : Nat))).rm.rip) ∧ false = (moreR (ins σ 0)).rm.fs) ∧ x15) ∧ x16) ∧ x17) ∧ x18) ∧ x19) ∧ x20) ∧ x21) ∧ x22) ∧ x23) ∧ x24) ∧ false = (moreR (ins σ 0)).name.rip) ∧ false = (moreR (ins σ
    0)).name.fs) ∧ x25) ∧ x26) ∧ x27) ∧ (x93 = false → (x95 = true → True ∧ Ex.ret = Ex.ret ∧ true = true ∧ ((((((((((((((((((((((((((True ∧ (1 : Nat) = x96.length ∧ x96 = rowsB (moreR (ins σ (0 : Nat))).code) ∧ false = (moreR (ins σ (0 : Nat))).wide) ∧ x29) ∧ x9) ∧ false = (moreR (ins σ (0 :
    Nat))).hasRm) ∧ x10) ∧ x11) ∧ x12) ∧ x13) ∧ x14) ∧ false = (moreR (ins σ (0 : Nat))).rm.rip) ∧ false = (moreR (ins σ (0 : Nat))).rm.fs) ∧ x15) ∧ x16) ∧ x17) ∧ x18) ∧ x19) ∧ x20) ∧ x21) ∧ x22) ∧ x23) ∧ x24) ∧ false = (moreR (ins σ 0)).name.rip) ∧ false = (moreR (ins σ 0)).name.fs) ∧ x25) ∧ x26) ∧
    x27) ∧ (x95 = false → True ∧ Ex.ret = Ex.ret ∧ true = true ∧ ((((((((((((((((((((((((((True ∧ (2 : Nat) = x97.length ∧ x97 = rowsB (moreR (ins σ (0 : Nat))).code) ∧ false = (moreR (ins σ (0 : Nat))).wide) ∧ x29) ∧ x9) ∧ false = (moreR (ins σ (0 : Nat))).hasRm) ∧ x10) ∧ x11) ∧ x12) ∧ x13) ∧ x14)
    ∧ false = (moreR (ins σ (0 : Nat))).rm.rip) ∧ false = (moreR (ins σ (0 : Nat))).rm.fs) ∧ x15) ∧ x16) ∧ x17) ∧ x18) ∧ x19) ∧ x20) ∧ x21) ∧ x22) ∧ x23) ∧ x24) ∧ false = (moreR (ins σ 0)).name.rip) ∧ false = (moreR (ins σ 0)).name.fs) ∧ x25) ∧ x26) ∧ x27))))))))))))))) := by kernel_rfl

theorem row_goal (σ : Dt) (α : At') : (cRow.goal Tryz.prog Lrmore.mk' 3000 Tryz.f18 σ α) = (
let x0 := σ.I 0 == (1 : Int);
let x1 := (Ins.mk (σ.I 0) (σ.I 1) (σ.I 2) (Opd.mk (σ.I 3) (σ.I 4) (σ.I 5) (σ.I 6) (σ.I 7) (σ.B 8) (σ.B 9) (σ.I 10) (σ.S 11) (σ.I 12)) (Opd.mk (σ.I 13) (σ.I 14) (σ.I 15) (σ.I 16) (σ.I
    17) (σ.B 18) (σ.B 19) (σ.I 20) (σ.S 21) (σ.I 22)) (σ.B 23));
let x2 := movR x1;
let x3 := rowsB x2.code;
let x4 := x3.length;
let x5 := x2.rm;
let x6 := x2.name;
let x7 := σ.I 0 == (2 : Int);
let x8 := [[Value.int IntKind.u8 (141 : Int)]];
let x9 := σ.I 1 == (8 : Int);
let x10 := x9 = (rowR (ins σ 0)).wide;
let x11 := (-1 : Int) = (rowR (ins σ 0)).plus;
let x12 := σ.I 4 = (rowR (ins σ 0)).reg;
let x13 := σ.I 13 = (rowR (ins σ 0)).rm.kind;
let x14 := σ.I 14 = (rowR (ins σ 0)).rm.r;
let x15 := σ.I 15 = (rowR (ins σ 0)).rm.base;
let x16 := σ.I 16 = (rowR (ins σ 0)).rm.index;
let x17 := σ.I 17 = (rowR (ins σ 0)).rm.scale;
let x18 := σ.B 18 = (rowR (ins σ 0)).rm.rip;
let x19 := σ.B 19 = (rowR (ins σ 0)).rm.fs;
let x20 := σ.I 20 = (rowR (ins σ 0)).rm.n;
let x21 := σ.S 21 = (rowR (ins σ 0)).rm.name;
let x22 := σ.I 22 = (rowR (ins σ 0)).rm.mod;
let x23 := (0 : Int) = (rowR (ins σ 0)).num;
let x24 := (0 : Int) = (rowR (ins σ 0)).n;
let x25 := (0 : Int) = (rowR (ins σ 0)).name.kind;
let x26 := (0 : Int) = (rowR (ins σ 0)).name.r;
let x27 := (0 : Int) = (rowR (ins σ 0)).name.base;
let x28 := (0 : Int) = (rowR (ins σ 0)).name.index;
let x29 := (0 : Int) = (rowR (ins σ 0)).name.scale;
let x30 := (0 : Int) = (rowR (ins σ 0)).name.n;
let x31 := (ByteArray.mk (#[])) = (rowR (ins σ 0)).name.name;
let x32 := (0 : Int) = (rowR (ins σ 0)).name.mod;
let x33 := σ.I 0 == (3 : Int);
let x34 := σ.I 0 == (4 : Int);
let x35 := σ.I 0 == (5 : Int);
let x36 := σ.I 0 == (6 : Int);
let x37 := σ.I 0 == (7 : Int);
let x38 := σ.I 0 == (8 : Int);
let x39 := σ.I 0 == (9 : Int);
let x40 := bif x33 then x33 else bif x34 then x34 else bif x35 then x35 else bif x36 then x36 else bif x37 then x37 else bif x38 then x38 else bif x39 then x39 else σ.I 0 == (10 : Int);
let x41 := groupR x1;
let x42 := rowsB x41.code;
let x43 := x42.length;
let x44 := x41.rm;
let x45 := x41.name;
let x46 := σ.I 0 == (11 : Int);
let x47 := σ.I 13 == (1 : Int);
let x48 := σ.I 1 == (1 : Int);
let x49 := bif x48 then (246 : Int) else (247 : Int);
let x50 := [[Value.int IntKind.u8 (bif x47 then bif x48 then (132 : Int) else (133 : Int) else bif x48 then x49 else x49)]];
let x51 := σ.I 0 == (12 : Int);
let x52 := [[Value.int IntKind.u8 (15 : Int)], [Value.int IntKind.u8 (175 : Int)]];
let x53 := σ.I 0 == (14 : Int);
let x54 := [[Value.int IntKind.u8 x49]];
let x55 := ((True ∧ 1 = x54.length ∧ x54 = rowsB (rowR (ins σ 0)).code) ∧ x10) ∧ x11;
let x56 := σ.I 3 = (rowR (ins σ 0)).rm.kind;
let x57 := σ.I 4 = (rowR (ins σ 0)).rm.r;
let x58 := σ.I 5 = (rowR (ins σ 0)).rm.base;
let x59 := σ.I 6 = (rowR (ins σ 0)).rm.index;
let x60 := σ.I 7 = (rowR (ins σ 0)).rm.scale;
let x61 := σ.B 8 = (rowR (ins σ 0)).rm.rip;
let x62 := σ.B 9 = (rowR (ins σ 0)).rm.fs;
let x63 := σ.I 10 = (rowR (ins σ 0)).rm.n;
let x64 := σ.S 11 = (rowR (ins σ 0)).rm.name;
let x65 := σ.I 12 = (rowR (ins σ 0)).rm.mod;
let x66 := σ.I 0 == (13 : Int);
let x67 := σ.I 0 == (15 : Int);
let x68 := [[Value.int IntKind.u8 (bif x48 then (254 : Int) else (255 : Int))]];
let x69 := ((True ∧ 1 = x68.length ∧ x68 = rowsB (rowR (ins σ 0)).code) ∧ x10) ∧ x11;
let x70 := σ.I 0 == (16 : Int);
let x71 := σ.I 0 == (17 : Int);
let x72 := [[Value.int IntKind.u8 (bif x47 then bif x48 then (210 : Int) else (211 : Int) else bif x48 then (192 : Int) else (193 : Int))]];
let x73 := ((True ∧ 1 = x72.length ∧ x72 = rowsB (rowR (ins σ 0)).code) ∧ (bif x47 then x9 else x9) = (rowR (ins σ 0)).wide) ∧ x11;
let x74 := (bif x47 then σ.I 3 else σ.I 3) = (rowR (ins σ 0)).rm.kind;
let x75 := (bif x47 then σ.I 4 else σ.I 4) = (rowR (ins σ 0)).rm.r;
let x76 := (bif x47 then σ.I 5 else σ.I 5) = (rowR (ins σ 0)).rm.base;
let x77 := (bif x47 then σ.I 6 else σ.I 6) = (rowR (ins σ 0)).rm.index;
let x78 := (bif x47 then σ.I 7 else σ.I 7) = (rowR (ins σ 0)).rm.scale;
let x79 := (bif x47 then σ.B 8 else σ.B 8) = (rowR (ins σ 0)).rm.rip;
let x80 := (bif x47 then σ.B 9 else σ.B 9) = (rowR (ins σ 0)).rm.fs;
let x81 := (bif x47 then σ.I 10 else σ.I 10) = (rowR (ins σ 0)).rm.n;
let x82 := (bif x47 then σ.S 11 else σ.S 11) = (rowR (ins σ 0)).rm.name;
let x83 := (bif x47 then σ.I 12 else σ.I 12) = (rowR (ins σ 0)).rm.mod;
let x84 := (bif x47 then (0 : Int) else (1 : Int)) = (rowR (ins σ 0)).num;
let x85 := (bif x47 then (0 : Int) else σ.I 20) = (rowR (ins σ 0)).n;
let x86 := σ.I 0 == (18 : Int);
let x87 := σ.I 0 == (19 : Int);
let x88 := moreR x1;
let x89 := rowsB x88.code;
let x90 := x89.length;
let x91 := x88.rm;
let x92 := x88.name;
(x0 = true → (True ∧ True) ∧ True ∧ Ex.ret = Ex.ret ∧ true = true ∧ ((((((((((((((((((((((((((True ∧ x4 = x4 ∧ x3 = rowsB (rowR (ins σ 0)).code) ∧ x2.wide = (rowR (ins σ 0)).wide) ∧ x2.plus = (rowR (ins σ 0)).plus) ∧ x2.reg = (rowR (ins σ 0)).reg) ∧ x2.hasRm = (rowR (ins σ 0)).hasRm) ∧ x5.kind =
    (rowR (ins σ 0)).rm.kind) ∧ x5.r = (rowR (ins σ 0)).rm.r) ∧ x5.base = (rowR (ins σ 0)).rm.base) ∧ x5.index = (rowR (ins σ 0)).rm.index) ∧ x5.scale = (rowR (ins σ 0)).rm.scale) ∧ x5.rip = (rowR (ins σ 0)).rm.rip) ∧ x5.fs = (rowR (ins σ 0)).rm.fs) ∧ x5.n = (rowR (ins σ 0)).rm.n) ∧ x5.name = (rowR
    (ins σ 0)).rm.name) ∧ x5.mod = (rowR (ins σ 0)).rm.mod) ∧ x2.num = (rowR (ins σ 0)).num) ∧ x2.n = (rowR (ins σ 0)).n) ∧ x6.kind = (rowR (ins σ 0)).name.kind) ∧ x6.r = (rowR (ins σ 0)).name.r) ∧ x6.base = (rowR (ins σ 0)).name.base) ∧ x6.index = (rowR (ins σ 0)).name.index) ∧ x6.scale = (rowR
    (ins σ 0)).name.scale) ∧ x6.rip = (rowR (ins σ 0)).name.rip) ∧ x6.fs = (rowR (ins σ 0)).name.fs) ∧ x6.n = (rowR (ins σ 0)).name.n) ∧ x6.name = (rowR (ins σ 0)).name.name) ∧ x6.mod = (rowR (ins σ 0)).name.mod) ∧ (x0 = false → (x7 = true → True ∧ Ex.ret = Ex.ret ∧ true = true ∧
    ((((((((((((((((((((((((((True ∧ 1 = x8.length ∧ x8 = rowsB (rowR (ins σ 0)).code) ∧ x10) ∧ x11) ∧ x12) ∧ true = (rowR (ins σ 0)).hasRm) ∧ x13) ∧ x14) ∧ x15) ∧ x16) ∧ x17) ∧ x18) ∧ x19) ∧ x20) ∧ x21) ∧ x22) ∧ x23) ∧ x24) ∧ x25) ∧ x26) ∧ x27) ∧ x28) ∧ x29) ∧ false = (rowR (ins σ 0)).name.rip) ∧
    false = (rowR (ins σ 0)).name.fs) ∧ x30) ∧ x31) ∧ x32) ∧ (x7 = false → (x40 = true → (True ∧ (3 : Int) ≤ σ.I 0 ∧ σ.I 0 ≤ (10 : Int)) ∧ True ∧ Ex.ret = Ex.ret ∧ true = true ∧ ((((((((((((((((((((((((((True ∧ x43 = x43 ∧ x42 = rowsB (rowR (ins σ 0)).code) ∧ x41.wide = (rowR (ins σ 0)).wide) ∧
    x41.plus = (rowR (ins σ 0)).plus) ∧ x41.reg = (rowR (ins σ 0)).reg) ∧ x41.hasRm = (rowR (ins σ 0)).hasRm) ∧ x44.kind = (rowR (ins σ 0)).rm.kind) ∧ x44.r = (rowR (ins σ 0)).rm.r) ∧ x44.base = (rowR (ins σ 0)).rm.base) ∧ x44.index = (rowR (ins σ 0)).rm.index) ∧ x44.scale = (rowR (ins σ
    0)).rm.scale) ∧ x44.rip = (rowR (ins σ 0)).rm.rip) ∧ x44.fs = (rowR (ins σ 0)).rm.fs) ∧ x44.n = (rowR (ins σ 0)).rm.n) ∧ x44.name = (rowR (ins σ 0)).rm.name) ∧ x44.mod = (rowR (ins σ 0)).rm.mod) ∧ x41.num = (rowR (ins σ 0)).num) ∧ x41.n = (rowR (ins σ 0)).n) ∧ x45.kind = (rowR (ins σ
    0)).name.kind) ∧ x45.r = (rowR (ins σ 0)).name.r) ∧ x45.base = (rowR (ins σ 0)).name.base) ∧ x45.index = (rowR (ins σ 0)).name.index) ∧ x45.scale = (rowR (ins σ 0)).name.scale) ∧ x45.rip = (rowR (ins σ 0)).name.rip) ∧ x45.fs = (rowR (ins σ 0)).name.fs) ∧ x45.n = (rowR (ins σ 0)).name.n) ∧
    x45.name = (rowR (ins σ 0)).name.name) ∧ x45.mod = (rowR (ins σ 0)).name.mod) ∧ (x40 = false → (x46 = true → True ∧ Ex.ret = Ex.ret ∧ true = true ∧ ((((((((((((((((((((((((((True ∧ 1 = x50.length ∧ x50 = rowsB (rowR (ins σ 0)).code) ∧ (bif x47 then x9 else bif x48 then x9 else x9) = (rowR (ins σ
    0)).wide) ∧ x11) ∧ (bif x47 then σ.I 14 else (0 : Int)) = (rowR (ins σ 0)).reg) ∧ true = (rowR (ins σ 0)).hasRm) ∧ (bif x47 then σ.I 3 else bif x48 then σ.I 3 else σ.I 3) = (rowR (ins σ 0)).rm.kind) ∧ (bif x47 then σ.I 4 else bif x48 then σ.I 4 else σ.I 4) = (rowR (ins σ 0)).rm.r) ∧ (bif x47
    then σ.I 5 else bif x48 then σ.I 5 else σ.I 5) = (rowR (ins σ 0)).rm.base) ∧ (bif x47 then σ.I 6 else bif x48 then σ.I 6 else σ.I 6) = (rowR (ins σ 0)).rm.index) ∧ (bif x47 then σ.I 7 else bif x48 then σ.I 7 else σ.I 7) = (rowR (ins σ 0)).rm.scale) ∧ (bif x47 then σ.B 8 else bif x48 then σ.B 8
    else σ.B 8) = (rowR (ins σ 0)).rm.rip) ∧ (bif x47 then σ.B 9 else bif x48 then σ.B 9 else σ.B 9) = (rowR (ins σ 0)).rm.fs) ∧ (bif x47 then σ.I 10 else bif x48 then σ.I 10 else σ.I 10) = (rowR (ins σ 0)).rm.n) ∧ (bif x47 then σ.S 11 else bif x48 then σ.S 11 else σ.S 11) = (rowR (ins σ
    0)).rm.name) ∧ (bif x47 then σ.I 12 else bif x48 then σ.I 12 else σ.I 12) = (rowR (ins σ 0)).rm.mod) ∧ (bif x47 then (0 : Int) else bif x48 then (1 : Int) else (4 : Int)) = (rowR (ins σ 0)).num) ∧ (bif x47 then (0 : Int) else bif x48 then σ.I 20 else σ.I 20) = (rowR (ins σ 0)).n) ∧ x25) ∧ x26) ∧
    x27) ∧ x28) ∧ x29) ∧ false = (rowR (ins σ 0)).name.rip) ∧ false = (rowR (ins σ 0)).name.fs) ∧ x30) ∧ x31) ∧ x32) ∧ (x46 = false → (x51 = true → True ∧ Ex.ret = Ex.ret ∧ true = true ∧ ((((((((((((((((((((((((((True ∧ 2 = x52.length ∧ x52 = rowsB (rowR (ins σ 0)).code) ∧ x10) ∧ x11) ∧ x12) ∧ true
    = (rowR (ins σ 0)).hasRm) ∧ x13) ∧ x14) ∧ x15) ∧ x16) ∧ x17) ∧ x18) ∧ x19) ∧ x20) ∧ x21) ∧ x22) ∧ x23) ∧ x24) ∧ x25) ∧ x26) ∧ x27) ∧ x28) ∧ x29) ∧ false = (rowR (ins σ 0)).name.rip) ∧ false = (rowR (ins σ 0)).name.fs) ∧ x30) ∧ x31) ∧ x32) ∧ (x51 = false → (x53 = true → True ∧ Ex.ret = Ex.ret ∧
    true = true ∧ (((((((((((((((((((((((x55 ∧ (2 : Int) = (rowR (ins σ 0)).reg) ∧ true = (rowR (ins σ 0)).hasRm) ∧ x56) ∧ x57) ∧ x58) ∧ x59) ∧ x60) ∧ x61) ∧ x62) ∧ x63) ∧ x64) ∧ x65) ∧ x23) ∧ x24) ∧ x25) ∧ x26) ∧ x27) ∧ x28) ∧ x29) ∧ false = (rowR (ins σ 0)).name.rip) ∧ false = (rowR (ins σ
    0)).name.fs) ∧ x30) ∧ x31) ∧ x32) ∧ (x53 = false → (x66 = true → True ∧ Ex.ret = Ex.ret ∧ true = true ∧ (((((((((((((((((((((((x55 ∧ (3 : Int) = (rowR (ins σ 0)).reg) ∧ true = (rowR (ins σ 0)).hasRm) ∧ x56) ∧ x57) ∧ x58) ∧ x59) ∧ x60) ∧ x61) ∧ x62) ∧ x63) ∧ x64) ∧ x65) ∧ x23) ∧ x24) ∧ x25) ∧
    x26) ∧ x27) ∧ x28) ∧ x29) ∧ false = (rowR (ins σ 0)).name.rip) ∧ false = (rowR (ins σ 0)).name.fs) ∧ x30) ∧ x31) ∧ x32) ∧ (x66 = false → (x67 = true → True ∧ Ex.ret = Ex.ret ∧ true = true ∧ (((((((((((((((((((((((x69 ∧ (0 : Int) = (rowR (ins σ 0)).reg) ∧ true = (rowR (ins σ 0)).hasRm) ∧ x56) ∧
    x57) ∧ x58) ∧ x59) ∧ x60) ∧ x61) ∧ x62) ∧ x63) ∧ x64) ∧ x65) ∧ x23) ∧ x24) ∧ x25) ∧ x26) ∧ x27) ∧ x28) ∧ x29) ∧ false = (rowR (ins σ 0)).name.rip) ∧ false = (rowR (ins σ 0)).name.fs) ∧ x30) ∧ x31) ∧ x32) ∧ (x67 = false → (x70 = true → True ∧ Ex.ret = Ex.ret ∧ true = true ∧
    (((((((((((((((((((((((x69 ∧ (1 : Int) = (rowR (ins σ 0)).reg) ∧ true = (rowR (ins σ 0)).hasRm) ∧ x56) ∧ x57) ∧ x58) ∧ x59) ∧ x60) ∧ x61) ∧ x62) ∧ x63) ∧ x64) ∧ x65) ∧ x23) ∧ x24) ∧ x25) ∧ x26) ∧ x27) ∧ x28) ∧ x29) ∧ false = (rowR (ins σ 0)).name.rip) ∧ false = (rowR (ins σ 0)).name.fs) ∧ x30) ∧
    x31) ∧ x32) ∧ (x70 = false → (x71 = true → True ∧ Ex.ret = Ex.ret ∧ true = true ∧ (((((((((((((((((((((((x73 ∧ (4 : Int) = (rowR (ins σ 0)).reg) ∧ true = (rowR (ins σ 0)).hasRm) ∧ x74) ∧ x75) ∧ x76) ∧ x77) ∧ x78) ∧ x79) ∧ x80) ∧ x81) ∧ x82) ∧ x83) ∧ x84) ∧ x85) ∧ x25) ∧ x26) ∧ x27) ∧ x28) ∧ x29)
    ∧ false = (rowR (ins σ 0)).name.rip) ∧ false = (rowR (ins σ 0)).name.fs) ∧ x30) ∧ x31) ∧ x32) ∧ (x71 = false → (x86 = true → True ∧ Ex.ret = Ex.ret ∧ true = true ∧ (((((((((((((((((((((((x73 ∧ (5 : Int) = (rowR (ins σ (0 : Nat))).reg) ∧ true = (rowR (ins σ (0 : Nat))).hasRm) ∧ x74) ∧ x75) ∧ x76)
    ∧ x77) ∧ x78) ∧ x79) ∧ x80) ∧ x81) ∧ x82) ∧ x83) ∧ x84) ∧ x85) ∧ x25) ∧ x26) ∧ x27) ∧ x28) ∧ x29) ∧ false = (rowR (ins σ 0)).name.rip) ∧ false = (rowR (ins σ 0)).name.fs) ∧ x30) ∧ x31) ∧ x32) ∧ (x86 = false → (x87 = true → True ∧ Ex.ret = Ex.ret ∧ true = true ∧ (((((((((((((((((((((((x73 ∧ (7 :
    Int) = (rowR (ins σ (0 : Nat))).reg) ∧ true = (rowR (ins σ (0 : Nat))).hasRm) ∧ x74) ∧ x75) ∧ x76) ∧ x77) ∧ x78) ∧ x79) ∧ x80) ∧ x81) ∧ x82) ∧ x83) ∧ x84) ∧ x85) ∧ x25) ∧ x26) ∧ x27) ∧ x28) ∧ x29) ∧ false = (rowR (ins σ 0)).name.rip) ∧ false = (rowR (ins σ 0)).name.fs) ∧ x30) ∧ x31) ∧ x32) ∧
    (x87 = false → (True ∧ (0 : Int) ≤ σ.I 2 ∧ σ.I 2 ≤ (15 : Int)) ∧ True ∧ Ex.ret = Ex.ret ∧ true = true ∧ ((((((((((((((((((((((((((True ∧ x90 = x90 ∧ x89 = rowsB (rowR (ins σ (0 : Nat))).code) ∧ x88.wide = (rowR (ins σ (0 : Nat))).wide) ∧ x88.plus = (rowR (ins σ (0 : Nat))).plus) ∧ x88.reg =
    (rowR (ins σ (0 : Nat))).reg) ∧ x88.hasRm = (rowR (ins σ (0 : Nat))).hasRm) ∧ x91.kind = (rowR (ins σ (0 : Nat))).rm.kind) ∧ x91.r = (rowR (ins σ (0 : Nat))).rm.r) ∧ x91.base = (rowR (ins σ (0 : Nat))).rm.base) ∧ x91.index = (rowR (ins σ (0 : Nat))).rm.index) ∧ x91.scale = (rowR (ins σ (0 :
    Nat))).rm.scale) ∧ x91.rip = (rowR (ins σ (0 : Nat))).rm.rip) ∧ x91.fs = (rowR (ins σ 0)).rm.fs) ∧ x91.n = (rowR (ins σ 0)).rm.n) ∧ x91.name = (rowR (ins σ 0)).rm.name) ∧ x91.mod = (rowR (ins σ 0)).rm.mod) ∧ x88.num = (rowR (ins σ 0)).num) ∧ x88.n = (rowR (ins σ 0)).n) ∧ x92.kind = (rowR (ins σ
    0)).name.kind) ∧ x92.r = (rowR (ins σ 0)).name.r) ∧ x92.base = (rowR (ins σ 0)).name.base) ∧ x92.index = (rowR (ins σ 0)).name.index) ∧ x92.scale = (rowR (ins σ 0)).name.scale) ∧ x92.rip = (rowR (ins σ 0)).name.rip) ∧ x92.fs = (rowR (ins σ 0)).name.fs) ∧ x92.n = (rowR (ins σ 0)).name.n) ∧
    x92.name = (rowR (ins σ 0)).name.name) ∧ x92.mod = (rowR (ins σ 0)).name.mod))))))))))))) := by kernel_rfl

end Go.Proofs.YthmighgfefjcmaaGreat.Enc
end

section
/- Written by vc.py: what is to be shown, read out. No condition. -/
set_option maxRecDepth 1000000
set_option maxHeartbeats 0
namespace Go.Proofs.YthmighgfefjcmaaGreat.Enc
open Go.RowKit Go.Proofs.YthmighgfefjcmaaGreat.X
theorem mov_goal (σ : Dt) (α : At') : (cMov.goal Tryz.prog Lrchk.mk' 2000 Tryz.f43 σ α) = (
let x0 := σ.I 13 == (1 : Int);
let x1 := σ.I 1 == (1 : Int);
let x2 := [[Value.int IntKind.u8 (bif x1 then (136 : Int) else (137 : Int))]];
let x3 := σ.I 1 == (8 : Int);
let x4 := x3 = (movR (ins σ 0)).wide;
let x5 := (-1 : Int) = (movR (ins σ 0)).plus;
let x6 := (0 : Int) = (movR (ins σ 0)).num;
let x7 := (0 : Int) = (movR (ins σ 0)).n;
let x8 := (0 : Int) = (movR (ins σ 0)).name.kind;
let x9 := (0 : Int) = (movR (ins σ 0)).name.r;
let x10 := (0 : Int) = (movR (ins σ 0)).name.base;
let x11 := (0 : Int) = (movR (ins σ 0)).name.index;
let x12 := (0 : Int) = (movR (ins σ 0)).name.scale;
let x13 := (0 : Int) = (movR (ins σ 0)).name.n;
let x14 := (ByteArray.mk (#[])) = (movR (ins σ 0)).name.name;
let x15 := (0 : Int) = (movR (ins σ 0)).name.mod;
let x16 := σ.I 13 == (3 : Int);
let x17 := [[Value.int IntKind.u8 (bif x1 then (138 : Int) else (139 : Int))]];
let x18 := σ.I 3 == (1 : Int);
let x19 := bif x18 then !x3 else false;
let x20 := bif x1 then (176 : Int) else (184 : Int);
let x21 := [[Value.int IntKind.u8 (bif x1 then x20 else x20)]];
let x22 := bif x1 then σ.I 4 else σ.I 4;
let x23 := (0 : Int) = (movR (ins σ 0)).reg;
let x24 := (0 : Int) = (movR (ins σ 0)).rm.kind;
let x25 := (0 : Int) = (movR (ins σ 0)).rm.r;
let x26 := (0 : Int) = (movR (ins σ 0)).rm.base;
let x27 := (0 : Int) = (movR (ins σ 0)).rm.index;
let x28 := (0 : Int) = (movR (ins σ 0)).rm.scale;
let x29 := (0 : Int) = (movR (ins σ 0)).rm.n;
let x30 := (ByteArray.mk (#[])) = (movR (ins σ 0)).rm.name;
let x31 := (0 : Int) = (movR (ins σ 0)).rm.mod;
let x32 := (bif x1 then (1 : Int) else (4 : Int)) = (movR (ins σ 0)).num;
let x33 := (bif x1 then σ.I 20 else σ.I 20) = (movR (ins σ 0)).n;
let x34 := !bif decide (σ.I 20 ≥ (-2147483648 : Int)) then decide (σ.I 20 < (2147483648 : Int)) else false;
let x35 := [[Value.int IntKind.u8 (184 : Int)]];
let x36 := bif x1 then (198 : Int) else (199 : Int);
let x37 := [[Value.int IntKind.u8 (bif x1 then x36 else x36)]];
let x38 := True ∧ Ex.ret = Ex.ret ∧ true = true ∧ ((((((((((((((((((((((((((True ∧ 1 = x37.length ∧ x37 = rowsB (movR (ins σ 0)).code) ∧ (bif x1 then x3 else x3) = (movR (ins σ 0)).wide) ∧ x5) ∧ x23) ∧ true = (movR (ins σ 0)).hasRm) ∧ (bif x1 then σ.I 3 else σ.I 3) = (movR (ins σ 0)).rm.kind) ∧ x22
    = (movR (ins σ 0)).rm.r) ∧ (bif x1 then σ.I 5 else σ.I 5) = (movR (ins σ 0)).rm.base) ∧ (bif x1 then σ.I 6 else σ.I 6) = (movR (ins σ 0)).rm.index) ∧ (bif x1 then σ.I 7 else σ.I 7) = (movR (ins σ 0)).rm.scale) ∧ (bif x1 then σ.B 8 else σ.B 8) = (movR (ins σ 0)).rm.rip) ∧ (bif x1 then σ.B 9 else
    σ.B 9) = (movR (ins σ 0)).rm.fs) ∧ (bif x1 then σ.I 10 else σ.I 10) = (movR (ins σ 0)).rm.n) ∧ (bif x1 then σ.S 11 else σ.S 11) = (movR (ins σ 0)).rm.name) ∧ (bif x1 then σ.I 12 else σ.I 12) = (movR (ins σ 0)).rm.mod) ∧ x32) ∧ x33) ∧ x8) ∧ x9) ∧ x10) ∧ x11) ∧ x12) ∧ false = (movR (ins σ
    0)).name.rip) ∧ false = (movR (ins σ 0)).name.fs) ∧ x13) ∧ x14) ∧ x15;
(x0 = true → True ∧ Ex.ret = Ex.ret ∧ true = true ∧ ((((((((((((((((((((((((((True ∧ 1 = x2.length ∧ x2 = rowsB (movR (ins σ 0)).code) ∧ x4) ∧ x5) ∧ σ.I 14 = (movR (ins σ 0)).reg) ∧ true = (movR (ins σ 0)).hasRm) ∧ σ.I 3 = (movR (ins σ 0)).rm.kind) ∧ σ.I 4 = (movR (ins σ 0)).rm.r) ∧ σ.I 5 = (movR
    (ins σ 0)).rm.base) ∧ σ.I 6 = (movR (ins σ 0)).rm.index) ∧ σ.I 7 = (movR (ins σ 0)).rm.scale) ∧ σ.B 8 = (movR (ins σ 0)).rm.rip) ∧ σ.B 9 = (movR (ins σ 0)).rm.fs) ∧ σ.I 10 = (movR (ins σ 0)).rm.n) ∧ σ.S 11 = (movR (ins σ 0)).rm.name) ∧ σ.I 12 = (movR (ins σ 0)).rm.mod) ∧ x6) ∧ x7) ∧ x8) ∧ x9) ∧
    x10) ∧ x11) ∧ x12) ∧ false = (movR (ins σ 0)).name.rip) ∧ false = (movR (ins σ 0)).name.fs) ∧ x13) ∧ x14) ∧ x15) ∧ (x0 = false → (x16 = true → True ∧ Ex.ret = Ex.ret ∧ true = true ∧ ((((((((((((((((((((((((((True ∧ 1 = x17.length ∧ x17 = rowsB (movR (ins σ 0)).code) ∧ x4) ∧ x5) ∧ σ.I 4 = (movR
    (ins σ 0)).reg) ∧ true = (movR (ins σ 0)).hasRm) ∧ σ.I 13 = (movR (ins σ 0)).rm.kind) ∧ σ.I 14 = (movR (ins σ 0)).rm.r) ∧ σ.I 15 = (movR (ins σ 0)).rm.base) ∧ σ.I 16 = (movR (ins σ 0)).rm.index) ∧ σ.I 17 = (movR (ins σ 0)).rm.scale) ∧ σ.B 18 = (movR (ins σ 0)).rm.rip) ∧ σ.B 19 = (movR (ins σ
    0)).rm.fs) ∧ σ.I 20 = (movR (ins σ 0)).rm.n) ∧ σ.S 21 = (movR (ins σ 0)).rm.name) ∧ σ.I 22 = (movR (ins σ 0)).rm.mod) ∧ x6) ∧ x7) ∧ x8) ∧ x9) ∧ x10) ∧ x11) ∧ x12) ∧ false = (movR (ins σ 0)).name.rip) ∧ false = (movR (ins σ 0)).name.fs) ∧ x13) ∧ x14) ∧ x15) ∧ (x16 = false → (x19 = true → True ∧
    Ex.ret = Ex.ret ∧ true = true ∧ ((((((((((((((((((((((((((True ∧ 1 = x21.length ∧ x21 = rowsB (movR (ins σ 0)).code) ∧ false = (movR (ins σ 0)).wide) ∧ x22 = (movR (ins σ 0)).plus) ∧ x23) ∧ false = (movR (ins σ 0)).hasRm) ∧ x24) ∧ x25) ∧ x26) ∧ x27) ∧ x28) ∧ false = (movR (ins σ 0)).rm.rip) ∧
    false = (movR (ins σ 0)).rm.fs) ∧ x29) ∧ x30) ∧ x31) ∧ x32) ∧ x33) ∧ x8) ∧ x9) ∧ x10) ∧ x11) ∧ x12) ∧ false = (movR (ins σ 0)).name.rip) ∧ false = (movR (ins σ 0)).name.fs) ∧ x13) ∧ x14) ∧ x15) ∧ (x19 = false → (x18 = true → (x34 = true → True ∧ Ex.ret = Ex.ret ∧ true = true ∧
    ((((((((((((((((((((((((((True ∧ 1 = x35.length ∧ x35 = rowsB (movR (ins σ 0)).code) ∧ true = (movR (ins σ 0)).wide) ∧ σ.I 4 = (movR (ins σ 0)).plus) ∧ x23) ∧ false = (movR (ins σ 0)).hasRm) ∧ x24) ∧ x25) ∧ x26) ∧ x27) ∧ x28) ∧ false = (movR (ins σ 0)).rm.rip) ∧ false = (movR (ins σ 0)).rm.fs) ∧
    x29) ∧ x30) ∧ x31) ∧ (8 : Int) = (movR (ins σ 0)).num) ∧ σ.I 20 = (movR (ins σ 0)).n) ∧ x8) ∧ x9) ∧ x10) ∧ x11) ∧ x12) ∧ false = (movR (ins σ 0)).name.rip) ∧ false = (movR (ins σ 0)).name.fs) ∧ x13) ∧ x14) ∧ x15) ∧ (x34 = false → x38)) ∧ (x18 = false → x38))))) := by kernel_rfl

theorem rgrp_goal (σ : Dt) (α : At') : (cGroupR.goal Tryz.prog Lrmov.mk' 2000 Tryz.f45 σ α) = (
let x0 := σ.I 13 == (1 : Int);
let x1 := σ.I 1 == (1 : Int);
let x2 := IntKind.u8.wrap (IntKind.i64.wrap (σ.I 0 - (3 : Int)));
let x3 := IntKind.u8.wrap ((8 : Int) * x2);
let x4 := [[Value.int IntKind.u8 (bif x1 then x3 else IntKind.u8.wrap (x3 + (1 : Int)))]];
let x5 := (σ.I 1 == (8 : Int)) = (groupR (ins σ 0)).wide;
let x6 := (-1 : Int) = (groupR (ins σ 0)).plus;
let x7 := σ.I 3 = (groupR (ins σ 0)).rm.kind;
let x8 := σ.I 4 = (groupR (ins σ 0)).rm.r;
let x9 := σ.I 5 = (groupR (ins σ 0)).rm.base;
let x10 := σ.I 6 = (groupR (ins σ 0)).rm.index;
let x11 := σ.I 7 = (groupR (ins σ 0)).rm.scale;
let x12 := σ.B 8 = (groupR (ins σ 0)).rm.rip;
let x13 := σ.B 9 = (groupR (ins σ 0)).rm.fs;
let x14 := σ.I 10 = (groupR (ins σ 0)).rm.n;
let x15 := σ.S 11 = (groupR (ins σ 0)).rm.name;
let x16 := σ.I 12 = (groupR (ins σ 0)).rm.mod;
let x17 := (0 : Int) = (groupR (ins σ 0)).num;
let x18 := (0 : Int) = (groupR (ins σ 0)).n;
let x19 := (0 : Int) = (groupR (ins σ 0)).name.kind;
let x20 := (0 : Int) = (groupR (ins σ 0)).name.r;
let x21 := (0 : Int) = (groupR (ins σ 0)).name.base;
let x22 := (0 : Int) = (groupR (ins σ 0)).name.index;
let x23 := (0 : Int) = (groupR (ins σ 0)).name.scale;
let x24 := (0 : Int) = (groupR (ins σ 0)).name.n;
let x25 := (ByteArray.mk (#[])) = (groupR (ins σ 0)).name.name;
let x26 := (0 : Int) = (groupR (ins σ 0)).name.mod;
let x27 := σ.I 13 == (3 : Int);
let x28 := [[Value.int IntKind.u8 (bif x1 then IntKind.u8.wrap (x3 + (2 : Int)) else IntKind.u8.wrap (x3 + (3 : Int)))]];
let x29 := σ.I 1 != (1 : Int);
let x31 := bif σ.I 1 == (4 : Int) then IntKind.i64.wrap (IntKind.i32.wrap (IntKind.u32.wrap (σ.I 20))) else σ.I 20;
let x32 := bif decide (x31 ≥ (-128 : Int)) then decide (x31 ≤ (127 : Int)) else false;
let x33 := [[Value.int IntKind.u8 (131 : Int)]];
let x34 := IntKind.i64.wrap x2 = (groupR (ins σ 0)).reg;
let x35 := (1 : Int) = (groupR (ins σ 0)).num;
let x36 := x31 = (groupR (ins σ 0)).n;
let x38 := [[Value.int IntKind.u8 (bif x1 then (128 : Int) else (129 : Int))]];
let x39 := ((((((((((((((True ∧ 1 = x38.length ∧ x38 = rowsB (groupR (ins σ 0)).code) ∧ x5) ∧ x6) ∧ x34) ∧ true = (groupR (ins σ 0)).hasRm) ∧ x7) ∧ x8) ∧ x9) ∧ x10) ∧ x11) ∧ x12) ∧ x13) ∧ x14) ∧ x15) ∧ x16;
let x40 := True ∧ Ex.ret = Ex.ret ∧ true = true ∧ (((((((((((x39 ∧ x35) ∧ x36) ∧ x19) ∧ x20) ∧ x21) ∧ x22) ∧ x23) ∧ false = (groupR (ins σ 0)).name.rip) ∧ false = (groupR (ins σ 0)).name.fs) ∧ x24) ∧ x25) ∧ x26;
let x42 := True ∧ Ex.ret = Ex.ret ∧ true = true ∧ (((((((((((x39 ∧ (4 : Int) = (groupR (ins σ 0)).num) ∧ x36) ∧ x19) ∧ x20) ∧ x21) ∧ x22) ∧ x23) ∧ false = (groupR (ins σ 0)).name.rip) ∧ false = (groupR (ins σ 0)).name.fs) ∧ x24) ∧ x25) ∧ x26;
(x0 = true → True ∧ Ex.ret = Ex.ret ∧ true = true ∧ ((((((((((((((((((((((((((True ∧ 1 = x4.length ∧ x4 = rowsB (groupR (ins σ 0)).code) ∧ x5) ∧ x6) ∧ σ.I 14 = (groupR (ins σ 0)).reg) ∧ true = (groupR (ins σ 0)).hasRm) ∧ x7) ∧ x8) ∧ x9) ∧ x10) ∧ x11) ∧ x12) ∧ x13) ∧ x14) ∧ x15) ∧ x16) ∧ x17) ∧ x18)
    ∧ x19) ∧ x20) ∧ x21) ∧ x22) ∧ x23) ∧ false = (groupR (ins σ 0)).name.rip) ∧ false = (groupR (ins σ 0)).name.fs) ∧ x24) ∧ x25) ∧ x26) ∧ (x0 = false → (x27 = true → True ∧ Ex.ret = Ex.ret ∧ true = true ∧ ((((((((((((((((((((((((((True ∧ 1 = x28.length ∧ x28 = rowsB (groupR (ins σ 0)).code) ∧ x5) ∧
    x6) ∧ σ.I 4 = (groupR (ins σ 0)).reg) ∧ true = (groupR (ins σ 0)).hasRm) ∧ σ.I 13 = (groupR (ins σ 0)).rm.kind) ∧ σ.I 14 = (groupR (ins σ 0)).rm.r) ∧ σ.I 15 = (groupR (ins σ 0)).rm.base) ∧ σ.I 16 = (groupR (ins σ 0)).rm.index) ∧ σ.I 17 = (groupR (ins σ 0)).rm.scale) ∧ σ.B 18 = (groupR (ins σ
    0)).rm.rip) ∧ σ.B 19 = (groupR (ins σ 0)).rm.fs) ∧ σ.I 20 = (groupR (ins σ 0)).rm.n) ∧ σ.S 21 = (groupR (ins σ 0)).rm.name) ∧ σ.I 22 = (groupR (ins σ 0)).rm.mod) ∧ x17) ∧ x18) ∧ x19) ∧ x20) ∧ x21) ∧ x22) ∧ x23) ∧ false = (groupR (ins σ 0)).name.rip) ∧ false = (groupR (ins σ 0)).name.fs) ∧ x24) ∧
    x25) ∧ x26) ∧ (x27 = false → (x1 = true → (x29 = true → (x32 = true → True ∧ Ex.ret = Ex.ret ∧ true = true ∧ ((((((((((((((((((((((((((True ∧ 1 = x33.length ∧ x33 = rowsB (groupR (ins σ 0)).code) ∧ x5) ∧ x6) ∧ x34) ∧ true = (groupR (ins σ 0)).hasRm) ∧ x7) ∧ x8) ∧ x9) ∧ x10) ∧ x11) ∧ x12) ∧ x13) ∧ x14)
    ∧ x15) ∧ x16) ∧ x35) ∧ x36) ∧ x19) ∧ x20) ∧ x21) ∧ x22) ∧ x23) ∧ false = (groupR (ins σ 0)).name.rip) ∧ false = (groupR (ins σ 0)).name.fs) ∧ x24) ∧ x25) ∧ x26) ∧ (x32 = false → x40)) ∧ (x29 = false → x40)) ∧ (x1 = false → (x29 = true → (x32 = true → True ∧ Ex.ret = Ex.ret ∧ true = true ∧
    ((((((((((((((((((((((((((True ∧ 1 = x33.length ∧ x33 = rowsB (groupR (ins σ 0)).code) ∧ x5) ∧ x6) ∧ x34) ∧ true = (groupR (ins σ 0)).hasRm) ∧ x7) ∧ x8) ∧ x9) ∧ x10) ∧ x11) ∧ x12) ∧ x13) ∧ x14) ∧ x15) ∧ x16) ∧ x35) ∧ x36) ∧ x19) ∧ x20) ∧ x21) ∧ x22) ∧ x23) ∧ false = (groupR (ins σ 0)).name.rip)
    ∧ false = (groupR (ins σ 0)).name.fs) ∧ x24) ∧ x25) ∧ x26) ∧ (x32 = false → x42)) ∧ (x29 = false → x42))))) := by kernel_rfl

theorem rpush_goal (σ : Dt) (α : At') : (cPushR.goal Tryz.prog Lrgrp.mk' 2000 Tryz.f92 σ α) = (
let x0 := σ.I 13 == (1 : Int);
let x1 := [[Value.int IntKind.u8 (80 : Int)]];
let x2 := (0 : Int) = (pushR (ins σ 0)).reg;
let x3 := (0 : Int) = (pushR (ins σ 0)).rm.kind;
let x4 := (0 : Int) = (pushR (ins σ 0)).rm.r;
let x5 := (0 : Int) = (pushR (ins σ 0)).rm.base;
let x6 := (0 : Int) = (pushR (ins σ 0)).rm.index;
let x7 := (0 : Int) = (pushR (ins σ 0)).rm.scale;
let x8 := (0 : Int) = (pushR (ins σ 0)).rm.n;
let x9 := (ByteArray.mk (#[])) = (pushR (ins σ 0)).rm.name;
let x10 := (0 : Int) = (pushR (ins σ 0)).rm.mod;
let x11 := (0 : Int) = (pushR (ins σ 0)).num;
let x12 := (0 : Int) = (pushR (ins σ 0)).n;
let x13 := (0 : Int) = (pushR (ins σ 0)).name.kind;
let x14 := (0 : Int) = (pushR (ins σ 0)).name.r;
let x15 := (0 : Int) = (pushR (ins σ 0)).name.base;
let x16 := (0 : Int) = (pushR (ins σ 0)).name.index;
let x17 := (0 : Int) = (pushR (ins σ 0)).name.scale;
let x18 := (0 : Int) = (pushR (ins σ 0)).name.n;
let x19 := (ByteArray.mk (#[])) = (pushR (ins σ 0)).name.name;
let x20 := (0 : Int) = (pushR (ins σ 0)).name.mod;
let x21 := σ.I 13 == (3 : Int);
let x22 := [[Value.int IntKind.u8 (255 : Int)]];
let x23 := (-1 : Int) = (pushR (ins σ 0)).plus;
let x24 := bif decide (σ.I 20 ≥ (-128 : Int)) then decide (σ.I 20 ≤ (127 : Int)) else false;
let x25 := [[Value.int IntKind.u8 (106 : Int)]];
let x26 := σ.I 20 = (pushR (ins σ 0)).n;
let x27 := [[Value.int IntKind.u8 (104 : Int)]];
(x0 = true → True ∧ Ex.ret = Ex.ret ∧ true = true ∧ ((((((((((((((((((((((((((True ∧ 1 = x1.length ∧ x1 = rowsB (pushR (ins σ 0)).code) ∧ false = (pushR (ins σ 0)).wide) ∧ σ.I 14 = (pushR (ins σ 0)).plus) ∧ x2) ∧ false = (pushR (ins σ 0)).hasRm) ∧ x3) ∧ x4) ∧ x5) ∧ x6) ∧ x7) ∧ false = (pushR (ins σ
    0)).rm.rip) ∧ false = (pushR (ins σ 0)).rm.fs) ∧ x8) ∧ x9) ∧ x10) ∧ x11) ∧ x12) ∧ x13) ∧ x14) ∧ x15) ∧ x16) ∧ x17) ∧ false = (pushR (ins σ 0)).name.rip) ∧ false = (pushR (ins σ 0)).name.fs) ∧ x18) ∧ x19) ∧ x20) ∧ (x0 = false → (x21 = true → True ∧ Ex.ret = Ex.ret ∧ true = true ∧
    ((((((((((((((((((((((((((True ∧ 1 = x22.length ∧ x22 = rowsB (pushR (ins σ 0)).code) ∧ false = (pushR (ins σ 0)).wide) ∧ x23) ∧ (6 : Int) = (pushR (ins σ 0)).reg) ∧ true = (pushR (ins σ 0)).hasRm) ∧ σ.I 13 = (pushR (ins σ 0)).rm.kind) ∧ σ.I 14 = (pushR (ins σ 0)).rm.r) ∧ σ.I 15 = (pushR (ins σ
    0)).rm.base) ∧ σ.I 16 = (pushR (ins σ 0)).rm.index) ∧ σ.I 17 = (pushR (ins σ 0)).rm.scale) ∧ σ.B 18 = (pushR (ins σ 0)).rm.rip) ∧ σ.B 19 = (pushR (ins σ 0)).rm.fs) ∧ σ.I 20 = (pushR (ins σ 0)).rm.n) ∧ σ.S 21 = (pushR (ins σ 0)).rm.name) ∧ σ.I 22 = (pushR (ins σ 0)).rm.mod) ∧ x11) ∧ x12) ∧ x13) ∧
    x14) ∧ x15) ∧ x16) ∧ x17) ∧ false = (pushR (ins σ 0)).name.rip) ∧ false = (pushR (ins σ 0)).name.fs) ∧ x18) ∧ x19) ∧ x20) ∧ (x21 = false → (x24 = true → True ∧ Ex.ret = Ex.ret ∧ true = true ∧ ((((((((((((((((((((((((((True ∧ 1 = x25.length ∧ x25 = rowsB (pushR (ins σ 0)).code) ∧ false = (pushR
    (ins σ 0)).wide) ∧ x23) ∧ x2) ∧ false = (pushR (ins σ 0)).hasRm) ∧ x3) ∧ x4) ∧ x5) ∧ x6) ∧ x7) ∧ false = (pushR (ins σ 0)).rm.rip) ∧ false = (pushR (ins σ 0)).rm.fs) ∧ x8) ∧ x9) ∧ x10) ∧ (1 : Int) = (pushR (ins σ 0)).num) ∧ x26) ∧ x13) ∧ x14) ∧ x15) ∧ x16) ∧ x17) ∧ false = (pushR (ins σ
    0)).name.rip) ∧ false = (pushR (ins σ 0)).name.fs) ∧ x18) ∧ x19) ∧ x20) ∧ (x24 = false → True ∧ Ex.ret = Ex.ret ∧ true = true ∧ ((((((((((((((((((((((((((True ∧ 1 = x27.length ∧ x27 = rowsB (pushR (ins σ 0)).code) ∧ false = (pushR (ins σ 0)).wide) ∧ x23) ∧ x2) ∧ false = (pushR (ins σ 0)).hasRm)
    ∧ x3) ∧ x4) ∧ x5) ∧ x6) ∧ x7) ∧ false = (pushR (ins σ 0)).rm.rip) ∧ false = (pushR (ins σ 0)).rm.fs) ∧ x8) ∧ x9) ∧ x10) ∧ (4 : Int) = (pushR (ins σ 0)).num) ∧ x26) ∧ x13) ∧ x14) ∧ x15) ∧ x16) ∧ x17) ∧ false = (pushR (ins σ 0)).name.rip) ∧ false = (pushR (ins σ 0)).name.fs) ∧ x18) ∧ x19) ∧ x20)))) := by kernel_rfl

end Go.Proofs.YthmighgfefjcmaaGreat.Enc
end

section
/- Written by vc.py: what is to be shown, read out. No condition. -/
set_option maxRecDepth 1000000
set_option maxHeartbeats 0
namespace Go.Proofs.YthmighgfefjcmaaGreat.Enc
open Go.RowKit Go.Proofs.YthmighgfefjcmaaGreat.X
theorem rn_round (σ : Dt) (α : At') (rest : Nat → Value) : (lRn.goal Tryz.prog Llive.mk' 1000 bRn σ α rest) = (
let x0 := σ.I 2 < (↑(σ.S 0).size : Int);
let x1 := decide x0;
let x2 := (0 : Int) ≤ σ.I 2 ∧ x0;
let x3 := (↑((σ.S 0).data.getD (σ.I 2).toNat (0 : UInt8)).toNat : Int);
let x4 := x3 == (40 : Int);
let x5 := x3 == (41 : Int);
let x6 := x3 == (44 : Int);
let x7 := x3 == (64 : Int);
let x8 := x3 == (36 : Int);
let x9 := x3 == (37 : Int);
let x10 := x3 == (42 : Int);
let x11 := x3 == (35 : Int);
let x12 := x3 == (59 : Int);
let x13 := x3 == (58 : Int);
let x14 := x3 == (34 : Int);
let x15 := bif x4 then x4 else bif x5 then x5 else bif x6 then x6 else bif x7 then x7 else bif x8 then x8 else bif x9 then x9 else bif x10 then x10 else bif x11 then x11 else bif x12 then x12 else bif x13 then x13 else bif x14 then x14 else x3 == (39 : Int);
let x16 := restOk (σ.S 0) (σ.I 2) = true;
let x17 := restOk (σ.S 0) (σ.I 2) = false;
let x18 := True ∧ σ.S 0 = σ.S 0;
let x19 := true = true ∧ (x16 → Ex.exit 0 = Ex.ret ∧ true = true ∧ False) ∧ (x17 → Ex.ret = Ex.ret ∧ true = true ∧ x18 ∧ false = false);
let x20 := decide (x3 < (33 : Int));
let x21 := bif x20 then true else decide (x3 > (126 : Int));
let x22 := IntKind.i64.wrap (σ.I 2 + (1 : Int));
true = true ∧ (x1 = true → x2 ∧ (x15 = true → x19) ∧ (x15 = false → x2 ∧ (x20 = false → x2) ∧ (x21 = true → x19) ∧ (x21 = false → true = true ∧ true = true ∧ True ∧ ((0 : Int) ≤ x22 ∧ x22 ≤ (↑(σ.S 0).size : Int) ∧ (σ.S 0).size ≤ 9223372036854775807) ∧ ((↑(σ.S 0).size : Int) - x22).toNat < ((↑(σ.S
    0).size : Int) - σ.I 2).toNat ∧ Po.ite (restOk (σ.S 0) x22) (Po.leaf (Ex.exit 0) [(0, Pt.gs (σ.S 0))] [] []) (Po.leaf Ex.ret [(0, Pt.gs (σ.S 0)), (2, Pt.gb false)] [] []) = Po.ite (restOk (σ.S 0) (σ.I 2)) (Po.leaf (Ex.exit 0) [(0, Pt.gs (σ.S 0))] [] []) (Po.leaf Ex.ret [(0, Pt.gs (σ.S 0)), (2,
    Pt.gb false)] [] []) ∧ asSt ([], []) = ([], [])))) ∧ (x1 = false → true = true ∧ (x16 → Ex.exit 0 = Ex.exit 0 ∧ true = true ∧ x18) ∧ (x17 → Ex.ret = Ex.exit 0 ∧ true = true ∧ False))) := by kernel_rfl

theorem rname_goal (σ : Dt) (α : At') : (cRname.goal Tryz.prog Lrn.mk' 1000 Tryz.f107 σ α) = (
(True ∧ (0 : Int) ≤ (0 : Int) ∧ (0 : Int) ≤ (↑(σ.S 0).size : Int) ∧ (σ.S 0).size ≤ 9223372036854775807) ∧ True ∧ Ex.ret = Ex.ret ∧ true = true ∧ True ∧ (bif restOk (σ.S 0) (0 : Int) then bif decide ((↑(σ.S 0).size : Int) ≥ (1 : Int)) then decide ((↑(σ.S 0).size : Int) ≤ (255 : Int)) else false else
    false) = nameOk (σ.S 0)) := by kernel_rfl

theorem rreg_goal (σ : Dt) (α : At') : ((cOr regB).goal Tryz.prog Lrname.mk' 1000 Tryz.f83 σ α) = (
True ∧ Ex.ret = Ex.ret ∧ true = true ∧ True ∧ (bif decide (σ.I 1 ≥ (0 : Int)) then bif decide (σ.I 1 < (16 : Int)) then σ.I 0 == (1 : Int) && (σ.I 1 == σ.I 1 && (σ.I 2 == (0 : Int) && (σ.I 3 == (0 : Int) && (σ.I 4 == (0 : Int) && (σ.B 5 == false && (σ.B 6 == false && (σ.I 7 == (0 : Int) && ((σ.S
    8).toList == [] && (σ.I 9 == (0 : Int) && true))))))))) else false else false) = regB (opd σ 0)) := by kernel_rfl

theorem rimm_goal (σ : Dt) (α : At') : ((cOr immB).goal Tryz.prog Lrreg.mk' 1000 Tryz.f84 σ α) = (
True ∧ Ex.ret = Ex.ret ∧ true = true ∧ True ∧ (σ.I 0 == (2 : Int) && (σ.I 1 == (0 : Int) && (σ.I 2 == (0 : Int) && (σ.I 3 == (0 : Int) && (σ.I 4 == (0 : Int) && (σ.B 5 == false && (σ.B 6 == false && (σ.I 7 == σ.I 7 && ((σ.S 8).toList == [] && (σ.I 9 == (0 : Int) && true)))))))))) = immB (opd σ 0)) := by kernel_rfl

theorem rnone_goal (σ : Dt) (α : At') : ((cOr noneB).goal Tryz.prog Lrimm.mk' 1000 Tryz.f87 σ α) = (
True ∧ Ex.ret = Ex.ret ∧ true = true ∧ True ∧ (σ.I 0 == (0 : Int) && (σ.I 1 == (0 : Int) && (σ.I 2 == (0 : Int) && (σ.I 3 == (0 : Int) && (σ.I 4 == (0 : Int) && (σ.B 5 == false && (σ.B 6 == false && (σ.I 7 == (0 : Int) && ((σ.S 8).toList == [] && (σ.I 9 == (0 : Int) && true)))))))))) = noneB (opd σ
    0)) := by kernel_rfl

theorem rmem_goal (σ : Dt) (α : At') : ((cOr memB).goal Tryz.prog Lrnone.mk' 2000 Tryz.f85 σ α) = (
let x0 := σ.I 0 == (3 : Int);
let x1 := σ.I 1 == (0 : Int);
let x2 := σ.I 2 == (-1 : Int);
let x3 := σ.I 3 == (-1 : Int);
let x4 := σ.I 4 == (0 : Int);
let x5 := x0 && (x1 && (x2 && (x3 && (x4 && (σ.B 5 == true && (σ.B 6 == false && true))))));
let x6 := (σ.S 8).toList == [];
let x7 := x0 && (x1 && (x2 && (x3 && (x4 && (σ.B 5 == false && (σ.B 6 == true && true))))));
let x8 := decide (σ.I 2 < (0 : Int));
let x9 := decide (σ.I 2 > (15 : Int));
let x10 := IntKind.i64.wrap ((0 : Int) - (2147483648 : Int));
let x11 := bif decide (σ.I 7 ≥ x10) then decide (σ.I 7 < (2147483648 : Int)) else false;
let x12 := bif σ.I 9 == (0 : Int) then x11 else false;
let x13 := !x11;
let x14 := σ.I 7 == (0 : Int);
let x15 := bif σ.I 9 != (2 : Int) then bif σ.I 9 != (3 : Int) then true else x14 else x14;
let x16 := (4 : Int) == σ.I 9;
let x17 := σ.I 2 == σ.I 2;
let x18 := σ.B 5 == false && (σ.B 6 == false && true);
((σ.B 5 = true → x5 = true → x6 = false → True ∧ (σ.S 8).size ≤ 9223372036854775807) ∧ (σ.B 5 = false → (σ.B 6 = true → x7 = true → x6 = false → True ∧ (σ.S 8).size ≤ 9223372036854775807) ∧ (σ.B 6 = false → x8 = false → x9 = false → x6 = false → True ∧ (σ.S 8).size ≤ 9223372036854775807))) ∧ True ∧
    Ex.ret = Ex.ret ∧ true = true ∧ True ∧ (bif σ.B 5 then bif x5 then bif x6 then x12 else bif !nameOk (σ.S 8) then false else bif x13 then false else bif (0 : Int) == σ.I 9 then x15 else bif (2 : Int) == σ.I 9 then x15 else bif (3 : Int) == σ.I 9 then x15 else false else false else bif σ.B 6 then
    bif x7 then bif x6 then x12 else bif !nameOk (σ.S 8) then false else bif x13 then false else bif x16 then x15 else false else false else bif x8 then false else bif x9 then false else bif !bif x6 then x12 else bif !nameOk (σ.S 8) then false else bif x13 then false else bif x16 then x15 else bif
    (5 : Int) == σ.I 9 then x15 else false then false else bif x3 then x0 && (x1 && (x17 && (x3 && (x4 && x18)))) else bif bif decide (σ.I 3 < (0 : Int)) then true else bif decide (σ.I 3 > (15 : Int)) then true else bif σ.I 3 == (4 : Int) then true else bif σ.I 4 != (1 : Int) then bif σ.I 4 != (2 :
    Int) then bif σ.I 4 != (4 : Int) then σ.I 4 != (8 : Int) else false else false else false then false else x0 && (x1 && (x17 && (σ.I 3 == σ.I 3 && (σ.I 4 == σ.I 4 && x18))))) = memB (opd σ 0)) := by kernel_rfl

theorem rtgt_goal (σ : Dt) (α : At') : ((cOr tgtB).goal Tryz.prog Lrmem.mk' 2000 Tryz.f101 σ α) = (
let x0 := (σ.S 8).toList == [];
let x1 := IntKind.i64.wrap ((0 : Int) - (2147483648 : Int));
let x2 := σ.I 0 == (4 : Int);
let x3 := σ.I 1 == (0 : Int);
let x4 := σ.I 2 == (0 : Int);
let x5 := σ.I 3 == (0 : Int);
let x6 := σ.I 4 == (0 : Int);
let x7 := σ.I 9 == (0 : Int);
let x8 := x2 && (x3 && (x4 && (x5 && (x6 && (σ.B 5 == false && (σ.B 6 == false && (σ.I 7 == (0 : Int) && ((σ.S 8).toList == (σ.S 8).toList && (σ.I 9 == σ.I 9 && true)))))))));
(x0 = false → True ∧ (σ.S 8).size ≤ 9223372036854775807) ∧ True ∧ Ex.ret = Ex.ret ∧ true = true ∧ True ∧ (bif x0 then bif bif decide (σ.I 7 ≥ x1) then decide (σ.I 7 < (2147483648 : Int)) else false then x2 && (x3 && (x4 && (x5 && (x6 && (σ.B 5 == false && (σ.B 6 == false && (σ.I 7 == σ.I 7 && (x0 &&
    (x7 && true))))))))) else false else bif nameOk (σ.S 8) then bif x7 then x8 else bif σ.I 9 == (1 : Int) then x8 else false else false) = tgtB (opd σ 0)) := by kernel_rfl

end Go.Proofs.YthmighgfefjcmaaGreat.Enc
end

section
/- The document's layer 3: names and operands: shown. No condition. -/
set_option maxRecDepth 100000
namespace Go.Proofs.YthmighgfefjcmaaGreat.Enc
open Go.RowKit Go.Proofs.YthmighgfefjcmaaGreat.X Go.IntWalk

def badR (n : Int) : Bool := (bif n == 40 then n == 40 else bif n == 41 then n == 41 else bif n == 44 then n == 44 else bif n == 64 then n == 64 else bif n == 36 then n == 36 else bif n == 37 then n == 37 else bif n == 42 then n == 42 else bif n == 35 then n == 35 else bif n == 59 then n == 59 else bif n == 58 then n == 58 else bif n == 34 then n == 34 else n == 39) || (bif decide (n < 33) then true else decide (n > 126))
theorem bad_all : ∀ n : Fin 256, badR ((n.val : Nat) : Int) = badB (UInt8.ofNat n.val) := by decide +kernel
theorem bad_eq (c : UInt8) : badR (c.toNat : Int) = badB c := by
  have h := bad_all ⟨c.toNat, c.toNat_lt⟩
  simpa using h
set_option maxHeartbeats 4000000 in
theorem good_rn : Lib.Good Tryz.prog Lrn := lib_loop good_live 2 "ref.go:19" (by kernel_rfl) lRn 1000 fun σ α rest hp => by
  obtain ⟨h0, h1, h2⟩ := (show 0 ≤ σ.I 2 ∧ σ.I 2 ≤ (σ.S 0).size ∧ (σ.S 0).size ≤ big from hp)
  have h2 : (σ.S 0).size ≤ 9223372036854775807 := h2
  refine (rn_round σ α rest).mpr ?_
  intro x0 x1 x2 x3 x4 x5 x6 x7 x8 x9 x10 x11 x12 x13 x14 x15 x16 x17 x18 x19 x20 x21 x22
  refine ⟨rfl, fun hlt' => ?_, fun hge' => ?_⟩
  · have hlt : σ.I 2 < ((σ.S 0).size : Int) := of_decide_eq_true hlt'
    have c2 : x2 := ⟨h0, hlt⟩
    have hs := restOk_step (σ.S 0) (σ.I 2) h0 hlt
    have hb : badR x3 = badB ((σ.S 0).data.getD (σ.I 2).toNat 0) := bad_eq _
    have hbx : badR x3 = (x15 || x21) := rfl
    have h22 : x22 = σ.I 2 + 1 := i64_in _ (by omega)
    have bad : restOk (σ.S 0) (σ.I 2) = false → x19 := fun h => ⟨rfl, fun hh => by (have hh : restOk (σ.S 0) (σ.I 2) = true := hh; rw [h] at hh; cases hh), fun _ => ⟨rfl, rfl, ⟨trivial, rfl⟩, rfl⟩⟩
    refine ⟨c2, fun h => bad ?_, fun h15 => ⟨c2, fun _ => c2, fun h => bad ?_, fun h21 => ?_⟩⟩
    · rw [hs]; unfold okB; rw [← hb, hbx, h]; rfl
    · rw [hs]; unfold okB; rw [← hb, hbx, h, Bool.or_true]; rfl
    · have e : restOk (σ.S 0) x22 = restOk (σ.S 0) (σ.I 2) := by
        rw [hs, h22]; unfold okB; rw [← hb, hbx, h15, h21]; rfl
      exact ⟨rfl, rfl, trivial, ⟨by omega, by omega, h2⟩, by omega, by rw [e], rfl⟩
  · have hge : ¬ σ.I 2 < ((σ.S 0).size : Int) := of_decide_eq_false hge'
    have hr := restOk_end (σ.S 0) (σ.I 2) (by omega)
    exact ⟨rfl, fun _ => ⟨rfl, rfl, trivial, rfl⟩, fun hh => by (have hh : restOk (σ.S 0) (σ.I 2) = false := hh; rw [hr] at hh; cases hh)⟩
theorem good_rname : Lib.Good Tryz.prog Lrname := lib_con good_rn Tryz.func107 cRname 1000 fun σ α hp => by
  have h2 : (σ.S 0).size ≤ 9223372036854775807 := hp
  rw [rname_goal]
  refine ⟨⟨trivial, Int.le_refl _, Int.natCast_nonneg _, h2⟩, trivial, rfl, rfl, trivial, ?_⟩
  rw [restOk_all]
  unfold nameOk
  generalize (σ.S 0).data.toList.all okB = b
  by_cases h1 : 1 ≤ (σ.S 0).size
  · rw [show decide (((σ.S 0).size : Int) ≥ 1) = true from decide_eq_true (by omega), show decide (1 ≤ (σ.S 0).size) = true from decide_eq_true h1]
    by_cases h3 : (σ.S 0).size ≤ 255
    · rw [show decide (((σ.S 0).size : Int) ≤ 255) = true from decide_eq_true (by omega), show decide ((σ.S 0).size ≤ 255) = true from decide_eq_true h3]; cases b <;> rfl
    · rw [show decide (((σ.S 0).size : Int) ≤ 255) = false from decide_eq_false (by omega), show decide ((σ.S 0).size ≤ 255) = false from decide_eq_false h3]; cases b <;> rfl
  · rw [show decide (((σ.S 0).size : Int) ≥ 1) = false from decide_eq_false (by omega), show decide (1 ≤ (σ.S 0).size) = false from decide_eq_false h1]; cases b <;> rfl
theorem good_rreg : Lib.Good Tryz.prog Lrreg := lib_con good_rname Tryz.func83 (cOr regB) 1000 fun σ α _ => by
  rw [rreg_goal]
  refine ⟨trivial, rfl, rfl, trivial, ?_⟩
  show _ = bif eqO (opd σ 0) { noO with kind := 1, r := σ.I 1 } (anon (opd σ 0)) then bif decide (σ.I 1 ≥ 0) then decide (σ.I 1 ≤ 15) else false else false
  show (bif decide (σ.I 1 ≥ 0) then bif decide (σ.I 1 < 16) then eqO (opd σ 0) { noO with kind := 1, r := σ.I 1 } (anon (opd σ 0)) else false else false) = _
  rw [show decide (σ.I 1 < 16) = decide (σ.I 1 ≤ 15) from decide_eq_decide.2 (by omega)]
  cases eqO (opd σ 0) { noO with kind := 1, r := σ.I 1 } (anon (opd σ 0)) <;> cases decide (σ.I 1 ≥ 0) <;> cases decide (σ.I 1 ≤ 15) <;> rfl
theorem good_rimm : Lib.Good Tryz.prog Lrimm := lib_con good_rreg Tryz.func84 (cOr immB) 1000 fun σ α _ => by
  rw [rimm_goal]; exact ⟨trivial, rfl, rfl, trivial, rfl⟩
theorem good_rnone : Lib.Good Tryz.prog Lrnone := lib_con good_rimm Tryz.func87 (cOr noneB) 1000 fun σ α _ => by
  rw [rnone_goal]; exact ⟨trivial, rfl, rfl, trivial, rfl⟩
set_option maxHeartbeats 4000000 in
theorem good_rmem : Lib.Good Tryz.prog Lrmem := lib_con good_rnone Tryz.func85 (cOr memB) 2000 fun σ α hp => by
  have h2 : (σ.S 8).size ≤ 9223372036854775807 := hp
  rw [rmem_goal]
  intro x0 x1 x2 x3 x4 x5 x6 x7 x8 x9 x10 x11 x12 x13 x14 x15 x16 x17 x18
  refine ⟨⟨fun _ _ _ => ⟨trivial, h2⟩, fun _ => ⟨fun _ _ _ => ⟨trivial, h2⟩, fun _ _ _ _ => ⟨trivial, h2⟩⟩⟩, trivial, rfl, rfl, trivial, ?_⟩
  have e10 : x10 = -2147483648 := by show IntKind.i64.wrap (0 - 2147483648) = _; exact i64_in _ (by omega)
  have e11 : x11 = wideB (σ.I 7) := by show (bif decide (σ.I 7 ≥ x10) then _ else _) = _; rw [e10]; rfl
  have em : memB (opd σ 0) = (bif σ.I 0 != 3 then false else bif !wideB (σ.I 7) then false else bif σ.I 1 != 0 then false
    else bif σ.B 5 then (bif bif !x6 then bif σ.I 9 != 0 then σ.I 7 != 0 else false else false then false else bif (bif σ.I 2 == -1 then bif σ.I 3 == -1 then σ.I 4 == 0 else false else false) then bif !σ.B 6 then (bif x6 then σ.I 9 == 0 else bif σ.I 9 == 0 then nameOk (σ.S 8) else bif σ.I 9 == 2 then nameOk (σ.S 8) else bif σ.I 9 == 3 then nameOk (σ.S 8) else false) else false else false)
    else bif σ.B 6 then (bif (bif σ.I 2 == -1 then bif σ.I 3 == -1 then σ.I 4 == 0 else false else false) then (bif x6 then σ.I 9 == 0 else bif σ.I 9 == 4 then nameOk (σ.S 8) else false) else false)
    else bif decide (σ.I 2 < 0) then false else bif decide (σ.I 2 > 15) then false else bif !(bif x6 then σ.I 9 == 0 else bif σ.I 9 == 4 then nameOk (σ.S 8) else bif σ.I 9 == 5 then nameOk (σ.S 8) else false) then false
    else bif σ.I 3 == -1 then σ.I 4 == 0
    else bif decide (σ.I 3 ≥ 0) then bif decide (σ.I 3 ≤ 15) then bif σ.I 3 != 4 then bif σ.I 4 == 1 then true else bif σ.I 4 == 2 then true else bif σ.I 4 == 4 then true else σ.I 4 == 8 else false else false else false) := rfl
  rw [em]
  simp only [x5, x7, x12, x13, x15, x16, x18, x0, x1, x2, x3, x4, x8, x9, x14, x17, e11]
  generalize wideB (σ.I 7) = W
  generalize nameOk (σ.S 8) = nm
  generalize x6 = an
  generalize σ.I 0 = k
  generalize σ.I 1 = r
  generalize σ.I 2 = b
  generalize σ.I 3 = x
  generalize σ.I 4 = s
  generalize σ.I 7 = n
  generalize σ.I 9 = m
  generalize σ.B 5 = rip
  generalize σ.B 6 = fs
  rw [Bool.eq_iff_iff]
  cases rip <;> cases fs <;> cases W <;> cases an <;> cases nm <;> simp <;> (first | omega | ((repeat' split) <;> omega))
set_option maxHeartbeats 4000000 in
theorem good_rtgt : Lib.Good Tryz.prog Lrtgt := lib_con good_rmem Tryz.func101 (cOr tgtB) 2000 fun σ α hp => by
  have h2 : (σ.S 8).size ≤ 9223372036854775807 := hp
  rw [rtgt_goal]
  intro x0 x1 x2 x3 x4 x5 x6 x7 x8
  refine ⟨fun _ => ⟨trivial, h2⟩, trivial, rfl, rfl, trivial, ?_⟩
  have e1 : x1 = -2147483648 := by show IntKind.i64.wrap (0 - 2147483648) = _; exact i64_in _ (by omega)
  have em : tgtB (opd σ 0) = (bif !(σ.I 0 == 4 && (σ.I 1 == 0 && (σ.I 2 == 0 && (σ.I 3 == 0 && (σ.I 4 == 0 && (σ.B 5 == false && (σ.B 6 == false && (σ.I 7 == σ.I 7 && ((σ.S 8).toList == (σ.S 8).toList && (σ.I 9 == σ.I 9 && true)))))))))) then false
    else bif x0 then (bif σ.I 9 == 0 then (bif decide (σ.I 7 ≥ -2147483648) then decide (σ.I 7 < 2147483648) else false) else false) else bif σ.I 7 == 0 then (bif x0 then σ.I 9 == 0 else bif σ.I 9 == 0 then nameOk (σ.S 8) else bif σ.I 9 == 1 then nameOk (σ.S 8) else false) else false) := rfl
  rw [em]
  simp only [x8, x2, x3, x4, x5, x6, x7, e1, beq_self_eq_true]
  generalize nameOk (σ.S 8) = nm
  generalize x0 = an
  generalize σ.I 0 = k
  generalize σ.I 1 = r
  generalize σ.I 2 = b
  generalize σ.I 3 = x
  generalize σ.I 4 = s
  generalize σ.I 7 = n
  generalize σ.I 9 = m
  generalize σ.B 5 = rip
  generalize σ.B 6 = fs
  rw [Bool.eq_iff_iff]
  cases rip <;> cases fs <;> cases an <;> cases nm <;> simp <;> (first | omega | ((repeat' split) <;> omega))
end Go.Proofs.YthmighgfefjcmaaGreat.Enc
end

section
/- Written by vc.py: what is to be shown, read out. No condition. -/
set_option maxRecDepth 1000000
set_option maxHeartbeats 0
namespace Go.Proofs.YthmighgfefjcmaaGreat.Enc
open Go.RowKit Go.Proofs.YthmighgfefjcmaaGreat.X
theorem rchk_goal (σ : Dt) (α : At') : (cRchk.goal Tryz.prog Lrtgt.mk' 4000 Tryz.f17 σ α) = (
let x0 := σ.I 0 == (1 : Int);
let x1 := σ.I 0 == (3 : Int);
let x2 := σ.I 0 == (4 : Int);
let x3 := σ.I 0 == (5 : Int);
let x4 := σ.I 0 == (6 : Int);
let x5 := σ.I 0 == (7 : Int);
let x6 := σ.I 0 == (8 : Int);
let x7 := σ.I 0 == (9 : Int);
let x8 := σ.I 0 == (10 : Int);
let x9 := σ.I 0 == (11 : Int);
let x10 := σ.I 0 == (13 : Int);
let x11 := σ.I 0 == (14 : Int);
let x12 := σ.I 0 == (15 : Int);
let x13 := σ.I 0 == (16 : Int);
let x14 := σ.I 0 == (17 : Int);
let x15 := σ.I 0 == (18 : Int);
let x16 := bif x14 then x14 else bif x15 then x15 else σ.I 0 == (19 : Int);
let x17 := σ.I 1 == (1 : Int);
let x18 := σ.I 1 == (4 : Int);
let x19 := σ.I 1 == (8 : Int);
let x20 := bif x18 then true else x19;
let x21 := σ.I 0 == (2 : Int);
let x22 := σ.I 0 == (12 : Int);
let x23 := σ.I 0 == (28 : Int);
let x24 := σ.I 0 == (29 : Int);
let x25 := σ.I 0 == (30 : Int);
let x26 := σ.I 0 == (31 : Int);
let x27 := σ.I 0 == (20 : Int);
let x28 := σ.I 0 == (21 : Int);
let x29 := σ.I 0 == (22 : Int);
let x30 := σ.I 0 == (23 : Int);
let x31 := σ.I 0 == (24 : Int);
let x32 := bif x29 then x29 else bif x30 then x30 else x31;
let x33 := σ.I 0 == (27 : Int);
let x34 := σ.I 0 == (25 : Int);
let x35 := σ.I 0 == (26 : Int);
let x36 := σ.I 0 == (32 : Int);
let x37 := σ.I 0 == (33 : Int);
let x38 := σ.I 0 == (34 : Int);
let x39 := !bif bif x0 then x0 else bif x1 then x1 else bif x2 then x2 else bif x3 then x3 else bif x4 then x4 else bif x5 then x5 else bif x6 then x6 else bif x7 then x7 else bif x8 then x8 else bif x9 then x9 else bif x10 then x10 else bif x11 then x11 else bif x12 then x12 else bif x13 then x13
    else x16 then bif x17 then true else x20 else bif bif x21 then x21 else bif x22 then x22 else bif x23 then x23 else bif x24 then x24 else bif x25 then x25 else x26 then x20 else bif bif x27 then x27 else bif x28 then x28 else x32 then x19 else bif x33 then x17 else bif bif x34 then x34 else bif
    x35 then x35 else bif x36 then x36 else bif x37 then x37 else bif x38 then x38 else σ.I 0 == (35 : Int) then σ.I 1 == (0 : Int) else false;
let x40 := bif chkB (ins σ 0) then (0 : Int) else (30 : Int);
let x41 := True ∧ Ex.ret = Ex.ret ∧ true = true ∧ True ∧ (30 : Int) = x40;
let x42 := !bif bif x31 then true else bif x33 then true else x23 then bif decide (σ.I 2 ≥ (0 : Int)) then decide (σ.I 2 < (16 : Int)) else false else σ.I 2 == (0 : Int);
let x43 := True ∧ (σ.S 21).size ≤ 9223372036854775807;
let x44 := (Opd.mk (σ.I 13) (σ.I 14) (σ.I 15) (σ.I 16) (σ.I 17) (σ.B 18) (σ.B 19) (σ.I 20) (σ.S 21) (σ.I 22));
let x45 := noneB x44;
let x46 := !x45;
let x47 := True ∧ (σ.S 11).size ≤ 9223372036854775807;
let x48 := (Opd.mk (σ.I 3) (σ.I 4) (σ.I 5) (σ.I 6) (σ.I 7) (σ.B 8) (σ.B 9) (σ.I 10) (σ.S 11) (σ.I 12));
let x49 := tgtB x48;
let x50 := σ.I 0 != (24 : Int);
let x51 := regB x48;
let x52 := x47 ∧ (x51 = false → x47);
let x53 := bif x51 then true else memB x48;
let x54 := !bif x46 then false else bif x49 then bif !σ.B 23 then true else bif σ.I 0 != (22 : Int) then bif !(σ.S 11).toList == [] then true else bif decide (σ.I 10 ≥ (-128 : Int)) then decide (σ.I 10 ≤ (127 : Int)) else false else false else bif !σ.B 23 then bif x50 then x53 else false else false;
let x55 := bif σ.B 23 then bif σ.I 0 != (23 : Int) then x50 else false else false;
let x56 := (x55 = true → x41) ∧ (x55 = false → True ∧ Ex.ret = Ex.ret ∧ true = true ∧ True ∧ (0 : Int) = x40);
let x57 := immB x44;
let x61 := regB x44;
let x64 := x47 ∧ (x51 = true → x43);
let x66 := (x57 = true → x52) ∧ (x57 = false → x47 ∧ (x51 = false → x47) ∧ (x53 = true → x43 ∧ (x61 = false → x64)) ∧ (x53 = false → x64));
let x67 := IntKind.i64.wrap ((0 : Int) - (2147483648 : Int));
let x68 := bif decide (σ.I 20 ≥ x67) then decide (σ.I 20 < (2147483648 : Int)) else false;
let x69 := memB x44;
let x70 := bif x51 then x69 else false;
let x71 := bif x57 then bif x53 then bif x17 then bif decide (σ.I 20 ≥ (-128 : Int)) then decide (σ.I 20 ≤ (255 : Int)) else false else bif x18 then bif decide (σ.I 20 ≥ (-2147483648 : Int)) then decide (σ.I 20 < (4294967296 : Int)) else false else x68 else false else bif x53 then bif x61 then true
    else x70 else x70;
let x73 := !bif x71 then true else bif x19 then bif x51 then x57 else false else false;
let x74 := bif x1 then x1 else bif x2 then x2 else bif x3 then x3 else bif x4 then x4 else bif x5 then x5 else bif x6 then x6 else bif x7 then x7 else x8;
let x75 := !x71;
let x76 := !bif x71 then σ.I 13 != (3 : Int) else false;
let x77 := !bif x51 then bif x69 then !σ.B 19 else false else false;
let x78 := bif x22 then x22 else bif x23 then x23 else bif x24 then x24 else x25;
let x79 := bif x61 then true else x69;
let x80 := !bif x51 then x79 else false;
let x81 := bif x10 then x10 else bif x11 then x11 else bif x12 then x12 else bif x13 then x13 else x33;
let x82 := bif x53 then x45 else false;
let x83 := !x82;
let x84 := decide (σ.I 20 ≥ (0 : Int));
let x86 := decide (σ.I 20 ≤ (63 : Int));
let x87 := x47 ∧ (x51 = false → x47) ∧ (x53 = true → x56) ∧ (x53 = false → x41);
let x88 := !bif x61 then bif x53 then σ.I 14 == (1 : Int) else false else false;
let x89 := x43 ∧ ((x61 = true → x52) ∧ (x61 = false → x52)) ∧ (x88 = true → x41) ∧ (x88 = false → x56);
let x90 := decide (σ.I 20 ≤ (31 : Int));
let x91 := noneB x48;
let x93 := x47 ∧ (x51 = false → x47) ∧ (x53 = true → x43);
let x94 := !bif x27 then bif x91 then bif x79 then true else bif x57 then x68 else false else false else bif x28 then x82 else bif x26 then bif x53 then x61 else false else bif x91 then x45 else false;
(x39 = true → x41) ∧ (x39 = false → (x42 = true → x41) ∧ (x42 = false → (x32 = true → x43 ∧ (x46 = false → x47 ∧ (x49 = false → (!σ.B 23) = true → x50 = true → x52)) ∧ (x54 = true → x41) ∧ (x54 = false → x56)) ∧ (x32 = false → (x0 = true → x43 ∧ x66 ∧ (x71 = false → x19 = true → x64) ∧ (x73 = true → x41) ∧
    (x73 = false → x56)) ∧ (x0 = false → (x74 = true → x43 ∧ x66 ∧ (x75 = true → x41) ∧ (x75 = false → x56)) ∧ (x74 = false → (x9 = true → x43 ∧ x66 ∧ (x76 = true → x41) ∧ (x76 = false → x56)) ∧ (x9 = false → (x21 = true → x47 ∧ (x51 = true → x43) ∧ (x77 = true → x41) ∧ (x77 = false → x56)) ∧ (x21 = false
    → (x78 = true → x47 ∧ (x51 = true → x43 ∧ (x61 = false → x43)) ∧ (x80 = true → x41) ∧ (x80 = false → x56)) ∧ (x78 = false → (x81 = true → x47 ∧ (x51 = false → x47) ∧ (x53 = true → x43) ∧ (x83 = true → x41) ∧ (x83 = false → x56)) ∧ (x81 = false → (x16 = true → (x19 = true → x43 ∧ (x57 = true → (x84 = true → (x86 = true → x87) ∧ (x86 =
    false → x89)) ∧ (x84 = false → x89)) ∧ (x57 = false → x89)) ∧ (x19 = false → x43 ∧ (x57 = true → (x84 = true → (x90 = true → x87) ∧ (x90 = false → x89)) ∧ (x84 = false → x89)) ∧ (x57 = false → x89))) ∧ (x16 = false → ((x27 = true → x47 ∧ (x91 = true → x43 ∧ (x61 = false → x43) ∧ (x79 = false → x43))) ∧ (x27 = false → (x28 = true → x93) ∧
    (x28 = false → (x26 = true → x93) ∧ (x26 = false → x47 ∧ (x91 = true → x43))))) ∧ (x94 = true → x41) ∧ (x94 = false → x56)))))))))))) := by kernel_rfl

end Go.Proofs.YthmighgfefjcmaaGreat.Enc
end

section
/- What bytes are made of: no two ways. No condition. -/
set_option maxRecDepth 100000
namespace Go.Proofs.YthmighgfefjcmaaGreat.Enc
open Go.RowKit Go.Proofs.YthmighgfefjcmaaGreat.X Go.IntWalk

/-- What an instruction's bytes are made of. -/
structure Pc where
  fs : Bool
  rex : Int
  op : List Int
  tail : List Int
  num : List Int
def fsL (fs : Bool) : List Int := bif fs then [100] else []
def rxL (rex : Int) : List Int := if rex = 0 then [] else [rex]
def Pc.flat (p : Pc) : List Int := fsL p.fs ++ (rxL p.rex ++ (p.op ++ (p.tail ++ p.num)))
def hasM1 (o : Int) : Prop := o < 64 ∨ (128 ≤ o ∧ o ≤ 143) ∨ o = 192 ∨ o = 193 ∨ o = 198 ∨ o = 199 ∨ o = 210 ∨ o = 211 ∨ o = 246 ∨ o = 247 ∨ o = 254 ∨ o = 255
def hasM2 (o : Int) : Prop := (64 ≤ o ∧ o < 80) ∨ (144 ≤ o ∧ o < 160) ∨ o = 175 ∨ o = 182 ∨ o = 190
def hasM : List Int → Prop
  | [o] => hasM1 o
  | [_, o] => hasM2 o
  | _ => False
def dlen (md : Int) (r : Int) : Nat := if md = 0 then (if r = 5 then 4 else 0) else if md = 1 then 1 else 4
def tlen (t : List Int) : Nat :=
  if t.getD 0 0 / 64 = 3 then 1 else if t.getD 0 0 % 8 = 4 then 2 + dlen (t.getD 0 0 / 64) (t.getD 1 0 % 8) else 1 + dlen (t.getD 0 0 / 64) (t.getD 0 0 % 8)
def regT (t : List Int) : Int := t.getD 0 0 / 8 % 8
def nlen1 (o rex reg : Int) : Nat :=
  if o = 128 ∨ o = 131 ∨ o = 192 ∨ o = 193 ∨ o = 198 ∨ o = 106 ∨ o = 235 ∨ (112 ≤ o ∧ o ≤ 127) ∨ (176 ≤ o ∧ o ≤ 183) then 1
  else if o = 129 ∨ o = 199 ∨ o = 104 ∨ o = 232 ∨ o = 233 then 4
  else if 184 ≤ o ∧ o ≤ 191 then (if rex / 8 % 2 = 1 then 8 else 4)
  else if o = 246 then (if reg = 0 then 1 else 0)
  else if o = 247 then (if reg = 0 then 4 else 0) else 0
def nlen2 (o : Int) : Nat := if 128 ≤ o ∧ o ≤ 143 then 4 else 0
def nlen (op : List Int) (rex reg : Int) : Nat :=
  match op with
  | [o] => nlen1 o rex reg
  | [_, o] => nlen2 o
  | _ => 0
def InB (l : List Int) : Prop := ∀ x ∈ l, 0 ≤ x ∧ x ≤ 255
structure Pc.Wf (p : Pc) : Prop where
  rex : p.rex = 0 ∨ (64 ≤ p.rex ∧ p.rex ≤ 79)
  op : (∃ o, p.op = [o] ∧ o ≠ 15 ∧ o ≠ 100 ∧ ¬(64 ≤ o ∧ o ≤ 79) ∧ 0 ≤ o ∧ o ≤ 255) ∨ (∃ o, p.op = [15, o] ∧ 0 ≤ o ∧ o ≤ 255)
  m : hasM p.op → p.tail ≠ [] ∧ p.tail.length = tlen p.tail
  nm : ¬hasM p.op → p.tail = []
  num : p.num.length = nlen p.op p.rex (regT p.tail)
  tb : InB p.tail
  nb : InB p.num

theorem opt_inj {C : Int → Prop} {u v s t : List Int} (hu : u = [] ∨ ∃ c, u = [c] ∧ C c) (hv : v = [] ∨ ∃ c, v = [c] ∧ C c) (hs : ∃ o r, s = o :: r ∧ ¬C o) (ht : ∃ o r, t = o :: r ∧ ¬C o) (h : u ++ s = v ++ t) : u = v ∧ s = t := by
  obtain ⟨o1, r1, rfl, hs⟩ := hs
  obtain ⟨o2, r2, rfl, ht⟩ := ht
  rcases hu with rfl | ⟨c1, rfl, hu⟩ <;> rcases hv with rfl | ⟨c2, rfl, hv⟩ <;> simp only [List.nil_append, List.cons_append, List.cons.injEq] at h ⊢
  · exact ⟨trivial, h⟩
  · rw [h.1] at hs; exact absurd hv hs
  · rw [← h.1] at ht; exact absurd hu ht
  · exact ⟨⟨h.1, trivial⟩, h.2⟩
theorem fsL_opt (fs : Bool) : fsL fs = [] ∨ ∃ c, fsL fs = [c] ∧ c = 100 := by cases fs <;> simp [fsL]
theorem rxL_opt {rex : Int} (h : rex = 0 ∨ (64 ≤ rex ∧ rex ≤ 79)) : rxL rex = [] ∨ ∃ c, rxL rex = [c] ∧ (64 ≤ c ∧ c ≤ 79) := by
  unfold rxL
  split
  · exact .inl rfl
  · exact .inr ⟨rex, rfl, by omega⟩
theorem Pc.Wf.head {p : Pc} (w : p.Wf) (x : List Int) : ∃ o r, p.op ++ x = o :: r ∧ ¬(64 ≤ o ∧ o ≤ 79) ∧ ¬o = 100 := by
  rcases w.op with ⟨o, h, h1, h2, h3, _⟩ | ⟨o, h, _⟩
  · exact ⟨o, x, by rw [h]; rfl, h3, h2⟩
  · exact ⟨15, o :: x, by rw [h]; rfl, by omega, by omega⟩
theorem tlen_eq {s t x y : List Int} (hs : s ≠ []) (ht : t ≠ []) (ls : s.length = tlen s) (lt : t.length = tlen t) (h : s ++ x = t ++ y) : tlen s = tlen t := by
  obtain ⟨a, s', rfl⟩ := List.exists_cons_of_ne_nil hs
  obtain ⟨b, t', rfl⟩ := List.exists_cons_of_ne_nil ht
  simp only [List.cons_append, List.cons.injEq] at h
  obtain ⟨rfl, h⟩ := h
  by_cases h3 : a / 64 = 3
  · simp [tlen, h3]
  · by_cases h4 : a % 8 = 4
    · have l1 : 2 ≤ (a :: s').length := by rw [ls]; unfold tlen; simp [h3, h4]
      have l2 : 2 ≤ (a :: t').length := by rw [lt]; unfold tlen; simp [h3, h4]
      cases s' with
      | nil => simp at l1
      | cons c s' =>
        cases t' with
        | nil => simp at l2
        | cons d t' =>
          simp only [List.cons_append, List.cons.injEq] at h
          unfold tlen
          simp [h.1]
    · unfold tlen; simp [h3, h4]
theorem flat_inj {a b : Pc} (wa : a.Wf) (wb : b.Wf) {x y : List Int} (h : a.flat ++ x = b.flat ++ y) : a = b ∧ x = y := by
  obtain ⟨fa, ra, oa, ta, na⟩ := a
  obtain ⟨fb, rb, ob, tb, nb⟩ := b
  simp only [Pc.flat, List.append_assoc] at h
  have hd : ∀ {r : Int} {o z : List Int}, (r = 0 ∨ (64 ≤ r ∧ r ≤ 79)) → (∃ q s, o ++ z = q :: s ∧ ¬(64 ≤ q ∧ q ≤ 79) ∧ ¬q = 100) → ∃ q s, rxL r ++ (o ++ z) = q :: s ∧ ¬q = 100 := by
    rintro r o z hr ⟨q, s, h1, h2, h3⟩
    unfold rxL
    split
    · exact ⟨q, s, by rw [List.nil_append]; exact h1, h3⟩
    · exact ⟨r, o ++ z, rfl, by omega⟩
  obtain ⟨h1, h⟩ := opt_inj (C := fun c => c = 100) (fsL_opt fa) (fsL_opt fb) (hd wa.rex (wa.head _)) (hd wb.rex (wb.head _)) h
  obtain ⟨oa1, ra1, ea, ca, _⟩ := wa.head (ta ++ (na ++ x))
  obtain ⟨ob1, rb1, eb, cb, _⟩ := wb.head (tb ++ (nb ++ y))
  obtain ⟨h2, h⟩ := opt_inj (C := fun c => 64 ≤ c ∧ c ≤ 79) (rxL_opt wa.rex) (rxL_opt wb.rex) ⟨_, _, ea, ca⟩ ⟨_, _, eb, cb⟩ h
  have hfs : fa = fb := by cases fa <;> cases fb <;> first | rfl | cases h1
  have hrx : ra = rb := by
    have r1 := wa.rex
    have r2 := wb.rex
    dsimp only at r1 r2
    unfold rxL at h2
    by_cases e1 : ra = 0 <;> by_cases e2 : rb = 0
    · omega
    · rw [if_pos e1, if_neg e2] at h2; cases h2
    · rw [if_neg e1, if_pos e2] at h2; cases h2
    · rw [if_neg e1, if_neg e2] at h2; simpa using h2
  subst hfs hrx
  have hop : oa = ob ∧ ta ++ (na ++ x) = tb ++ (nb ++ y) := by
    rcases wa.op with ⟨p, hp, p1, _⟩ | ⟨p, hp, _⟩ <;> rcases wb.op with ⟨q, hq, q1, _⟩ | ⟨q, hq, _⟩ <;> dsimp only at hp hq <;> subst hp hq <;> simp only [List.cons_append, List.nil_append, List.cons.injEq] at h
    · exact ⟨by rw [h.1], h.2⟩
    · exact absurd h.1 p1
    · exact absurd h.1.symm q1
    · exact ⟨by rw [h.2.1], h.2.2⟩
  obtain ⟨hop, g⟩ := hop
  clear h ea eb ca cb
  subst hop
  have ht : ta.length = tb.length := by
    by_cases hm : hasM oa
    · obtain ⟨a1, a2⟩ := wa.m hm
      obtain ⟨b1, b2⟩ := wb.m hm
      dsimp only at a1 a2 b1 b2
      rw [a2, b2]
      exact tlen_eq a1 b1 a2 b2 g
    · have a1 := wa.nm hm
      have b1 := wb.nm hm
      dsimp only at a1 b1
      rw [a1, b1]
  obtain ⟨h3, g2⟩ := List.append_inj g ht
  clear g ht
  subst h3
  have hn : na.length = nb.length := by
    have a1 := wa.num
    have b1 := wb.num
    dsimp only at a1 b1
    rw [a1, b1]
  obtain ⟨h4, g3⟩ := List.append_inj g2 hn
  exact ⟨by rw [h4], g3⟩

theorem inB_nil : InB [] := fun x h => by (cases h)
theorem inB_cons {a : Int} {l : List Int} (h0 : 0 ≤ a) (h1 : a ≤ 255) (h : InB l) : InB (a :: l) := fun x hx => by
  rcases List.mem_cons.1 hx with rfl | hx
  · exact ⟨h0, h1⟩
  · exact h x hx
theorem inB_app {l m : List Int} (h : InB l) (h' : InB m) : InB (l ++ m) := fun x hx => (List.mem_append.1 hx).elim (h x) (h' x)
theorem leL_b (n : Int) (k : Nat) : InB (leL n k) := fun x hx => by
  have : x ∈ le8 n := List.mem_of_mem_take hx
  simp only [le8, List.mem_cons, List.not_mem_nil, or_false] at this
  omega
theorem Pc.Wf.inB {p : Pc} (w : p.Wf) : InB p.flat := by
  unfold Pc.flat
  refine inB_app ?_ (inB_app ?_ (inB_app ?_ (inB_app w.tb w.nb)))
  · rcases fsL_opt p.fs with h | ⟨c, h, hc⟩ <;> rw [h]
    · exact inB_nil
    · exact inB_cons (by omega) (by omega) inB_nil
  · rcases rxL_opt w.rex with h | ⟨c, h, hc⟩ <;> rw [h]
    · exact inB_nil
    · exact inB_cons (by omega) (by omega) inB_nil
  · rcases w.op with ⟨o, h, _, _, _, h0, h1⟩ | ⟨o, h, h0, h1⟩ <;> rw [h]
    · exact inB_cons h0 h1 inB_nil
    · exact inB_cons (by omega) (by omega) (inB_cons h0 h1 inB_nil)

/-- An instruction's parts. -/
def Enc.pc (e : Enc) : Pc := ⟨!e.pre.isEmpty, (rexL e.rex e.force).getD 0 0, e.op, e.tail, e.number⟩
def pcI (i : Ins) : Pc := if i.op = 32 then ⟨false, 72, [153], [], []⟩ else (encI i).pc
/-- Bits of an op with a rm operand beside the operand's own. -/
theorem rexL_pos {r : Int} {f : Bool} (h0 : 0 ≤ r) (h1 : r ≤ 15) : rexL r f = rxL ((rexL r f).getD 0 0) ∧ ((rexL r f).getD 0 0 = 0 ∨ (64 ≤ (rexL r f).getD 0 0 ∧ (rexL r f).getD 0 0 ≤ 79)) := by
  unfold rexL rxL
  cases (bif r != 0 then true else f) with
  | true =>
    simp only [cond_true, List.getD_cons_zero]
    rw [if_neg (by omega)]
    exact ⟨rfl, by omega⟩
  | false => simp
end Go.Proofs.YthmighgfefjcmaaGreat.Enc
end

section
/- Each instruction's bytes are made so. No condition. -/
set_option maxRecDepth 100000
namespace Go.Proofs.YthmighgfefjcmaaGreat.Enc
open Go.RowKit Go.Proofs.YthmighgfefjcmaaGreat.X Go.IntWalk

theorem modO_siz (o : Opd) : (modO o = 0 ∧ sizO o = 0 ∧ o.base.tmod 8 ≠ 5 ∧ dispN o = 0) ∨ (modO o = 1 ∧ sizO o = 1 ∧ -128 ≤ dispN o ∧ dispN o ≤ 127 ∧ anon o = true) ∨ (modO o = 2 ∧ sizO o = 4) := by
  unfold modO sizO
  cases anon o with
  | false => exact .inr (.inr ⟨rfl, rfl⟩)
  | true =>
    cases h0 : disp0 o with
    | true =>
      refine .inl ⟨rfl, rfl, ?_⟩
      unfold disp0 at h0
      simp at h0
      exact ⟨h0.2, h0.1⟩
    | false =>
      cases h1 : disp1 o with
      | true =>
        refine .inr (.inl ⟨rfl, rfl, ?_⟩)
        unfold disp1 at h1
        simp at h1
        exact ⟨h1.1, h1.2, rfl⟩
      | false => exact .inr (.inr ⟨rfl, rfl⟩)
/-- How an rm operand is written: in each case, its head and how many bytes behind it. -/
theorem rm_cases {o : Opd} (h : RmO o) (k : Int) :
    (RegO o ∧ rmHead k o = [192 + 8 * k + o.r % 8] ∧ rmSize o = 0) ∨
    (MemO o ∧ o.rip = true ∧ rmHead k o = [8 * k + 5] ∧ rmSize o = 4) ∨
    (MemO o ∧ o.rip = false ∧ o.fs = true ∧ rmHead k o = [8 * k + 4, 37] ∧ rmSize o = 4) ∨
    (MemO o ∧ o.rip = false ∧ o.fs = false ∧ 0 ≤ o.index ∧ rmHead k o = [64 * modO o + 8 * k + 4, 64 * logS o.scale + 8 * (o.index % 8) + o.base % 8] ∧ rmSize o = sizO o) ∨
    (MemO o ∧ o.rip = false ∧ o.fs = false ∧ o.index = -1 ∧ o.base % 8 = 4 ∧ rmHead k o = [64 * modO o + 8 * k + 4, 36] ∧ rmSize o = sizO o) ∨
    (MemO o ∧ o.rip = false ∧ o.fs = false ∧ o.index = -1 ∧ o.base % 8 ≠ 4 ∧ rmHead k o = [64 * modO o + 8 * k + o.base % 8] ∧ rmSize o = sizO o) := by
  unfold rmHead rmSize modrm
  rcases h with h | h
  · left
    rw [isR_reg h, tmod8 _ h.r0]
    exact ⟨h, by simp, rfl⟩
  · right
    rw [isR_mem h]
    rcases h.how with hh | hh | hh
    · left
      rw [hh.1]
      exact ⟨h, rfl, by simp, rfl⟩
    · right; left
      rw [hh.1, hh.2.1]
      exact ⟨h, rfl, rfl, by simp, rfl⟩
    · right; right
      obtain ⟨h1, h2, h3, h4, h5⟩ := hh
      rw [h1, h2]
      unfold hasX isSp
      rw [tmod8 _ h3]
      rcases h5 with ⟨h5, _⟩ | ⟨h5, _⟩
      · right
        rw [show decide (o.index ≥ 0) = false from decide_eq_false (by omega)]
        by_cases h6 : o.base % 8 = 4
        · left; exact ⟨h, rfl, rfl, h5, h6, by simp [h6], rfl⟩
        · right; exact ⟨h, rfl, rfl, h5, h6, by rw [show (o.base % 8 == 4) = false from beq_eq_false_iff_ne.2 h6]; simp, rfl⟩
      · left
        rw [show decide (o.index ≥ 0) = true from decide_eq_true h5, tmod8 _ h5]
        exact ⟨h, rfl, rfl, h5, rfl, rfl⟩
theorem MemO.based {o : Opd} (h : MemO o) (h1 : o.rip = false) (h2 : o.fs = false) : 0 ≤ o.base ∧ o.base ≤ 15 ∧ ((o.index = -1 ∧ o.scale = 0) ∨ (0 ≤ o.index ∧ o.index ≤ 15 ∧ o.index ≠ 4 ∧ (o.scale = 1 ∨ o.scale = 2 ∨ o.scale = 4 ∨ o.scale = 8))) := by
  rcases h.how with hh | hh | hh
  · rw [h1] at hh; cases hh.1
  · rw [h2] at hh; cases hh.2.1
  · exact hh.2.2
theorem tail_wf {o : Opd} (h : RmO o) {k : Int} (h0 : 0 ≤ k) (h1 : k ≤ 7) : (rmTail k o).length = tlen (rmTail k o) ∧ regT (rmTail k o) = k ∧ rmTail k o ≠ [] := by
  unfold rmTail
  have hsz := modO_siz o
  have hl := leL_lm (dispN o)
  rcases rm_cases h k with ⟨c, e1, e2⟩ | ⟨c, _, e1, e2⟩ | ⟨c, _, _, e1, e2⟩ | ⟨c, c1, c2, _, e1, e2⟩ | ⟨c, c1, c2, _, c4, e1, e2⟩ | ⟨c, c1, c2, _, c4, e1, e2⟩ <;> rw [e1, e2]
  · have := c.r0
    simp only [tlen, regT, List.cons_append, List.nil_append, List.getD_cons_zero, List.length_cons, hl]
    rw [if_pos (by omega)]
    exact ⟨rfl, by omega, by simp⟩
  · simp only [tlen, regT, List.cons_append, List.nil_append, List.getD_cons_zero, List.length_cons, hl, dlen]
    rw [if_neg (by omega), if_neg (by omega), if_pos (by omega), if_pos (by omega)]
    exact ⟨rfl, by omega, by simp⟩
  · simp only [tlen, regT, List.cons_append, List.nil_append, List.getD_cons_zero, List.getD_cons_succ, List.length_cons, hl, dlen]
    rw [if_neg (by omega), if_pos (by omega), if_pos (by omega), if_pos (by omega)]
    exact ⟨rfl, by omega, by simp⟩
  · obtain ⟨b0, b1, b2⟩ := c.based c1 c2
    rw [tmod8 _ b0] at hsz
    have := logS_le o.scale
    simp only [tlen, regT, List.cons_append, List.nil_append, List.getD_cons_zero, List.getD_cons_succ, List.length_cons, hl, dlen]
    rcases hsz with ⟨m, s, hb, _⟩ | ⟨m, s, _⟩ | ⟨m, s⟩ <;> rw [m, s]
    · rw [if_neg (by omega), if_pos (by omega), if_pos (by omega), if_neg (by omega)]; exact ⟨rfl, by omega, by simp⟩
    · rw [if_neg (by omega), if_pos (by omega), if_neg (by omega), if_pos (by omega)]; exact ⟨rfl, by omega, by simp⟩
    · rw [if_neg (by omega), if_pos (by omega), if_neg (by omega), if_neg (by omega)]; exact ⟨rfl, by omega, by simp⟩
  · simp only [tlen, regT, List.cons_append, List.nil_append, List.getD_cons_zero, List.getD_cons_succ, List.length_cons, hl, dlen]
    rcases hsz with ⟨m, s, hb, _⟩ | ⟨m, s, _⟩ | ⟨m, s⟩ <;> rw [m, s]
    · rw [if_neg (by omega), if_pos (by omega), if_pos (by omega), if_neg (by omega)]; exact ⟨rfl, by omega, by simp⟩
    · rw [if_neg (by omega), if_pos (by omega), if_neg (by omega), if_pos (by omega)]; exact ⟨rfl, by omega, by simp⟩
    · rw [if_neg (by omega), if_pos (by omega), if_neg (by omega), if_neg (by omega)]; exact ⟨rfl, by omega, by simp⟩
  · obtain ⟨b0, b1, b2⟩ := c.based c1 c2
    rw [tmod8 _ b0] at hsz
    simp only [tlen, regT, List.cons_append, List.nil_append, List.getD_cons_zero, List.length_cons, hl, dlen]
    rcases hsz with ⟨m, s, hb, _⟩ | ⟨m, s, _⟩ | ⟨m, s⟩ <;> rw [m, s]
    · rw [if_neg (by omega), if_neg (by omega), if_pos (by omega), if_neg (by omega)]; exact ⟨rfl, by omega, by simp⟩
    · rw [if_neg (by omega), if_neg (by omega), if_neg (by omega), if_pos (by omega)]; exact ⟨rfl, by omega, by simp⟩
    · rw [if_neg (by omega), if_neg (by omega), if_neg (by omega), if_neg (by omega)]; exact ⟨rfl, by omega, by simp⟩

theorem tail_b {o : Opd} (h : RmO o) {k : Int} (h0 : 0 ≤ k) (h1 : k ≤ 7) : InB (rmTail k o) := by
  unfold rmTail
  refine inB_app ?_ (leL_b _ _)
  have hsz := modO_siz o
  have hlg := logS_le o.scale
  rcases rm_cases h k with ⟨c, e1, _⟩ | ⟨c, _, e1, _⟩ | ⟨c, _, _, e1, _⟩ | ⟨c, c1, c2, _, e1, _⟩ | ⟨c, c1, c2, _, c4, e1, _⟩ | ⟨c, c1, c2, _, c4, e1, _⟩ <;> rw [e1]
  · exact inB_cons (by omega) (by omega) inB_nil
  · exact inB_cons (by omega) (by omega) inB_nil
  · exact inB_cons (by omega) (by omega) (inB_cons (by omega) (by omega) inB_nil)
  · exact inB_cons (by omega) (by omega) (inB_cons (by omega) (by omega) inB_nil)
  · exact inB_cons (by omega) (by omega) (inB_cons (by omega) (by omega) inB_nil)
  · exact inB_cons (by omega) (by omega) inB_nil

/-- What an op with an rm operand is made of. -/
def rexM (W : Int) (o : Opd) (force : Bool) : Int := (rexL (rexOr W (rmRex o)) force).getD 0 0
theorem pc_m (W k : Int) (o : Opd) (force : Bool) (op num : List Int) : (mE W k o force op num).pc = ⟨!(rmPre o).isEmpty, rexM W o force, op, rmTail k o, num⟩ := rfl
theorem pre_fs (o : Opd) : rmPre o = fsL (!(rmPre o).isEmpty) := by
  unfold rmPre; cases isR o <;> cases o.rip <;> cases o.fs <;> rfl
def opOk (op : List Int) : Prop := (∃ o, op = [o] ∧ o ≠ 15 ∧ o ≠ 100 ∧ ¬(64 ≤ o ∧ o ≤ 79) ∧ 0 ≤ o ∧ o ≤ 255) ∨ (∃ o, op = [15, o] ∧ 0 ≤ o ∧ o ≤ 255)
theorem wf_m {W k : Int} {o : Opd} (ho : RmO o) (force : Bool) {op num : List Int} (hW : W ≤ 15) (h0 : 0 ≤ k) (h1 : k ≤ 7) (hop : opOk op) (hm : hasM op) (hn : num.length = nlen op (rexM W o force) k) (hb : InB num) :
    (mE W k o force op num).pc.Wf ∧ (mE W k o force op num).pc.flat = (mE W k o force op num).bytes := by
  have hr := rexOr_le hW (show rmRex o ≤ 15 by have := rmRex_le o; omega)
  have hr2 := rexL_pos (f := force) hr.1 hr.2
  have ht := tail_wf ho h0 h1
  rw [pc_m]
  refine ⟨⟨hr2.2, hop, fun _ => ⟨ht.2.2, ht.1⟩, fun h => absurd hm h, ?_, tail_b ho h0 h1, hb⟩, ?_⟩
  · show num.length = nlen op _ (regT (rmTail k o)); rw [ht.2.1]; exact hn
  · show fsL (!(rmPre o).isEmpty) ++ (rxL (rexM W o force) ++ (op ++ (rmTail k o ++ num))) = rmPre o ++ rexL (rexOr W (rmRex o)) force ++ op ++ rmTail k o ++ num
    rw [← pre_fs o, hr2.1]
    simp only [rexM, List.append_assoc]
theorem wf_p {r : Int} {force : Bool} {op num : List Int} {hs : List Hol} (hr : 0 ≤ r ∧ r ≤ 15) (hop : opOk op) (hm : ¬hasM op) (hn : num.length = nlen op ((rexL r force).getD 0 0) 0) (hb : InB num := by first | exact leL_b _ _ | exact inB_nil) :
    (Enc.pc { rex := r, force := force, op := op, number := num, holes := hs }).Wf ∧ (Enc.pc { rex := r, force := force, op := op, number := num, holes := hs }).flat = Enc.bytes { rex := r, force := force, op := op, number := num, holes := hs } := by
  have hr2 := rexL_pos (f := force) hr.1 hr.2
  refine ⟨⟨hr2.2, hop, fun h => absurd h hm, fun _ => rfl, hn, inB_nil, hb⟩, ?_⟩
  show fsL false ++ (rxL ((rexL r force).getD 0 0) ++ (op ++ ([] ++ num))) = [] ++ rexL r force ++ op ++ [] ++ num
  conv => rhs; rw [hr2.1]
  simp [fsL]
end Go.Proofs.YthmighgfefjcmaaGreat.Enc
end

section
/- What is written of each form; it is made so. No condition. -/
set_option maxRecDepth 100000
namespace Go.Proofs.YthmighgfefjcmaaGreat.Enc
open Go.RowKit Go.Proofs.YthmighgfefjcmaaGreat.X Go.IntWalk

theorem nlen_0 {o rex reg : Int} (h : o < 64 ∨ (132 ≤ o ∧ o ≤ 144) ∨ o = 210 ∨ o = 211 ∨ 254 ≤ o ∨ ((o = 246 ∨ o = 247) ∧ reg ≠ 0) ∨ (80 ≤ o ∧ o ≤ 95) ∨ o = 195 ∨ o = 201 ∨ o = 153) : nlen [o] rex reg = 0 := by
  unfold nlen nlen1
  dsimp only
  rw [if_neg (by omega), if_neg (by omega), if_neg (by omega)]
  split
  · rw [if_neg (by omega)]
  · split
    · rw [if_neg (by omega)]
    · rfl
theorem nlen_1 {o rex reg : Int} (h : o = 128 ∨ o = 131 ∨ o = 192 ∨ o = 193 ∨ o = 198 ∨ o = 106 ∨ o = 235 ∨ (112 ≤ o ∧ o ≤ 127) ∨ (176 ≤ o ∧ o ≤ 183) ∨ (o = 246 ∧ reg = 0)) : nlen [o] rex reg = 1 := by
  unfold nlen nlen1
  dsimp only
  by_cases h6 : o = 246
  · rw [if_neg (by omega), if_neg (by omega), if_neg (by omega), if_pos h6, if_pos (by omega)]
  · rw [if_pos (by omega)]
theorem nlen_4 {o rex reg : Int} (h : o = 129 ∨ o = 199 ∨ o = 104 ∨ o = 232 ∨ o = 233 ∨ (184 ≤ o ∧ o ≤ 191 ∧ rex / 8 % 2 ≠ 1) ∨ (o = 247 ∧ reg = 0)) : nlen [o] rex reg = 4 := by
  unfold nlen nlen1
  dsimp only
  rw [if_neg (by omega)]
  by_cases h7 : o = 247
  · rw [if_neg (by omega), if_neg (by omega), if_neg (by omega), if_pos h7, if_pos (by omega)]
  · by_cases h8 : 184 ≤ o ∧ o ≤ 191
    · rw [if_neg (by omega), if_pos h8, if_neg (by omega)]
    · rw [if_pos (by omega)]
theorem nlen_8 {o rex reg : Int} (h : 184 ≤ o ∧ o ≤ 191 ∧ rex / 8 % 2 = 1) : nlen [o] rex reg = 8 := by
  unfold nlen nlen1
  dsimp only
  rw [if_neg (by omega), if_neg (by omega), if_pos (by omega), if_pos (by omega)]

theorem codes {op : Int} (h : op = 1 ∨ (3 ≤ op ∧ op ≤ 10) ∨ op = 11 ∨ op = 31) : (op = 1 ∧ codeS op = 136 ∧ codeG op = 137) ∨ (op = 11 ∧ codeS op = 132 ∧ codeG op = 133) ∨ (op = 31 ∧ codeS op = 135 ∧ codeG op = 135) ∨ (3 ≤ op ∧ op ≤ 10 ∧ codeS op = 8 * (op - 3) ∧ codeG op = 8 * (op - 3) + 1) := by
  rcases h with rfl | h | rfl | rfl
  · exact .inl ⟨rfl, rfl, rfl⟩
  · refine .inr (.inr (.inr ⟨h.1, h.2, ?_, ?_⟩))
    · unfold codeS
      rw [show (op == 1) = false from beq_eq_false_iff_ne.2 (by omega), show (op == 11) = false from beq_eq_false_iff_ne.2 (by omega), show (op == 31) = false from beq_eq_false_iff_ne.2 (by omega)]; rfl
    · unfold codeG
      rw [show (op == 1) = false from beq_eq_false_iff_ne.2 (by omega), show (op == 11) = false from beq_eq_false_iff_ne.2 (by omega), show (op == 31) = false from beq_eq_false_iff_ne.2 (by omega)]; rfl
  · exact .inr (.inl ⟨rfl, rfl, rfl⟩)
  · exact .inr (.inr (.inl ⟨rfl, rfl, rfl⟩))
theorem szOp_1 {s a b : Int} (h : s = 1) : szOp s a b = a := by unfold szOp; rw [h]; rfl
theorem szOp_n {s a b : Int} (h : Sz4 s) : szOp s a b = b := by
  unfold szOp; rcases h with h | h <;> rw [h] <;> rfl
theorem sz_or {s : Int} (h : Sz9 s) : s = 1 ∨ Sz4 s := h
theorem min4_1 {s : Int} (h : s = 1) : (min4 s).toNat = 1 := by unfold min4; rw [h]; rfl
theorem min4_4 {s : Int} (h : Sz4 s) : (min4 s).toNat = 4 := by unfold min4; rcases h with h | h <;> rw [h] <;> rfl
theorem beqF {a b : Int} (h : a ≠ b) : (a == b) = false := beq_eq_false_iff_ne.2 h
theorem beqT {a b : Int} (h : a = b) : (a == b) = true := beq_iff_eq.2 h

section
variable {i : Ins}
/-- What is written of each form. -/
theorem e_rr (op : i.op = 1 ∨ (3 ≤ i.op ∧ i.op ≤ 10) ∨ i.op = 11 ∨ i.op = 31) (src : RegO i.src) :
    encI i = mE (rexW i.size + rexR i.src.r) (i.src.r % 8) i.to (lowF i.to i.size || lowF i.src i.size) [szOp i.size (codeS i.op) (codeG i.op)] [] := by
  rw [enc_sum (by omega)]
  unfold sumE
  rw [isI_reg src, isR_reg src, cond_false, cond_true, regE_eq, tmod8 _ src.r0]
theorem e_rm (op : i.op = 1 ∨ (3 ≤ i.op ∧ i.op ≤ 10)) (to : RegO i.to) (src : MemO i.src) :
    encI i = mE (rexW i.size + rexR i.to.r) (i.to.r % 8) i.src (lowF i.to i.size || lowF i.src i.size) [szOp i.size (codeS i.op) (codeG i.op) + 2] [] := by
  rw [enc_sum (by omega)]
  unfold sumE
  rw [isI_mem src, isR_mem src, cond_false, cond_false, regE_eq, tmod8 _ to.r0]
theorem e_imm (op : i.op = 1 ∨ (3 ≤ i.op ∧ i.op ≤ 10) ∨ i.op = 11) (src : ImmO i.src) : encI i = immE i := by
  rw [enc_sum (by omega)]
  unfold sumE
  rw [isI_imm src, cond_true]
theorem e_mv (op : i.op = 1) (src : ImmO i.src) (to : RegO i.to) (h : i.size < 8 ∨ fits32 i.src.n = false) :
    encI i = { rex := rexOr (bif decide (i.to.r ≥ 8) then 1 else 0) (rexW i.size), force := lowF i.to i.size, op := [szOp i.size 176 184 + i.to.r % 8], number := leL i.src.n i.size.toNat } := by
  rw [e_imm (.inl op) src]
  unfold immE
  rw [beqT op, isR_reg to, cond_true, cond_true, tmod8 _ to.r0]
  have : (bif decide (i.size < 8) then true else !fits32 i.src.n) = true := by
    rcases h with h | h
    · rw [decide_eq_true h]; rfl
    · rw [h]; cases decide (i.size < 8) <;> rfl
  rw [this]; rfl
theorem e_mv2 (op : i.op = 1) (src : ImmO i.src) (h : MemO i.to ∨ (RegO i.to ∧ i.size = 8 ∧ fits32 i.src.n = true)) :
    encI i = mE (rexW i.size) 0 i.to (lowF i.to i.size) [szOp i.size 198 199] (leL i.src.n (min4 i.size).toNat) := by
  rw [e_imm (.inl op) src]
  unfold immE
  rw [beqT op, cond_true]
  have : (bif isR i.to then bif decide (i.size < 8) then true else !fits32 i.src.n else false) = false := by
    rcases h with h | ⟨h, h2, h3⟩
    · rw [isR_mem h]; rfl
    · rw [isR_reg h, h2, h3]; rfl
  rw [this, cond_false, cond_true, groupE_eq]
theorem e_ti (op : i.op = 11) (src : ImmO i.src) :
    encI i = mE (rexW i.size) 0 i.to (lowF i.to i.size) [szOp i.size 246 247] (leL i.src.n (min4 i.size).toNat) := by
  rw [e_imm (by omega) src]
  unfold immE
  rw [op]
  exact groupE_eq _ _ _ _ _ _
theorem e_gi (op : 3 ≤ i.op ∧ i.op ≤ 10) (src : ImmO i.src) (h : i.size ≠ 1 ∧ short8 i.size i.src.n = true) :
    encI i = mE (rexW i.size) (i.op - 3) i.to (lowF i.to i.size) [131] (leL i.src.n 1) := by
  rw [e_imm (by omega) src]
  unfold immE
  simp only [beqF (show i.op ≠ 1 by omega), beqF (show i.op ≠ 11 by omega), cond_false, show (i.size != 1) = true by simp [h.1], h.2, cond_true]
  refine (groupE_eq _ _ _ _ _ _).trans ?_
  congr 2
  unfold szOp; cases i.size == 1 <;> rfl
theorem e_gi2 (op : 3 ≤ i.op ∧ i.op ≤ 10) (src : ImmO i.src) (h : i.size = 1 ∨ short8 i.size i.src.n = false) :
    encI i = mE (rexW i.size) (i.op - 3) i.to (lowF i.to i.size) [szOp i.size 128 129] (leL i.src.n (min4 i.size).toNat) := by
  rw [e_imm (by omega) src]
  unfold immE
  have : (bif i.size != 1 then short8 i.size i.src.n else false) = false := by
    rcases h with h | h
    · rw [h]; rfl
    · rw [h]; cases i.size != 1 <;> rfl
  simp only [beqF (show i.op ≠ 1 by omega), beqF (show i.op ≠ 11 by omega), cond_false, this]
  exact groupE_eq _ _ _ _ _ _
theorem enc_ot' (h : i.op = 2 ∨ (12 ≤ i.op ∧ i.op ≤ 16) ∨ (25 ≤ i.op ∧ i.op ≤ 30) ∨ (32 ≤ i.op ∧ i.op ≤ 35)) : encI i = otE i := enc_ot (by omega) (by omega) (by omega) (by omega)
def ldOp (op c : Int) : List Int := if op = 2 then [141] else if op = 12 then [15, 175] else if op = 28 then [15, 64 + c] else if op = 29 then [15, 182] else [15, 190]
theorem e_ld (op : i.op = 2 ∨ i.op = 12 ∨ i.op = 28 ∨ i.op = 29 ∨ i.op = 30) (to : RegO i.to) :
    encI i = mE (rexW i.size + rexR i.to.r) (i.to.r % 8) i.src (bif i.op == 29 || i.op == 30 then lowF i.src 1 else false) (ldOp i.op i.cond) [] := by
  rw [enc_ot' (by omega)]
  unfold otE
  rcases op with op | op | op | op | op <;> rw [op] <;> exact (regE_eq _ _ _ _ _).trans (by rw [tmod8 _ to.r0]; rfl)
def oneOp (op size : Int) : Int := if op ≤ 14 then szOp size 246 247 else szOp size 254 255
def oneK (op : Int) : Int := if op = 13 then 3 else if op = 14 then 2 else if op = 15 then 0 else 1
theorem e_one (op : 13 ≤ i.op ∧ i.op ≤ 16) : encI i = mE (rexW i.size) (oneK i.op) i.to (lowF i.to i.size) [oneOp i.op i.size] [] := by
  rw [enc_ot' (by omega)]
  have : i.op = 13 ∨ i.op = 14 ∨ i.op = 15 ∨ i.op = 16 := by omega
  unfold otE
  rcases this with op | op | op | op <;> rw [op] <;> exact groupE_eq _ _ _ _ _ _
theorem e_set (op : i.op = 27) : encI i = mE 0 0 i.to (lowF i.to 1) [15, 144 + i.cond] [] := by
  rw [enc_ot' (by omega)]
  unfold otE
  rw [op]; rfl
theorem e_shi (op : 17 ≤ i.op ∧ i.op ≤ 19) (src : ImmO i.src) : encI i = mE (rexW i.size) (shK i.op) i.to (lowF i.to i.size) [szOp i.size 192 193] (leL i.src.n 1) := by
  rw [enc_sh op]
  unfold shE
  rw [isI_imm src]; rfl
theorem e_shr (op : 17 ≤ i.op ∧ i.op ≤ 19) (src : RegO i.src) : encI i = mE (rexW i.size) (shK i.op) i.to (lowF i.to i.size) [szOp i.size 210 211] [] := by
  rw [enc_sh op]
  unfold shE
  rw [isI_reg src]; rfl
theorem e_pushr (op : i.op = 20) (src : RegO i.src) : encI i = plusE i.src.r 80 := by
  rw [enc_st (.inl op)]
  unfold stE
  rw [op, isR_reg src]; rfl
theorem e_pushm (op : i.op = 20) (src : MemO i.src) : encI i = mE 0 6 i.src false [255] [] := by
  rw [enc_st (.inl op)]
  unfold stE
  rw [op, isR_mem src, isM_mem src]; rfl
theorem e_pushi (op : i.op = 20) (src : ImmO i.src) : encI i = bif byteN i.src.n then { op := [106], number := leL i.src.n 1 } else { op := [104], number := leL i.src.n 4 } := by
  rw [enc_st (.inl op)]
  unfold stE
  rw [op, isR_imm src, isM_imm src]; rfl
theorem e_popr (op : i.op = 21) (to : RegO i.to) : encI i = plusE i.to.r 88 := by
  rw [enc_st (.inr op)]
  unfold stE
  rw [op, isR_reg to]; rfl
theorem e_popm (op : i.op = 21) (to : MemO i.to) : encI i = mE 0 0 i.to false [143] [] := by
  rw [enc_st (.inr op)]
  unfold stE
  rw [op, isR_mem to]; rfl
theorem e_jt (op : i.op = 22 ∨ i.op = 23 ∨ i.op = 24) (to : TgtO i.to) : encI i = { op := jOp i, number := leL i.to.n (jSize i).toNat, holes := jHole i } := by
  rw [enc_j op]
  unfold jE
  rw [isT_tgt to]; rfl
theorem e_jm (op : i.op = 22 ∨ i.op = 23) (to : RmO i.to) : encI i = mE 0 (if i.op = 22 then 2 else 4) i.to false [255] [] := by
  rw [enc_j (by omega)]
  unfold jE
  rw [isT_rm to]
  rcases op with op | op <;> rw [op] <;> rfl
def bareOp (op : Int) : List Int := if op = 25 then [195] else if op = 26 then [201] else if op = 33 then [144] else if op = 32 then [72, 153] else if op = 34 then [15, 11] else [15, 5]
theorem e_bare (op : i.op = 25 ∨ i.op = 26 ∨ (32 ≤ i.op ∧ i.op ≤ 35)) : encI i = { op := bareOp i.op } := by
  rw [enc_ot' (by omega)]
  have : i.op = 25 ∨ i.op = 26 ∨ i.op = 32 ∨ i.op = 33 ∨ i.op = 34 ∨ i.op = 35 := by omega
  unfold otE
  rcases this with op | op | op | op | op | op <;> rw [op] <;> rfl
end
theorem opOk1 {o : Int} (h1 : o ≠ 15) (h2 : o ≠ 100) (h3 : ¬(64 ≤ o ∧ o ≤ 79) ∧ 0 ≤ o ∧ o ≤ 255) : opOk [o] := .inl ⟨o, rfl, h1, h2, h3⟩
theorem opOk2 {o : Int} (h : 0 ≤ o ∧ o ≤ 255) : opOk [15, o] := .inr ⟨o, rfl, h⟩
end Go.Proofs.YthmighgfefjcmaaGreat.Enc
end

section
/- The document's layer 3: which instructions there are: shown. No condition. -/
set_option maxRecDepth 100000
namespace Go.Proofs.YthmighgfefjcmaaGreat.Enc
open Go.RowKit Go.Proofs.YthmighgfefjcmaaGreat.X Go.IntWalk

def sizeD (op s : Int) : Bool :=
  bif (bif op == 1 then op == 1 else bif op == 3 then op == 3 else bif op == 4 then op == 4 else bif op == 5 then op == 5 else bif op == 6 then op == 6 else bif op == 7 then op == 7 else bif op == 8 then op == 8 else bif op == 9 then op == 9 else bif op == 10 then op == 10 else bif op == 11 then op == 11 else bif op == 13 then op == 13 else bif op == 14 then op == 14 else bif op == 15 then op == 15 else bif op == 16 then op == 16
    else (bif op == 17 then op == 17 else bif op == 18 then op == 18 else op == 19)) then (bif s == 1 then true else bif s == 4 then true else s == 8)
  else bif (bif op == 2 then op == 2 else bif op == 12 then op == 12 else bif op == 28 then op == 28 else bif op == 29 then op == 29 else bif op == 30 then op == 30 else op == 31) then (bif s == 4 then true else s == 8)
  else bif (bif op == 20 then op == 20 else bif op == 21 then op == 21 else (bif op == 22 then op == 22 else bif op == 23 then op == 23 else op == 24)) then s == 8
  else bif op == 27 then s == 1
  else bif (bif op == 25 then op == 25 else bif op == 26 then op == 26 else bif op == 32 then op == 32 else bif op == 33 then op == 33 else bif op == 34 then op == 34 else op == 35) then s == 0 else false
def condD (op c : Int) : Bool := bif (bif op == 24 then true else bif op == 27 then true else op == 28) then (bif decide (c ≥ 0) then decide (c < 16) else false) else c == 0
def shortD (i : Ins) : Bool := bif i.short then bif i.op != 23 then i.op != 24 else false else false
theorem op_cases (op : Int) : (op < 1 ∨ op > 35) ∨ (op = 1 ∨ op = 2 ∨ op = 3 ∨ op = 4 ∨ op = 5 ∨ op = 6 ∨ op = 7 ∨ op = 8 ∨ op = 9 ∨ op = 10 ∨ op = 11 ∨ op = 12 ∨ op = 13 ∨ op = 14 ∨ op = 15 ∨ op = 16 ∨ op = 17 ∨ op = 18 ∨ op = 19 ∨ op = 20 ∨ op = 21 ∨ op = 22 ∨ op = 23 ∨ op = 24 ∨ op = 25 ∨ op = 26 ∨ op = 27 ∨ op = 28 ∨ op = 29 ∨ op = 30 ∨ op = 31 ∨ op = 32 ∨ op = 33 ∨ op = 34 ∨ op = 35) := by omega
theorem sizeD_eq (op s : Int) : sizeD op s = (!(bif decide (op < 1) then true else decide (op > 35)) && sizeB op s) := by
  rcases op_cases op with h | h
  · have hr : (bif decide (op < 1) then true else decide (op > 35)) = true := by
      rcases h with h | h
      · rw [decide_eq_true h]; rfl
      · rw [decide_eq_true h]; cases decide (op < 1) <;> rfl
    rw [hr]
    unfold sizeD
    have n : ∀ k : Int, 1 ≤ k → k ≤ 35 → (op == k) = false := fun k h1 h2 => beqF (by omega)
    simp only [n 1 (by omega) (by omega), n 2 (by omega) (by omega), n 3 (by omega) (by omega), n 4 (by omega) (by omega), n 5 (by omega) (by omega), n 6 (by omega) (by omega), n 7 (by omega) (by omega), n 8 (by omega) (by omega), n 9 (by omega) (by omega), n 10 (by omega) (by omega), n 11 (by omega) (by omega), n 12 (by omega) (by omega), n 13 (by omega) (by omega), n 14 (by omega) (by omega), n 15 (by omega) (by omega), n 16 (by omega) (by omega), n 17 (by omega) (by omega), n 18 (by omega) (by omega), n 19 (by omega) (by omega), n 20 (by omega) (by omega), n 21 (by omega) (by omega), n 22 (by omega) (by omega), n 23 (by omega) (by omega), n 24 (by omega) (by omega), n 25 (by omega) (by omega), n 26 (by omega) (by omega), n 27 (by omega) (by omega), n 28 (by omega) (by omega), n 29 (by omega) (by omega), n 30 (by omega) (by omega), n 31 (by omega) (by omega), n 32 (by omega) (by omega), n 33 (by omega) (by omega), n 34 (by omega) (by omega), n 35 (by omega) (by omega), cond_false]
    rfl
  · have key : ∀ a b c d : Bool, (a && b) = false → (a && c) = false → (a && d) = false → (b && c) = false → (b && d) = false → (c && d) = false →
        (bif (bif op == 1 then op == 1 else bif op == 3 then op == 3 else bif op == 4 then op == 4 else bif op == 5 then op == 5 else bif op == 6 then op == 6 else bif op == 7 then op == 7 else bif op == 8 then op == 8 else bif op == 9 then op == 9 else bif op == 10 then op == 10 else bif op == 11 then op == 11 else bif op == 13 then op == 13 else bif op == 14 then op == 14 else bif op == 15 then op == 15 else bif op == 16 then op == 16
          else (bif op == 17 then op == 17 else bif op == 18 then op == 18 else op == 19)) then (bif a then true else bif b then true else c)
        else bif (bif op == 2 then op == 2 else bif op == 12 then op == 12 else bif op == 28 then op == 28 else bif op == 29 then op == 29 else bif op == 30 then op == 30 else op == 31) then (bif b then true else c)
        else bif (bif op == 20 then op == 20 else bif op == 21 then op == 21 else (bif op == 22 then op == 22 else bif op == 23 then op == 23 else op == 24)) then c
        else bif op == 27 then a
        else bif (bif op == 25 then op == 25 else bif op == 26 then op == 26 else bif op == 32 then op == 32 else bif op == 33 then op == 33 else bif op == 34 then op == 34 else op == 35) then d else false) =
        (!(bif decide (op < 1) then true else decide (op > 35)) && byOp op (s9 a b c) (s9 a b c) (!(!d)) (s9 a b c) (s4 a b c) (s9 a b c) (s4 a b c) (s8 a b c) (s8 a b c) (!(!c)) (!(!c)) (!(!c)) (!(!a)) (s4 a b c) (s4 a b c) (s9 a b c)) := by
      intro a b c d
      rcases h with rfl | rfl | rfl | rfl | rfl | rfl | rfl | rfl | rfl | rfl | rfl | rfl | rfl | rfl | rfl | rfl | rfl | rfl | rfl | rfl | rfl | rfl | rfl | rfl | rfl | rfl | rfl | rfl | rfl | rfl | rfl | rfl | rfl | rfl | rfl <;> cases a <;> cases b <;> cases c <;> cases d <;> first | exact fun _ _ _ _ _ _ => rfl | exact fun h => Bool.noConfusion h | exact fun _ h => Bool.noConfusion h | exact fun _ _ h => Bool.noConfusion h | exact fun _ _ _ h => Bool.noConfusion h | exact fun _ _ _ _ h => Bool.noConfusion h | exact fun _ _ _ _ _ h => Bool.noConfusion h
    have ex : ∀ m n : Int, m ≠ n → ((s == m) && (s == n)) = false := fun m n hmn => by
      by_cases h1 : s = m
      · rw [beqF (show s ≠ n by omega), Bool.and_false]
      · rw [beqF h1, Bool.false_and]
    exact key (s == 1) (s == 4) (s == 8) (s == 0) (ex _ _ (by decide)) (ex _ _ (by decide)) (ex _ _ (by decide)) (ex _ _ (by decide)) (ex _ _ (by decide)) (ex _ _ (by decide))
theorem condD_eq (op c : Int) : condD op c = ((!decide (c < 0) && !decide (c > 15)) && condB op c) := by
  have hB : condB op c = (bif (bif op == 24 then true else bif op == 27 then true else op == 28) then true else c == 0) := by
    unfold condB
    simp only [bne, Bool.not_not]
    generalize (c == 0) = z
    by_cases h24 : op = 24
    · subst h24; cases z <;> rfl
    · by_cases h27 : op = 27
      · subst h27; cases z <;> rfl
      · by_cases h28 : op = 28
        · subst h28; cases z <;> rfl
        · unfold byOp sel
          rw [beqF h24, beqF h27, beqF h28]
          simp only [cond_false]
          generalize isOne op = a1
          generalize isSh op = a2
          generalize isBare op = a3
          generalize (op == 1) = a4
          generalize (op == 2) = a5
          generalize (op == 11) = a6
          generalize isLd op = a7
          generalize (op == 20) = a8
          generalize (op == 21) = a9
          generalize (op == 22) = a10
          generalize (op == 23) = a11
          generalize (op == 31) = a12
          simp only [bsame]
  rw [hB]
  unfold condD
  cases (bif op == 24 then true else bif op == 27 then true else op == 28) with
  | true =>
    simp only [cond_true, Bool.and_true]
    by_cases h0 : c < 0
    · rw [decide_eq_true h0, decide_eq_false (show ¬ c ≥ 0 by omega)]; rfl
    · rw [decide_eq_false h0, decide_eq_true (show c ≥ 0 by omega)]
      by_cases h1 : c > 15
      · rw [decide_eq_true h1, decide_eq_false (show ¬ c < 16 by omega)]; rfl
      · rw [decide_eq_false h1, decide_eq_true (show c < 16 by omega)]; rfl
  | false =>
    simp only [cond_false]
    by_cases h : c = 0
    · subst h; rfl
    · rw [beqF h, Bool.and_false]
theorem shortD_eq (i : Ins) : (!((!bif i.op == 23 then true else i.op == 24) && i.short)) = !shortD i := by
  unfold shortD bne
  cases i.op == 23 <;> cases i.op == 24 <;> cases i.short <;> rfl
theorem chk_D (i : Ins) : chkB i = (sizeD i.op i.size && (condD i.op i.cond && (opsB i && !shortD i))) := by
  rw [sizeD_eq, condD_eq]
  unfold chkB
  rw [shortD_eq]
  generalize (!(bif decide (i.op < 1) then true else decide (i.op > 35))) = a
  generalize sizeB i.op i.size = b
  generalize (!decide (i.cond < 0)) = c
  generalize (!decide (i.cond > 15)) = d
  generalize condB i.op i.cond = e
  generalize opsB i = f
  generalize (!shortD i) = g
  cases a <;> cases b <;> cases c <;> cases d <;> cases e <;> cases f <;> cases g <;> rfl
theorem tl {K O xo x55 : Bool} {X Y : Prop} (F : K = false → X) (G : K = true → Y) (hK : K = (O && !x55)) (hO : O = !xo) : (xo = true → X) ∧ (xo = false → (x55 = true → X) ∧ (x55 = false → Y)) := by
  subst hO hK
  cases xo <;> cases x55 <;> simp_all
section
variable {o : Opd}
theorem reg_kind (h : regB o = true) : o.kind = 1 := (regO h).kind
theorem imm_kind (h : immB o = true) : o.kind = 2 := (immO h).kind
theorem mem_kind (h : memB o = true) : o.kind = 3 := (memO h).kind
theorem tgt_kind (h : tgtB o = true) : o.kind = 4 := (tgtO h).kind
theorem excl {a b : Bool} {k m : Int} (ha : a = true → o.kind = k) (hb : b = true → o.kind = m) (h : k ≠ m) : (a && b) = false := by
  cases ha' : a <;> cases hb' : b <;> first | rfl | exact absurd ((ha ha').symm.trans (hb hb')) h
end
end Go.Proofs.YthmighgfefjcmaaGreat.Enc
end

section
/- The document's layer 3: Check, shown. No condition. -/
set_option maxRecDepth 100000
namespace Go.Proofs.YthmighgfefjcmaaGreat.Enc
open Go.RowKit Go.Proofs.YthmighgfefjcmaaGreat.X Go.IntWalk

section
variable {i : Ins}
theorem ops_1 (h : i.op = 1) : opsB i = movB i := by unfold opsB; rw [h]; exact Bool.not_not _
theorem ops_2 (h : i.op = 2) : opsB i = leaB i := by unfold opsB; rw [h]; exact Bool.not_not _
theorem ops_11 (h : i.op = 11) : opsB i = testB i := by unfold opsB; rw [h]; exact Bool.not_not _
theorem ops_12 (h : i.op = 12) : opsB i = ldB i := by unfold opsB; rw [h]; exact Bool.not_not _
theorem ops_13 (h : i.op = 13) : opsB i = oneB i := by unfold opsB; rw [h]; exact Bool.not_not _
theorem ops_14 (h : i.op = 14) : opsB i = oneB i := by unfold opsB; rw [h]; exact Bool.not_not _
theorem ops_15 (h : i.op = 15) : opsB i = oneB i := by unfold opsB; rw [h]; exact Bool.not_not _
theorem ops_16 (h : i.op = 16) : opsB i = oneB i := by unfold opsB; rw [h]; exact Bool.not_not _
theorem ops_17 (h : i.op = 17) : opsB i = shiftB i := by unfold opsB; rw [h]; exact Bool.not_not _
theorem ops_18 (h : i.op = 18) : opsB i = shiftB i := by unfold opsB; rw [h]; exact Bool.not_not _
theorem ops_19 (h : i.op = 19) : opsB i = shiftB i := by unfold opsB; rw [h]; exact Bool.not_not _
theorem ops_20 (h : i.op = 20) : opsB i = pushB i := by unfold opsB; rw [h]; exact Bool.not_not _
theorem ops_21 (h : i.op = 21) : opsB i = oneB i := by unfold opsB; rw [h]; exact Bool.not_not _
theorem ops_22 (h : i.op = 22) : opsB i = callB i := by unfold opsB; rw [h]; exact Bool.not_not _
theorem ops_23 (h : i.op = 23) : opsB i = jmpB i := by unfold opsB; rw [h]; exact Bool.not_not _
theorem ops_24 (h : i.op = 24) : opsB i = nearB i := by unfold opsB; rw [h]; exact Bool.not_not _
theorem ops_25 (h : i.op = 25) : opsB i = bareB i := by unfold opsB; rw [h]; exact Bool.not_not _
theorem ops_26 (h : i.op = 26) : opsB i = bareB i := by unfold opsB; rw [h]; exact Bool.not_not _
theorem ops_27 (h : i.op = 27) : opsB i = oneB i := by unfold opsB; rw [h]; exact Bool.not_not _
theorem ops_28 (h : i.op = 28) : opsB i = ldB i := by unfold opsB; rw [h]; exact Bool.not_not _
theorem ops_29 (h : i.op = 29) : opsB i = ldB i := by unfold opsB; rw [h]; exact Bool.not_not _
theorem ops_30 (h : i.op = 30) : opsB i = ldB i := by unfold opsB; rw [h]; exact Bool.not_not _
theorem ops_31 (h : i.op = 31) : opsB i = xchgB i := by unfold opsB; rw [h]; exact Bool.not_not _
theorem ops_32 (h : i.op = 32) : opsB i = bareB i := by unfold opsB; rw [h]; exact Bool.not_not _
theorem ops_33 (h : i.op = 33) : opsB i = bareB i := by unfold opsB; rw [h]; exact Bool.not_not _
theorem ops_34 (h : i.op = 34) : opsB i = bareB i := by unfold opsB; rw [h]; exact Bool.not_not _
theorem ops_35 (h : i.op = 35) : opsB i = bareB i := by unfold opsB; rw [h]; exact Bool.not_not _
theorem ops_3 (h : 3 ≤ i.op ∧ i.op ≤ 10) : opsB i = sumB i := by
  have : i.op = 3 ∨ i.op = 4 ∨ i.op = 5 ∨ i.op = 6 ∨ i.op = 7 ∨ i.op = 8 ∨ i.op = 9 ∨ i.op = 10 := by omega
  unfold opsB
  rcases this with h | h | h | h | h | h | h | h <;> rw [h] <;> exact Bool.not_not _
theorem sum_D : sumB i = (bif immB i.src then (bif rmB i.to then fitsB i.src.n i.size else false) else bif rmB i.to then bif regB i.src then true else loadB i else loadB i) := by
  have e1 := excl (o := i.src) (a := immB i.src) (b := regB i.src) imm_kind reg_kind (by decide)
  have e2 := excl (o := i.src) (a := immB i.src) (b := memB i.src) imm_kind mem_kind (by decide)
  unfold sumB givenB loadB
  generalize immB i.src = a at *
  generalize regB i.src = b at *
  generalize memB i.src = c at *
  generalize rmB i.to = d
  generalize regB i.to = e
  generalize fitsB i.src.n i.size = g
  cases a <;> cases b <;> cases c <;> cases d <;> cases e <;> cases g <;> first | rfl | exact absurd e1 (by decide) | exact absurd e2 (by decide)
theorem test_D : testB i = (bif sumB i then i.src.kind != 3 else false) := by
  rw [sum_D]
  have e1 := excl (o := i.src) (a := immB i.src) (b := regB i.src) imm_kind reg_kind (by decide)
  have e2 := excl (o := i.src) (a := immB i.src) (b := memB i.src) imm_kind mem_kind (by decide)
  have e3 := excl (o := i.src) (a := regB i.src) (b := memB i.src) reg_kind mem_kind (by decide)
  have k1 : immB i.src = true → (i.src.kind != 3) = true := fun h => by rw [imm_kind h]; rfl
  have k2 : regB i.src = true → (i.src.kind != 3) = true := fun h => by rw [reg_kind h]; rfl
  have k3 : memB i.src = true → (i.src.kind != 3) = false := fun h => by rw [mem_kind h]; rfl
  unfold testB givenB loadB
  generalize (i.src.kind != 3) = k at *
  generalize immB i.src = a at *
  generalize regB i.src = b at *
  generalize memB i.src = c at *
  generalize rmB i.to = d
  generalize regB i.to = e
  generalize fitsB i.src.n i.size = g
  cases a <;> cases b <;> cases c <;> cases d <;> cases e <;> cases g <;> cases k <;> simp_all
theorem rm_tgt : (tgtB i.to && rmB i.to) = false := by
  cases ht : tgtB i.to with
  | false => rfl
  | true =>
    cases hr : rmB i.to with
    | false => rfl
    | true =>
      have hk := tgt_kind ht
      rcases rmB_or hr with h | h
      · rw [h.kind] at hk; cases hk
      · rw [h.kind] at hk; cases hk
def jmpsD (i : Ins) : Bool := bif !noneB i.src then false else bif tgtB i.to then bif !i.short then true else bif i.op != 22 then bif !anon i.to then true else bif decide (i.to.n ≥ -128) then decide (i.to.n ≤ 127) else false else false else bif !i.short then bif i.op != 24 then rmB i.to else false else false
theorem jmps_D (h : i.op = 22 ∨ i.op = 23 ∨ i.op = 24) : opsB i = jmpsD i := by
  have e := rm_tgt (i := i)
  unfold jmpsD
  generalize hf : (bif !anon i.to then true else bif decide (i.to.n ≥ -128) then decide (i.to.n ≤ 127) else false) = far
  rcases h with h | h | h
  · rw [ops_22 h, h]
    unfold callB nearB oneB
    rw [hf]
    generalize noneB i.src = a at *
    generalize tgtB i.to = b at *
    generalize rmB i.to = c at *
    generalize i.short = d
    cases a <;> cases b <;> cases c <;> cases d <;> cases far <;> first | rfl | exact absurd e (by decide)
  · rw [ops_23 h, h]
    unfold jmpB nearB oneB
    rw [hf]
    generalize noneB i.src = a at *
    generalize tgtB i.to = b at *
    generalize rmB i.to = c at *
    generalize i.short = d
    cases a <;> cases b <;> cases c <;> cases d <;> cases far <;> first | rfl | exact absurd e (by decide)
  · rw [ops_24 h, h]
    unfold nearB
    rw [hf]
    generalize noneB i.src = a at *
    generalize tgtB i.to = b at *
    generalize rmB i.to = c at *
    generalize i.short = d
    cases a <;> cases b <;> cases c <;> cases d <;> cases far <;> first | rfl | exact absurd e (by decide)
theorem sh_D1 {m : Int} (h : byB i m = true) : shiftM i m = rmB i.to := by
  unfold shiftM
  rw [h]
  cases rmB i.to <;> cases regB i.src <;> cases i.src.r == 1 <;> rfl
theorem sh_D2 {m : Int} (h : byB i m = false) : shiftM i m = (bif regB i.src then bif rmB i.to then i.src.r == 1 else false else false) := by
  unfold shiftM
  rw [h]
  cases rmB i.to <;> cases regB i.src <;> cases i.src.r == 1 <;> rfl
end
set_option maxHeartbeats 8000000 in
theorem good_rchk : Lib.Good Tryz.prog Lrchk := lib_con good_rtgt Tryz.func17 cRchk 4000 fun σ α hp => by
  have hs1 : (σ.S 11).size ≤ 9223372036854775807 := hp.1
  have hs2 : (σ.S 21).size ≤ 9223372036854775807 := hp.2
  clear hp
  rw [rchk_goal]
  intro x0 x1 x2 x3 x4 x5 x6 x7 x8 x9 x10 x11 x12 x13 x14 x15 x16 x17 x18 x19 x20 x21 x22 x23 x24 x25 x26 x27 x28 x29 x30 x31 x32 x33 x34 x35 x36 x37 x38 x39 x40 x41 x42 x43 x44 x45 x46 x47 x48 x49 x50 x51 x52 x53 x54 x55 x56 x57 x61 x64 x66 x67 x68 x69 x70 x71 x73 x74 x75 x76 x77 x78 x79 x80 x81 x82 x83 x84 x86 x87 x88 x89 x90 x91 x93 x94
  have c43 : x43 := ⟨trivial, hs2⟩
  have c47 : x47 := ⟨trivial, hs1⟩
  have c52 : x52 := ⟨c47, fun _ => c47⟩
  have c64 : x64 := ⟨c47, fun _ => c43⟩
  have c66 : x66 := ⟨fun _ => c52, fun _ => ⟨c47, fun _ => c47, fun _ => ⟨c43, fun _ => c64⟩, fun _ => c64⟩⟩
  have c93 : x93 := ⟨c47, fun _ => c47, fun _ => c43⟩
  have F : chkB (ins σ 0) = false → x41 := fun h => ⟨trivial, rfl, rfl, trivial, by show (30 : Int) = bif chkB (ins σ 0) then 0 else 30; rw [h]; rfl⟩
  have G : chkB (ins σ 0) = true → (True ∧ Ex.ret = Ex.ret ∧ true = true ∧ True ∧ (0 : Int) = x40) := fun h => ⟨trivial, rfl, rfl, trivial, by show (0 : Int) = bif chkB (ins σ 0) then 0 else 30; rw [h]; rfl⟩
  have hK0 := chk_D (ins σ 0)
  have h39 : x39 = !sizeD (σ.I 0) (σ.I 1) := rfl
  have h42 : x42 = !condD (σ.I 0) (σ.I 2) := rfl
  have e67 : x67 = -2147483648 := by show IntKind.i64.wrap (0 - 2147483648) = _; exact i64_in _ (by omega)
  have e68 : x68 = wideB (σ.I 20) := by show (bif decide (σ.I 20 ≥ x67) then _ else _) = _; rw [e67]; rfl
  have eop : (ins σ 0).op = σ.I 0 := rfl
  refine ⟨fun h => F ?_, fun h39' => ⟨fun h => F ?_, fun h42' => ?_⟩⟩
  · have q : sizeD (σ.I 0) (σ.I 1) = false := by rw [h39] at h; simpa using h
    rw [hK0, show sizeD (ins σ 0).op (ins σ 0).size = false from q]; rfl
  · have q : condD (σ.I 0) (σ.I 2) = false := by rw [h42] at h; simpa using h
    rw [hK0, show condD (ins σ 0).op (ins σ 0).cond = false from q]; cases sizeD (ins σ 0).op (ins σ 0).size <;> rfl
  have hsz : sizeD (σ.I 0) (σ.I 1) = true := by rw [h39] at h39'; simpa using h39'
  have hrange : 1 ≤ σ.I 0 ∧ σ.I 0 ≤ 35 := by
    rw [sizeD_eq] at hsz
    simp only [Bool.and_eq_true, bif4, Bool.not_eq_true', Bool.or_eq_false_iff, decide_eq_false_iff_not] at hsz
    omega
  have hK : chkB (ins σ 0) = (opsB (ins σ 0) && !x55) := by
    have q : condD (σ.I 0) (σ.I 2) = true := by rw [h42] at h42'; simpa using h42'
    rw [hK0, show sizeD (ins σ 0).op (ins σ 0).size = true from hsz, show condD (ins σ 0).op (ins σ 0).cond = true from q]; rfl
  have T : ∀ {xo : Bool}, opsB (ins σ 0) = !xo → (xo = true → x41) ∧ (xo = false → x56) := fun h => tl F G hK h
  refine ⟨fun c32 => ?_, fun c32 => ⟨fun c0 => ?_, fun c0 => ⟨fun c74 => ?_, fun c74 => ⟨fun c9 => ?_, fun c9 => ⟨fun c21 => ?_, fun c21 => ⟨fun c78 => ?_, fun c78 => ⟨fun c81 => ?_, fun c81 => ⟨fun c16 => ?_, fun c16 => ?_⟩⟩⟩⟩⟩⟩⟩⟩
  · have hop : σ.I 0 = 22 ∨ σ.I 0 = 23 ∨ σ.I 0 = 24 := by
      have : (bif σ.I 0 == 22 then σ.I 0 == 22 else bif σ.I 0 == 23 then σ.I 0 == 23 else σ.I 0 == 24) = true := c32
      simp only [bif_or, Bool.or_eq_true, beq_iff_eq] at this; omega
    exact ⟨c43, fun _ => ⟨c47, fun _ _ _ => c52⟩, T (by rw [jmps_D hop]; exact (Bool.not_not _).symm)⟩
  · refine ⟨c43, c66, fun _ _ => c64, T ?_⟩
    rw [ops_1 (eq_of_beq c0)]
    unfold movB
    rw [sum_D]
    show _ = !(!bif (bif x57 then bif x53 then (bif x17 then _ else bif x18 then _ else x68) else false else _) then _ else _)
    rw [e68, Bool.not_not]; rfl
  · have hop : 3 ≤ σ.I 0 ∧ σ.I 0 ≤ 10 := by
      have : (bif σ.I 0 == 3 then σ.I 0 == 3 else bif σ.I 0 == 4 then σ.I 0 == 4 else bif σ.I 0 == 5 then σ.I 0 == 5 else bif σ.I 0 == 6 then σ.I 0 == 6 else bif σ.I 0 == 7 then σ.I 0 == 7 else bif σ.I 0 == 8 then σ.I 0 == 8 else bif σ.I 0 == 9 then σ.I 0 == 9 else σ.I 0 == 10) = true := c74
      simp only [bif_or, Bool.or_eq_true, beq_iff_eq] at this; omega
    refine ⟨c43, c66, T ?_⟩
    rw [ops_3 hop, sum_D]
    show _ = !(!bif x57 then bif x53 then (bif x17 then _ else bif x18 then _ else x68) else false else _)
    rw [e68, Bool.not_not]; rfl
  · refine ⟨c43, c66, T ?_⟩
    rw [ops_11 (eq_of_beq c9), test_D, sum_D]
    show _ = !(!bif (bif x57 then bif x53 then (bif x17 then _ else bif x18 then _ else x68) else false else _) then _ else _)
    rw [e68, Bool.not_not]; rfl
  · exact ⟨c47, fun _ => c43, T (by rw [ops_2 (eq_of_beq c21)]; exact (Bool.not_not _).symm)⟩
  · have hop : σ.I 0 = 12 ∨ σ.I 0 = 28 ∨ σ.I 0 = 29 ∨ σ.I 0 = 30 := by
      have : (bif σ.I 0 == 12 then σ.I 0 == 12 else bif σ.I 0 == 28 then σ.I 0 == 28 else bif σ.I 0 == 29 then σ.I 0 == 29 else σ.I 0 == 30) = true := c78
      simp only [bif_or, Bool.or_eq_true, beq_iff_eq] at this; omega
    refine ⟨c47, fun _ => ⟨c43, fun _ => c43⟩, T ?_⟩
    have : opsB (ins σ 0) = ldB (ins σ 0) := by
      rcases hop with h | h | h | h
      · exact ops_12 h
      · exact ops_28 h
      · exact ops_29 h
      · exact ops_30 h
    rw [this]; exact (Bool.not_not _).symm
  · have hop : σ.I 0 = 13 ∨ σ.I 0 = 14 ∨ σ.I 0 = 15 ∨ σ.I 0 = 16 ∨ σ.I 0 = 27 := by
      have : (bif σ.I 0 == 13 then σ.I 0 == 13 else bif σ.I 0 == 14 then σ.I 0 == 14 else bif σ.I 0 == 15 then σ.I 0 == 15 else bif σ.I 0 == 16 then σ.I 0 == 16 else σ.I 0 == 27) = true := c81
      simp only [bif_or, Bool.or_eq_true, beq_iff_eq] at this; omega
    refine ⟨c47, fun _ => c47, fun _ => c43, T ?_⟩
    have : opsB (ins σ 0) = oneB (ins σ 0) := by
      rcases hop with h | h | h | h | h
      · exact ops_13 h
      · exact ops_14 h
      · exact ops_15 h
      · exact ops_16 h
      · exact ops_27 h
    rw [this]; exact (Bool.not_not _).symm
  · have hop : σ.I 0 = 17 ∨ σ.I 0 = 18 ∨ σ.I 0 = 19 := by
      have : (bif σ.I 0 == 17 then σ.I 0 == 17 else bif σ.I 0 == 18 then σ.I 0 == 18 else σ.I 0 == 19) = true := c16
      simp only [bif_or, Bool.or_eq_true, beq_iff_eq] at this; omega
    have hO : opsB (ins σ 0) = shiftB (ins σ 0) := by
      rcases hop with h | h | h
      · exact ops_17 h
      · exact ops_18 h
      · exact ops_19 h
    have by0 : ∀ {m : Int}, byB (ins σ 0) m = (bif x57 then bif x84 then decide (σ.I 20 ≤ m) else false else false) := rfl
    have A : ∀ m : Int, (x19 = true → m = 63) → (x19 = false → m = 31) → byB (ins σ 0) m = true → x87 := fun m h1 h2 h => by
      have e : opsB (ins σ 0) = x53 := by
        rw [hO]; unfold shiftB
        cases h19 : x19 with
        | true => have := h1 h19; subst this; rw [show ((ins σ 0).size == 8) = true from h19]; exact sh_D1 h
        | false => have := h2 h19; subst this; rw [show ((ins σ 0).size == 8) = false from h19]; exact sh_D1 h
      have t := T (xo := !x53) (by rw [e, Bool.not_not])
      exact ⟨c47, fun _ => c47, fun h53 => t.2 (by rw [h53]; rfl), fun h53 => t.1 (by rw [h53]; rfl)⟩
    have B : ∀ m : Int, (x19 = true → m = 63) → (x19 = false → m = 31) → byB (ins σ 0) m = false → x89 := fun m h1 h2 h => by
      have e : opsB (ins σ 0) = !x88 := by
        rw [hO]; unfold shiftB
        show _ = !(!bif x61 then bif x53 then _ else _ else _)
        rw [Bool.not_not]
        cases h19 : x19 with
        | true => have := h1 h19; subst this; rw [show ((ins σ 0).size == 8) = true from h19]; exact sh_D2 h
        | false => have := h2 h19; subst this; rw [show ((ins σ 0).size == 8) = false from h19]; exact sh_D2 h
      exact ⟨c43, ⟨fun _ => c52, fun _ => c52⟩, T e⟩
    refine ⟨fun h19 => ?_, fun h19 => ?_⟩
    · have m1 : x19 = true → (63 : Int) = 63 := fun _ => rfl
      have m2 : x19 = false → (63 : Int) = 31 := fun h => by rw [h19] at h; cases h
      exact ⟨c43, fun h57 => ⟨fun h84 => ⟨fun h86 => A 63 m1 m2 (by rw [by0, h57, h84]; exact h86), fun h86 => B 63 m1 m2 (by rw [by0, h57, h84]; exact h86)⟩, fun h84 => B 63 m1 m2 (by rw [by0, h57, h84]; rfl)⟩, fun h57 => B 63 m1 m2 (by rw [by0, h57]; rfl)⟩
    · have m1 : x19 = true → (31 : Int) = 63 := fun h => by rw [h19] at h; cases h
      have m2 : x19 = false → (31 : Int) = 31 := fun _ => rfl
      exact ⟨c43, fun h57 => ⟨fun h84 => ⟨fun h86 => A 31 m1 m2 (by rw [by0, h57, h84]; exact h86), fun h86 => B 31 m1 m2 (by rw [by0, h57, h84]; exact h86)⟩, fun h84 => B 31 m1 m2 (by rw [by0, h57, h84]; rfl)⟩, fun h57 => B 31 m1 m2 (by rw [by0, h57]; rfl)⟩
  · refine ⟨⟨fun _ => ⟨c47, fun _ => ⟨c43, fun _ => c43, fun _ => c43⟩⟩, fun _ => ⟨fun _ => c93, fun _ => ⟨fun _ => c93, fun _ => ⟨c47, fun _ => c43⟩⟩⟩⟩, T ?_⟩
    show _ = !(!bif x27 then bif x91 then bif x79 then true else bif x57 then x68 else false else false else bif x28 then x82 else bif x26 then (bif x53 then x61 else false) else (bif x91 then x45 else false))
    rw [Bool.not_not, e68]
    cases h27 : x27 with
    | true => rw [ops_20 (eq_of_beq h27)]; rfl
    | false =>
      cases h28 : x28 with
      | true => rw [ops_21 (eq_of_beq h28)]; rfl
      | false =>
        cases h26 : x26 with
        | true => rw [ops_31 (eq_of_beq h26)]; rfl
        | false =>
          have hop : σ.I 0 = 25 ∨ σ.I 0 = 26 ∨ σ.I 0 = 32 ∨ σ.I 0 = 33 ∨ σ.I 0 = 34 ∨ σ.I 0 = 35 := by
            have a1 : (bif σ.I 0 == 22 then σ.I 0 == 22 else bif σ.I 0 == 23 then σ.I 0 == 23 else σ.I 0 == 24) = false := c32
            have a2 : (σ.I 0 == 1) = false := c0
            have a3 : (bif σ.I 0 == 3 then σ.I 0 == 3 else bif σ.I 0 == 4 then σ.I 0 == 4 else bif σ.I 0 == 5 then σ.I 0 == 5 else bif σ.I 0 == 6 then σ.I 0 == 6 else bif σ.I 0 == 7 then σ.I 0 == 7 else bif σ.I 0 == 8 then σ.I 0 == 8 else bif σ.I 0 == 9 then σ.I 0 == 9 else σ.I 0 == 10) = false := c74
            have a4 : (σ.I 0 == 11) = false := c9
            have a5 : (σ.I 0 == 2) = false := c21
            have a6 : (bif σ.I 0 == 12 then σ.I 0 == 12 else bif σ.I 0 == 28 then σ.I 0 == 28 else bif σ.I 0 == 29 then σ.I 0 == 29 else σ.I 0 == 30) = false := c78
            have a7 : (bif σ.I 0 == 13 then σ.I 0 == 13 else bif σ.I 0 == 14 then σ.I 0 == 14 else bif σ.I 0 == 15 then σ.I 0 == 15 else bif σ.I 0 == 16 then σ.I 0 == 16 else σ.I 0 == 27) = false := c81
            have a8 : (bif σ.I 0 == 17 then σ.I 0 == 17 else bif σ.I 0 == 18 then σ.I 0 == 18 else σ.I 0 == 19) = false := c16
            have a9 : (σ.I 0 == 20) = false := h27
            have a10 : (σ.I 0 == 21) = false := h28
            have a11 : (σ.I 0 == 31) = false := h26
            simp only [bif_or, Bool.or_eq_false_iff, beq_eq_false_iff_ne] at a1 a2 a3 a4 a5 a6 a7 a8 a9 a10 a11
            omega
          have : opsB (ins σ 0) = bareB (ins σ 0) := by
            rcases hop with h | h | h | h | h | h
            · exact ops_25 h
            · exact ops_26 h
            · exact ops_32 h
            · exact ops_33 h
            · exact ops_34 h
            · exact ops_35 h
          rw [this]; rfl
end Go.Proofs.YthmighgfefjcmaaGreat.Enc
end
