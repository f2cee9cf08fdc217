/- Parts of the proof, laid together: EncStr, EncNameD, EncNameV, EncName, EncLeD, EncLeV, EncLe, EncRmD, EncNamedV, EncNamed, EncRmV, EncRm, EncGrpD, EncGrpV, EncGrp, EncImmD, EncImmV, EncImm, EncSumD, EncOthD, EncStV, EncSt, EncShV, EncSh, EncJV, EncJ, EncOtV, EncSumV, EncSum, EncOt, EncFinD, EncFinV, EncFin1, EncFin2D, EncFin2V, EncFin, EncChkD, EncChkV, EncChkcV, EncChk, EncBytD, EncMath. No condition. -/
import Derived.Test.YthmighgfefjcmaaGreatBxC
import Derived.Test.YthmighgfefjcmaaGreatProg
import Derived.ProofKit
import Derived.Lib.Strings
import Derived.Lib.Slices
import Derived.Lib.Walk
import Derived.Lib.Bytealg
import Derived.IntWalk

section
/- The library's functions on strings that names and letters ask: contracts for the reader. (The walks are the shelf's, turned to this program.) No condition. -/
namespace Go.Proofs.YthmighgfefjcmaaGreat.Enc
open Go.RowKit Go.Proofs.YthmighgfefjcmaaGreat.X

set_option maxHeartbeats 1000000 in
set_option maxRecDepth 100000 in
theorem lite_IndexByte (s : ByteArray) (c : Int) (w : World) :
    Calls Tryz.prog 109 #[.string s, .int .u8 c] w fun e w' => e = .returned (.int .i64 (Lib.indexByte s.data.toList c.toNat.toUInt8)) ∧ w' = w := by
  go_enter Tryz.func109, Tryz.ntmps109
  go_wp2
  rw [run_callFunc_extern Tryz.func113 (by kernel_rfl) (by kernel_rfl) (by kernel_rfl) (e := Extern.BytealgIndexByte.indexByte) (by kernel_rfl), Lib.run_indexByteString]
  simp only [Result.andThen]
  rw [Oper.upon_value]
  go_wp2
  go_ret
  exact ⟨rfl, rfl⟩

set_option maxHeartbeats 1000000 in
theorem str_IndexByte (s : ByteArray) (c : Int) (w : World) :
    Calls Tryz.prog 108 #[.string s, .int .u8 c] w fun e w' => e = .returned (.int .i64 (Lib.indexByte s.data.toList c.toNat.toUInt8)) ∧ w' = w := by
  go_enter Tryz.func108, Tryz.ntmps108
  go_wp2_with (go_at_call 109; refine (lite_IndexByte _ _ _).mono ?_; rintro e w' ⟨rfl, rfl⟩)
  go_ret
  exact ⟨rfl, rfl⟩

set_option maxHeartbeats 2000000 in
set_option maxRecDepth 100000 in
theorem lite_Index_one (s : ByteArray) (c : UInt8) (w : World) :
    Calls Tryz.prog 106 #[.string s, .string ⟨#[c]⟩] w fun e w' => e = .returned (.int .i64 (Lib.indexByte s.data.toList c)) ∧ w' = w := by
  go_enter Tryz.func106, Tryz.ntmps106
  go_wp2_with (go_at_call 109; refine (lite_IndexByte _ _ _).mono ?_; rintro e w' ⟨rfl, rfl⟩)
  · have h : ([c] == s.toList) = true := by assumption
    go_ret
    refine ⟨?_, rfl⟩
    have e : s.data.toList = [c] := by rw [← Lib.toList_data]; exact (beq_iff_eq.1 h).symm
    rw [e]
    simp [Lib.indexByte]
  · go_ret
    exact ⟨rfl, rfl⟩

set_option maxHeartbeats 1000000 in
theorem str_Index_one (s : ByteArray) (c : UInt8) (w : World) :
    Calls Tryz.prog 98 #[.string s, .string ⟨#[c]⟩] w fun e w' => e = .returned (.int .i64 (Lib.indexByte s.data.toList c)) ∧ w' = w := by
  go_enter Tryz.func98, Tryz.ntmps98
  go_wp2_with (go_at_call 106; refine (lite_Index_one _ _ _).mono ?_; rintro e w' ⟨rfl, rfl⟩)
  go_ret
  exact ⟨rfl, rfl⟩

set_option maxHeartbeats 1000000 in
theorem str_Contains_one (s : ByteArray) (c : UInt8) (w : World) :
    Calls Tryz.prog 74 #[.string s, .string ⟨#[c]⟩] w fun e w' => e = .returned (.bool (decide (0 ≤ Lib.indexByte s.data.toList c))) ∧ w' = w := by
  go_enter Tryz.func74, Tryz.ntmps74
  go_wp2_with (go_at_call 98; refine (str_Index_one _ _ _).mono ?_; rintro e w' ⟨rfl, rfl⟩)
  go_ret
  exact ⟨rfl, rfl⟩

def idxSpec : List Value → Option Value
  | [.string s, .int .u8 c] => some (.int .i64 (Lib.indexByte s.data.toList c.toNat.toUInt8))
  | _ => none
def hasSpec : List Value → Option Value
  | [.string s, .string t] => match t.data.toList with
    | [c] => some (.bool (decide (0 ≤ Lib.indexByte s.data.toList c)))
    | _ => none
  | _ => none

def Lstr : Lib := { fs := [(108, idxSpec), (74, hasSpec)] }

theorem good_str : Lib.Good Tryz.prog Lstr := by
  refine lib_fs (lib_fs lib_nil (g := 74) (r := hasSpec) fun vs z h w => ?_) (g := 108) (r := idxSpec) fun vs z h w => ?_
  · unfold hasSpec at h
    split at h
    · rename_i s t
      split at h
      · rename_i c hc
        simp only [Option.some.injEq] at h
        subst h
        have ht : t = ⟨#[c]⟩ := by
          cases t with | mk d => exact congrArg ByteArray.mk (Array.ext' hc)
        subst ht
        refine (str_Contains_one s c w).mono ?_
        rintro e w' ⟨rfl, rfl⟩
        exact ⟨rfl, Below.refl _ _⟩
      · cases h
    · cases h
  · unfold idxSpec at h
    split at h
    · rename_i s c
      simp only [Option.some.injEq] at h
      subst h
      refine (str_IndexByte s c w).mono ?_
      rintro e w' ⟨rfl, rfl⟩
      exact ⟨rfl, Below.refl _ _⟩
    · cases h
end Go.Proofs.YthmighgfefjcmaaGreat.Enc
end

section
/- Names: which are fit, and the loop over their letters: contracts. No condition. -/
namespace Go.Proofs.YthmighgfefjcmaaGreat.Enc
open Go.RowKit Go.Proofs.YthmighgfefjcmaaGreat.X

/-- A letter of a name. -/
def badB (c : UInt8) : Bool := bif decide ((c.toNat : Int) < 33) then true else bif decide ((c.toNat : Int) > 126) then true else decide (Lib.indexByte [40, 41, 44, 64, 36, 37, 42, 35, 59, 58, 34, 39] c ≥ 0)
def okB (c : UInt8) : Bool := !badB c
def restOk (s : ByteArray) (i : Int) : Bool := (s.data.toList.drop i.toNat).all okB
def nameOk (s : ByteArray) : Bool := decide (1 ≤ s.size) && decide (s.size ≤ 255) && s.data.toList.all okB

def cName : Con where
  ps := [.s 0, .i .i64 1, .i .i64 2]
  bl := []
  top := 0
  pre := fun σ => σ.I 1 = (σ.S 0).size ∧ 0 ≤ σ.I 2 ∧ σ.I 2 ≤ (σ.S 0).size ∧ (σ.S 0).size ≤ 255
  post := fun σ => .ite (restOk (σ.S 0) (σ.I 2)) (.leaf (.exit 0) [(0, .gs (σ.S 0)), (13, .gi .i64 (σ.I 1))] [] []) (.leaf .ret [(0, .gs (σ.S 0)), (13, .gi .i64 (σ.I 1)), (2, .gb false)] [] [])
noncomputable def bName : Code := loopAt Tryz.prog 4 "forms.go:23"
noncomputable def lName : LCon := { c := cName, sl := [0, 13, 14], nt := Tryz.f105.ntmps, hv := nubN (writes bName) [], meas := fun σ => (σ.I 1 - σ.I 2).toNat }
def nameSpec : List Value → Option Value
  | [.string s] => some (.bool (nameOk s))
  | _ => none
noncomputable def Lname : Lib := { Lstr with ls := [(4, "forms.go:23", lName)] }
end Go.Proofs.YthmighgfefjcmaaGreat.Enc
end

section
/- Written by vc.py: what is to be shown, read out. No condition. -/
set_option maxRecDepth 1000000
set_option maxHeartbeats 0
namespace Go.Proofs.YthmighgfefjcmaaGreat.Enc
open Go.RowKit Go.Proofs.YthmighgfefjcmaaGreat.X
theorem name_round (σ : Dt) (α : At') (rest : Nat → Value) : (lName.goal Tryz.prog Lstr.mk' 1000 bName σ α rest) = (
let x0 := decide (σ.I 2 < σ.I 1);
let x1 := (0 : Int) ≤ σ.I 2 ∧ σ.I 2 < (↑(σ.S 0).size : Int);
let x2 := (↑((σ.S 0).data.getD (σ.I 2).toNat (0 : UInt8)).toNat : Int);
let x3 := decide (x2 < (33 : Int));
let x4 := decide (x2 > (126 : Int));
let x5 := bif x3 then true else bif x4 then true else decide (Lib.indexByte [(40 : UInt8), (41 : UInt8), (44 : UInt8), (64 : UInt8), (36 : UInt8), (37 : UInt8), (42 : UInt8), (35 : UInt8), (59 : UInt8), (58 : UInt8), (34 : UInt8), (39 : UInt8)] x2.toNat.toUInt8 ≥ (0 : Int));
let x6 := restOk (σ.S 0) (σ.I 2) = true;
let x7 := restOk (σ.S 0) (σ.I 2) = false;
let x8 := (True ∧ σ.S 0 = σ.S 0) ∧ σ.I 1 = σ.I 1;
let x9 := IntKind.i64.wrap (σ.I 2 + (1 : Int));
true = true ∧ (x0 = true → x1 ∧ (x3 = false → x1 ∧ (x4 = false → x1)) ∧ (x5 = true → true = true ∧ (x6 → Ex.exit 0 = Ex.ret ∧ true = true ∧ False) ∧ (x7 → Ex.ret = Ex.ret ∧ true = true ∧ x8 ∧ false = false)) ∧ (x5 = false → true = true ∧ true = true ∧ True ∧ (σ.I 1 = (↑(σ.S 0).size : Int) ∧ (0 :
    Int) ≤ x9 ∧ x9 ≤ (↑(σ.S 0).size : Int) ∧ (σ.S 0).size ≤ 255) ∧ (σ.I 1 - x9).toNat < (σ.I 1 - σ.I 2).toNat ∧ Po.ite (restOk (σ.S 0) x9) (Po.leaf (Ex.exit 0) [(0, Pt.gs (σ.S 0)), (13, Pt.gi IntKind.i64 (σ.I 1))] [] []) (Po.leaf Ex.ret [(0, Pt.gs (σ.S 0)), (13, Pt.gi IntKind.i64 (σ.I 1)), (2, Pt.gb
    false)] [] []) = Po.ite (restOk (σ.S 0) (σ.I 2)) (Po.leaf (Ex.exit 0) [(0, Pt.gs (σ.S 0)), (13, Pt.gi IntKind.i64 (σ.I 1))] [] []) (Po.leaf Ex.ret [(0, Pt.gs (σ.S 0)), (13, Pt.gi IntKind.i64 (σ.I 1)), (2, Pt.gb false)] [] []) ∧ asSt ([], []) = ([], []))) ∧ (x0 = false → true = true ∧ (x6 →
    Ex.exit 0 = Ex.exit 0 ∧ true = true ∧ x8) ∧ (x7 → Ex.ret = Ex.exit 0 ∧ true = true ∧ False))) := by kernel_rfl

theorem name_run (s : ByteArray) : ((run Tryz.prog (Lname.mk' fun _ _ _ _ => False) 1000 Tryz.f105 [.v (.string s)]).sat (hands Tryz.prog Tryz.f105 (.bool (nameOk s)))) = (
let x0 := bif decide ((↑s.size : Int) < (1 : Int)) then true else decide ((↑s.size : Int) > (255 : Int));
(x0 = false → True ∧ (↑s.size : Int) = (↑s.size : Int) ∧ (0 : Int) ≤ (0 : Int) ∧ (0 : Int) ≤ (↑s.size : Int) ∧ s.size ≤ 255) ∧ True ∧ Value.bool (bif x0 then false else bif restOk s (0 : Int) then true else false) = Value.bool (nameOk s)) := by kernel_rfl

end Go.Proofs.YthmighgfefjcmaaGreat.Enc
end

section
/- Names: the contract of forms.name. No condition. -/
set_option maxRecDepth 100000
namespace Go.Proofs.YthmighgfefjcmaaGreat.Enc
open Go.RowKit Go.Proofs.YthmighgfefjcmaaGreat.X Go.IntWalk

theorem data_len (s : ByteArray) : s.data.toList.length = s.size := rfl
theorem restOk_step (s : ByteArray) (i : Int) (h0 : 0 ≤ i) (h1 : i < s.size) : restOk s i = (okB (s.data.getD i.toNat 0) && restOk s (i + 1)) := by
  have hl : i.toNat < s.data.toList.length := by rw [data_len]; omega
  have e2 : (i + 1).toNat = i.toNat + 1 := by omega
  unfold restOk
  rw [e2, List.drop_eq_getElem_cons hl, List.all_cons]
  congr 2
  have hl' : i.toNat < s.data.size := hl
  rw [Array.getD, dif_pos hl']
  rfl
theorem restOk_end (s : ByteArray) (i : Int) (h1 : (s.size : Int) ≤ i) : restOk s i = true := by
  unfold restOk
  rw [List.drop_of_length_le (by rw [data_len]; omega)]
  rfl
theorem restOk_all (s : ByteArray) : restOk s 0 = s.data.toList.all okB := rfl
theorem u8_of (c : UInt8) : ((c.toNat : Int)).toNat.toUInt8 = c := by
  rw [Int.toNat_natCast]; exact UInt8.ofNat_toNat

theorem badB_eq (c : UInt8) : badB c = bif decide ((c.toNat : Int) < 33) then true else bif decide ((c.toNat : Int) > 126) then true else decide (Lib.indexByte [40, 41, 44, 64, 36, 37, 42, 35, 59, 58, 34, 39] c ≥ 0) := rfl
theorem nameOk_eq (s : ByteArray) : (bif bif decide ((s.size : Int) < 1) then true else decide ((s.size : Int) > 255) then false else bif s.data.toList.all okB then true else false) = nameOk s := by
  unfold nameOk
  generalize s.data.toList.all okB = b
  by_cases h1 : s.size = 0
  · rw [h1]; cases b <;> rfl
  · by_cases h2 : s.size ≤ 255
    · rw [show decide ((s.size : Int) < 1) = false from decide_eq_false (by omega), show decide ((s.size : Int) > 255) = false from decide_eq_false (by omega), show decide (1 ≤ s.size) = true from decide_eq_true (by omega), show decide (s.size ≤ 255) = true from decide_eq_true (by omega)]
      cases b <;> rfl
    · rw [show decide ((s.size : Int) < 1) = false from decide_eq_false (by omega), show decide ((s.size : Int) > 255) = true from decide_eq_true (by omega), show decide (1 ≤ s.size) = true from decide_eq_true (by omega), show decide (s.size ≤ 255) = false from decide_eq_false (by omega)]
      cases b <;> rfl
theorem short_of (n : Nat) (h : (bif decide ((n : Int) < 1) then true else decide ((n : Int) > 255)) = false) : n ≤ 255 := by
  by_cases h2 : n ≤ 255
  · exact h2
  · rw [show decide ((n : Int) > 255) = true from decide_eq_true (by omega)] at h
    cases hd : decide ((n : Int) < 1) <;> rw [hd] at h <;> cases h

theorem good_nameL : Lib.Good Tryz.prog Lname := lib_loop good_str 4 "forms.go:23" (by kernel_rfl) lName 1000 fun σ α rest hp => by
  refine (name_round σ α rest).mpr ?_
  obtain ⟨h1, h2, h3, h4⟩ := hp
  simp only [decide_eq_true_eq, decide_eq_false_iff_not, true_and, and_true, u8_of]
  refine ⟨fun hlt => ?_, fun hge => ?_⟩
  · have hlt' : σ.I 2 < (σ.S 0).size := by omega
    have hs := restOk_step (σ.S 0) (σ.I 2) h2 hlt'
    have hw : IntKind.i64.wrap (σ.I 2 + 1) = σ.I 2 + 1 := i64_in _ (by omega)
    rw [hw]
    generalize (σ.S 0).data.getD (σ.I 2).toNat 0 = c at hs ⊢
    simp only [← badB_eq]
    refine ⟨⟨h2, hlt'⟩, fun _ => ⟨⟨h2, hlt'⟩, fun _ => ⟨h2, hlt'⟩⟩, fun hb => ?_, fun hb => ?_⟩
    · rw [hs, show okB c = false by unfold okB; rw [hb]; rfl]
      simp
    · rw [hs, show okB c = true by unfold okB; rw [hb]; rfl]
      refine ⟨⟨h1, by omega, by omega, h4⟩, by omega, ?_⟩
      simp
  · have := restOk_end (σ.S 0) (σ.I 2) (by omega)
    simp [this]
theorem good_name : Lib.Good Tryz.prog { Lname with fs := (105, nameSpec) :: Lname.fs } := by
  refine lib_pure good_nameL Tryz.func105 1000 nameSpec fun vs z hz => ?_
  unfold nameSpec at hz
  split at hz
  · rename_i s
    simp only [Option.some.injEq] at hz
    subst hz
    simp only [List.map_cons, List.map_nil]
    rw [name_run s]
    intro x0
    exact ⟨fun hb => ⟨trivial, rfl, by decide, by omega, short_of _ hb⟩, trivial, by rw [restOk_all]; exact congrArg Value.bool (nameOk_eq s)⟩
  · cases hz
end Go.Proofs.YthmighgfefjcmaaGreat.Enc
end

section
/- Low bytes of a number: contracts. No condition. -/
namespace Go.Proofs.YthmighgfefjcmaaGreat.Enc
open Go.RowKit Go.Proofs.YthmighgfefjcmaaGreat.X

/-- Bytes, as a row of the reader's. -/
def rowsB (l : List Int) : List (List Value) := l.map fun x => [.int .u8 x]
/-- The eight bytes of a number. -/
def le8 (n : Int) : List Int := [n % 256, n / 256 % 256, n / 65536 % 256, n / 16777216 % 256, n / 4294967296 % 256, n / 1099511627776 % 256, n / 281474976710656 % 256, n / 72057594037927936 % 256]
def leL (n : Int) (k : Nat) : List Int := (le8 n).take k

def cLow : Con where
  ps := [.i .u64 0, .c (.int .i64 8)]
  bl := []
  top := 0
  pre := fun σ => 0 ≤ σ.I 0 ∧ σ.I 0 < 18446744073709551616
  post := fun σ => .leaf .ret [(0, .gr 0 5 [.int .u8] (rowsB (le8 (σ.I 0))))] [] []
def cLe : Con where
  ps := [.i .i64 0, .i .i64 1]
  bl := []
  top := 0
  pre := fun σ => 0 ≤ σ.I 1 ∧ σ.I 1 ≤ 8
  post := fun σ => .leaf .ret [(0, .gr 0 5 [.int .u8] (rowsB (leL (σ.I 0) (σ.I 1).toNat)))] [] []
noncomputable def Lname2 : Lib := { Lname with fs := (105, nameSpec) :: Lname.fs }
noncomputable def Llow : Lib := { Lname2 with cs := (100, cLow) :: Lname2.cs }
noncomputable def Lle : Lib := { Llow with cs := (38, cLe) :: Llow.cs }
end Go.Proofs.YthmighgfefjcmaaGreat.Enc
end

section
/- Written by vc.py: what is to be shown, read out. No condition. -/
set_option maxRecDepth 1000000
set_option maxHeartbeats 0
namespace Go.Proofs.YthmighgfefjcmaaGreat.Enc
open Go.RowKit Go.Proofs.YthmighgfefjcmaaGreat.X
theorem low_goal (σ : Dt) (α : At') : (cLow.goal Tryz.prog Lname2.mk' 1000 Tryz.f100 σ α) = (
let x0 := [[Value.int IntKind.u8 (IntKind.u8.wrap ((σ.I 0).fdiv (1 : Int)))], [Value.int IntKind.u8 (IntKind.u8.wrap ((σ.I 0).fdiv (256 : Int)))], [Value.int IntKind.u8 (IntKind.u8.wrap ((σ.I 0).fdiv (65536 : Int)))], [Value.int IntKind.u8 (IntKind.u8.wrap ((σ.I 0).fdiv (16777216 : Int)))],
    [Value.int IntKind.u8 (IntKind.u8.wrap ((σ.I 0).fdiv (4294967296 : Int)))], [Value.int IntKind.u8 (IntKind.u8.wrap ((σ.I 0).fdiv (1099511627776 : Int)))], [Value.int IntKind.u8 (IntKind.u8.wrap ((σ.I 0).fdiv (281474976710656 : Int)))], [Value.int IntKind.u8 (IntKind.u8.wrap ((σ.I 0).fdiv
    (72057594037927936 : Int)))]];
True ∧ Ex.ret = Ex.ret ∧ true = true ∧ True ∧ 8 = x0.length ∧ x0 = rowsB (le8 (σ.I 0))) := by kernel_rfl

theorem le_goal (σ : Dt) (α : At') : (cLe.goal Tryz.prog Llow.mk' 1000 Tryz.f38 σ α) = (
let x0 := List.take (σ.I 1).toNat (rowsB (le8 (IntKind.u64.wrap (σ.I 0))));
(True ∧ (0 : Int) ≤ IntKind.u64.wrap (σ.I 0) ∧ IntKind.u64.wrap (σ.I 0) < (18446744073709551616 : Int)) ∧ ((0 : Int) ≤ σ.I 1 ∧ σ.I 1 ≤ (↑(rowsB (le8 (IntKind.u64.wrap (σ.I 0)))).length : Int)) ∧ True ∧ Ex.ret = Ex.ret ∧ true = true ∧ True ∧ (σ.I 1).toNat = x0.length ∧ x0 = rowsB (leL (σ.I 0) (σ.I
    1).toNat)) := by kernel_rfl

end Go.Proofs.YthmighgfefjcmaaGreat.Enc
end

section
/- Low bytes of a number: shown. No condition. -/
set_option maxRecDepth 100000
namespace Go.Proofs.YthmighgfefjcmaaGreat.Enc
open Go.RowKit Go.Proofs.YthmighgfefjcmaaGreat.X Go.IntWalk

theorem fdiv_pos (x : Int) (k : Int) (h : 0 ≤ k) : x.fdiv k = x / k := Int.fdiv_eq_ediv_of_nonneg x h
theorem good_name2 : Lib.Good Tryz.prog Lname2 := good_name
theorem good_low : Lib.Good Tryz.prog Llow := lib_con good_name2 Tryz.func100 cLow 1000 fun σ α hp => by
  rw [low_goal]
  refine ⟨trivial, rfl, rfl, trivial, rfl, ?_⟩
  simp only [fdiv_pos _ _ (show (0 : Int) ≤ 1 by decide), fdiv_pos _ _ (show (0 : Int) ≤ 256 by decide), fdiv_pos _ _ (show (0 : Int) ≤ 65536 by decide), fdiv_pos _ _ (show (0 : Int) ≤ 16777216 by decide), fdiv_pos _ _ (show (0 : Int) ≤ 4294967296 by decide), fdiv_pos _ _ (show (0 : Int) ≤ 1099511627776 by decide), fdiv_pos _ _ (show (0 : Int) ≤ 281474976710656 by decide), fdiv_pos _ _ (show (0 : Int) ≤ 72057594037927936 by decide), IntKind.wrap_u8, Int.ediv_one]
  rfl
theorem le8_wrap (n : Int) : le8 (IntKind.u64.wrap n) = le8 n := by
  rw [IntKind.wrap_u64]
  unfold le8
  congr 1
  · omega
  congr 1
  · omega
  congr 1
  · omega
  congr 1
  · omega
  congr 1
  · omega
  congr 1
  · omega
  congr 1
  · omega
  congr 1
  omega
theorem rowsB_take (l : List Int) (k : Nat) : (rowsB l).take k = rowsB (l.take k) := by unfold rowsB; rw [List.map_take]
theorem rowsB_len (l : List Int) : (rowsB l).length = l.length := List.length_map _
theorem leL_len (n : Int) (k : Nat) (h : k ≤ 8) : (leL n k).length = k := by unfold leL; rw [List.length_take]; exact Nat.min_eq_left h
theorem le8_len (n : Int) : (le8 n).length = 8 := rfl
theorem good_le : Lib.Good Tryz.prog Lle := lib_con good_low Tryz.func38 cLe 1000 fun σ α hp => by
  have h0 : 0 ≤ σ.I 1 := hp.1
  have h1 : σ.I 1 ≤ 8 := hp.2
  clear hp
  rw [le_goal, le8_wrap, rowsB_take, rowsB_len, le8_len]
  intro x0
  rw [show x0 = rowsB ((le8 (σ.I 0)).take (σ.I 1).toNat) from rfl, rowsB_len]
  have hl : ((le8 (σ.I 0)).take (σ.I 1).toNat).length = (σ.I 1).toNat := leL_len _ _ (by omega)
  rw [hl]
  refine ⟨⟨trivial, ?_, ?_⟩, ⟨h0, h1⟩, trivial, rfl, rfl, trivial, rfl, rfl⟩
  · rw [IntKind.wrap_u64]; omega
  · rw [IntKind.wrap_u64]; omega
end Go.Proofs.YthmighgfefjcmaaGreat.Enc
end

section
/- ModRM and what follows: the contract. No condition. -/
namespace Go.Proofs.YthmighgfefjcmaaGreat.Enc
open Go.RowKit Go.Proofs.YthmighgfefjcmaaGreat.X

/-- An operand. -/
structure Opd where
  kind : Int
  r : Int
  base : Int
  index : Int
  scale : Int
  rip : Bool
  fs : Bool
  n : Int
  name : ByteArray
  mod : Int
def opd (σ : Dt) (i : Nat) : Opd := ⟨σ.I i, σ.I (i + 1), σ.I (i + 2), σ.I (i + 3), σ.I (i + 4), σ.B (i + 5), σ.B (i + 6), σ.I (i + 7), σ.S (i + 8), σ.I (i + 9)⟩
def opdP (i : Nat) : List Pt := [.i .i64 i, .i .i64 (i + 1), .i .i64 (i + 2), .i .i64 (i + 3), .i .i64 (i + 4), .b (i + 5), .b (i + 6), .i .i64 (i + 7), .s (i + 8), .i .i64 (i + 9)]
def instP (i : Nat) : List Pt := [.i .i64 i, .i .i64 (i + 1), .i .i64 (i + 2)] ++ opdP (i + 3) ++ opdP (i + 13) ++ [.b (i + 23)]
def nilP : Pt := .c (.slice none 0 0)
def byteK : List PK := [.int .u8]
def holeK : List PK := [.int .i64, .int .i64, .int .i64, .str, .int .i64]

/-- A hole. -/
structure Hol where
  at_ : Int
  size : Int
  type : Int
  name : ByteArray
  add : Int
def rowsH (l : List Hol) : List (List Value) := l.map fun h => [.int .i64 h.at_, .int .i64 h.size, .int .i64 h.type, .string h.name, .int .i64 h.add]

def anon (o : Opd) : Bool := o.name.toList == []
def dispN (o : Opd) : Int := bif !anon o then 0 else o.n
def relOf (m : Int) : Int := [2, 0, 9, 22, 23, 21].getD m.toNat 0
def logS (s : Int) : Int := bif s == 1 then 0 else bif s == 2 then 1 else bif s == 4 then 2 else bif s == 8 then 3 else 0
def isR (o : Opd) : Bool := o.kind == 1
def disp0 (o : Opd) : Bool := bif dispN o == 0 then o.base.tmod 8 != 5 else false
def disp1 (o : Opd) : Bool := bif decide (dispN o ≥ -128) then decide (dispN o ≤ 127) else false
/-- mod and size of what a base has behind it -/
def modO (o : Opd) : Int := bif anon o then (bif disp0 o then 0 else bif disp1 o then 1 else 2) else 2
def sizO (o : Opd) : Nat := bif anon o then (bif disp0 o then 0 else bif disp1 o then 1 else 4) else 4
def hasX (o : Opd) : Bool := decide (o.index ≥ 0)
def isSp (o : Opd) : Bool := o.base.tmod 8 == 4
def modrm (m reg r : Int) : Int := 64 * m + 8 * reg + r
def rmHead (reg : Int) (o : Opd) : List Int :=
  bif isR o then [modrm 3 reg (o.r.tmod 8)]
  else bif o.rip then [modrm 0 reg 5]
  else bif o.fs then [modrm 0 reg 4, 37]
  else bif hasX o then [modrm (modO o) reg 4, 64 * logS o.scale + 8 * o.index.tmod 8 + o.base.tmod 8]
  else bif isSp o then [modrm (modO o) reg 4, 36]
  else [modrm (modO o) reg (o.base.tmod 8)]
def rmSize (o : Opd) : Nat := bif isR o then 0 else bif o.rip then 4 else bif o.fs then 4 else sizO o
def rmTail (reg : Int) (o : Opd) : List Int := rmHead reg o ++ leL (dispN o) (rmSize o)
def namedH (o : Opd) (at_ : Nat) : List Hol := bif anon o then [] else [⟨at_, 4, relOf o.mod, o.name, o.n⟩]
def rmHoles (reg : Int) (o : Opd) : List Hol := bif isR o then [] else namedH o (rmHead reg o).length
def rmRex (o : Opd) : Int :=
  bif isR o then (bif decide (o.r ≥ 8) then 1 else 0) else bif o.rip then 0 else bif o.fs then 0 else (bif decide (o.base ≥ 8) then 1 else 0) + (bif decide (o.index ≥ 8) then 2 else 0)
def rmPre (o : Opd) : List Int := bif isR o then [] else bif o.rip then [] else bif o.fs then [100] else []
def rmOk (o : Opd) : Prop :=
  (isR o = true ∧ 0 ≤ o.r ∧ o.r ≤ 15) ∨ (isR o = false ∧ 0 ≤ o.mod ∧ o.mod ≤ 5 ∧ -2147483648 ≤ o.n ∧ o.n ≤ 2147483647 ∧ (o.rip = true ∨ o.fs = true ∨ (0 ≤ o.base ∧ o.base ≤ 15 ∧ -1 ≤ o.index ∧ o.index ≤ 15)))
/-- rex, with a bit of its own. -/
def rexOr (x y : Int) : Int := x.toNat ||| y.toNat

def cNamed : Con where
  ps := [.p 0 0, .a (opdP 1), .c (.int .i64 4)]
  bl := [(0, 42, instP 20 ++ [.r 4 5 byteK, .i .i64 50, .b 51, .r 8 5 byteK, .r 12 5 byteK, nilP, nilP, .c (.bool false)])]
  top := 16
  pre := fun σ => 0 ≤ σ.I 10 ∧ σ.I 10 ≤ 5
  post := fun σ => .leaf .ret [(0, .t [])] [(0, [(24, .k 4 (σ.R 4).length), (27, .k 8 (σ.R 8).length), (28, .k 12 (σ.R 12).length), (30, .gr 16 54 holeK (rowsH (namedH (opd σ 1) (σ.R 12).length))), (31, .gb (!anon (opd σ 1)))])] []
def cRm : Con where
  ps := [.p 0 0, .i .i64 0, .a (opdP 1)]
  bl := [(0, 42, instP 20 ++ [nilP, .i .i64 50, .b 51, .r 4 5 byteK, nilP, nilP, nilP, .c (.bool false)])]
  top := 8
  pre := fun σ => 0 ≤ σ.I 0 ∧ σ.I 0 ≤ 7 ∧ rmOk (opd σ 1) ∧ 0 ≤ σ.I 50 ∧ σ.I 50 ≤ 15
  post := fun σ => .leaf .ret [(0, .t [])] [(0, [(27, .k 4 (σ.R 4).length), (24, .gr 8 5 byteK (rowsB (rmPre (opd σ 1)))), (25, .gi .i64 (rexOr (σ.I 50) (rmRex (opd σ 1)))), (28, .gr 12 5 byteK (rowsB (rmTail (σ.I 0) (opd σ 1)))),
    (30, .gr 16 54 holeK (rowsH (rmHoles (σ.I 0) (opd σ 1)))), (31, .gb (!(rmHoles (σ.I 0) (opd σ 1)).isEmpty))])] []
noncomputable def Lnamed : Lib := { Lle with cs := (77, cNamed) :: Lle.cs }
noncomputable def Lrm : Lib := { Lnamed with cs := (31, cRm) :: Lnamed.cs }
end Go.Proofs.YthmighgfefjcmaaGreat.Enc
end

section
/- Written by vc.py: what is to be shown, read out. No condition. -/
set_option maxRecDepth 1000000
set_option maxHeartbeats 0
namespace Go.Proofs.YthmighgfefjcmaaGreat.Enc
open Go.RowKit Go.Proofs.YthmighgfefjcmaaGreat.X
theorem named_goal (σ : Dt) (α : At') : (cNamed.goal Tryz.prog Lle.mk' 2000 Tryz.f77 σ α) = (
let x0 := (σ.S 9).toList == [];
let x1 := (σ.R 4).length = (σ.R 4).length;
let x2 := (σ.R 8).length = (σ.R 8).length;
let x3 := (σ.R 12).length = (σ.R 12).length;
let x4 := (((((((((((((((((((((((((((((((True ∧ x1 ∧ σ.R 4 = σ.R 4) ∧ x2 ∧ σ.R 8 = σ.R 8) ∧ x3 ∧ σ.R 12 = σ.R 12) ∧ σ.I 20 = σ.I 20) ∧ σ.I 21 = σ.I 21) ∧ σ.I 22 = σ.I 22) ∧ σ.I 23 = σ.I 23) ∧ σ.I 24 = σ.I 24) ∧ σ.I 25 = σ.I 25) ∧ σ.I 26 = σ.I 26) ∧ σ.I 27 = σ.I 27) ∧ σ.B 28 = σ.B 28) ∧ σ.B 29 = σ.B
    29) ∧ σ.I 30 = σ.I 30) ∧ σ.S 31 = σ.S 31) ∧ σ.I 32 = σ.I 32) ∧ σ.I 33 = σ.I 33) ∧ σ.I 34 = σ.I 34) ∧ σ.I 35 = σ.I 35) ∧ σ.I 36 = σ.I 36) ∧ σ.I 37 = σ.I 37) ∧ σ.B 38 = σ.B 38) ∧ σ.B 39 = σ.B 39) ∧ σ.I 40 = σ.I 40) ∧ σ.S 41 = σ.S 41) ∧ σ.I 42 = σ.I 42) ∧ σ.B 43 = σ.B 43) ∧ x1) ∧ σ.I 50 = σ.I 50) ∧
    σ.B 51 = σ.B 51) ∧ x2) ∧ x3;
let x5 := rowsH (namedH (opd σ 1) (σ.R 12).length);
let x6 := [[Value.int IntKind.i64 (↑(σ.R 12).length : Int), Value.int IntKind.i64 (4 : Int), Value.int IntKind.i64 ([(2 : Int), (0 : Int), (9 : Int), (22 : Int), (23 : Int), (21 : Int)].getD (σ.I 10).toNat (0 : Int)), Value.string (σ.S 9), Value.int IntKind.i64 (σ.I 8)]];
(x0 = true → True ∧ Ex.ret = Ex.ret ∧ true = true ∧ (x4 ∧ 0 = 0 ∧ [] = x5) ∧ false = !anon (opd σ 1)) ∧ (x0 = false → ((0 : Int) ≤ σ.I 10 ∧ σ.I 10 < (6 : Int)) ∧ True ∧ Ex.ret = Ex.ret ∧ true = true ∧ (x4 ∧ 1 = x6.length ∧ x6 = x5) ∧ true = !anon (opd σ 1))) := by kernel_rfl

end Go.Proofs.YthmighgfefjcmaaGreat.Enc
end

section
/- A hole at the tail's end: shown. No condition. -/
set_option maxRecDepth 100000
namespace Go.Proofs.YthmighgfefjcmaaGreat.Enc
open Go.RowKit Go.Proofs.YthmighgfefjcmaaGreat.X Go.IntWalk

theorem rel_eq (m : Int) (h0 : 0 ≤ m) (h1 : m ≤ 5) : m = 0 ∨ m = 1 ∨ m = 2 ∨ m = 3 ∨ m = 4 ∨ m = 5 := by omega
theorem good_named : Lib.Good Tryz.prog Lnamed := lib_con good_le Tryz.func77 cNamed 2000 fun σ α hp => by
  have h0 : 0 ≤ σ.I 10 := hp.1
  have h1 : σ.I 10 ≤ 5 := hp.2
  clear hp
  rw [named_goal]
  intro x0 x1 x2 x3 x4 x5 x6
  have h4 : x4 := by simp only [x4, x1, x2, x3, and_self]
  refine ⟨fun h => ?_, fun h => ?_⟩
  · have ha : anon (opd σ 1) = true := h
    refine ⟨trivial, rfl, rfl, ⟨h4, rfl, ?_⟩, by rw [ha]; rfl⟩
    simp only [x5, namedH, ha, cond_true]
    rfl
  · have ha : anon (opd σ 1) = false := h
    refine ⟨⟨h0, by omega⟩, trivial, rfl, rfl, ⟨h4, rfl, ?_⟩, by rw [ha]; rfl⟩
    simp only [x5, x6, namedH, ha, cond_false]
    rfl
end Go.Proofs.YthmighgfefjcmaaGreat.Enc
end

section
/- Written by vc.py: what is to be shown, read out. No condition. -/
set_option maxRecDepth 1000000
set_option maxHeartbeats 0
namespace Go.Proofs.YthmighgfefjcmaaGreat.Enc
open Go.RowKit Go.Proofs.YthmighgfefjcmaaGreat.X
theorem rm_goal (σ : Dt) (α : At') : (cRm.goal Tryz.prog Lnamed.mk' 2000 Tryz.f31 σ α) = (
let x0 := σ.I 1 == (1 : Int);
let x1 := (σ.R 4).length = (σ.R 4).length;
let x2 := True ∧ x1 ∧ σ.R 4 = σ.R 4;
let x3 := decide (σ.I 2 ≥ (8 : Int));
let x4 := 0 = 0 ∧ [] = rowsB (rmPre (opd σ 1));
let x5 := IntKind.i64.wrap (↑(BitVec.ofInt 64 (σ.I 50) ||| BitVec.ofInt 64 (1 : Int)).toNat : Int);
let x6 := rexOr (σ.I 50) (rmRex (opd σ 1));
let x7 := IntKind.i64.wrap ((8 : Int) * σ.I 0);
let x8 := [[Value.int IntKind.u8 (IntKind.u8.wrap (IntKind.i64.wrap (IntKind.i64.wrap ((192 : Int) + x7) + (σ.I 2).tmod (8 : Int))))]];
let x9 := rowsB (rmTail (σ.I 0) (opd σ 1));
let x10 := rowsH (rmHoles (σ.I 0) (opd σ 1));
let x11 := 0 = 0 ∧ [] = x10;
let x12 := !(rmHoles (σ.I 0) (opd σ 1)).isEmpty;
let x13 := false = x12;
let x14 := IntKind.i64.wrap ((0 : Int) + x7);
let x15 := [[Value.int IntKind.u8 (IntKind.u8.wrap (IntKind.i64.wrap (x14 + (5 : Int))))]];
let x16 := x15.length;
let x17 := (0 : Int) ≤ σ.I 10 ∧ σ.I 10 ≤ (5 : Int);
let x18 := True ∧ (0 : Int) ≤ (4 : Int) ∧ (4 : Int) ≤ (8 : Int);
let x19 := (σ.S 9).toList == [];
let x20 := bif !x19 then (0 : Int) else σ.I 8;
let x21 := rowsB (leL x20 4);
let x22 := x21.length;
let x23 := x22 ≤ x22;
let x24 := List.take x22 x21;
let x25 := x15 ++ x24;
let x26 := x25.length;
let x27 := (((((((((((((((((((((((x2 ∧ σ.I 20 = σ.I 20) ∧ σ.I 21 = σ.I 21) ∧ σ.I 22 = σ.I 22) ∧ σ.I 23 = σ.I 23) ∧ σ.I 24 = σ.I 24) ∧ σ.I 25 = σ.I 25) ∧ σ.I 26 = σ.I 26) ∧ σ.I 27 = σ.I 27) ∧ σ.B 28 = σ.B 28) ∧ σ.B 29 = σ.B 29) ∧ σ.I 30 = σ.I 30) ∧ σ.S 31 = σ.S 31) ∧ σ.I 32 = σ.I 32) ∧ σ.I 33 = σ.I
    33) ∧ σ.I 34 = σ.I 34) ∧ σ.I 35 = σ.I 35) ∧ σ.I 36 = σ.I 36) ∧ σ.I 37 = σ.I 37) ∧ σ.B 38 = σ.B 38) ∧ σ.B 39 = σ.B 39) ∧ σ.I 40 = σ.I 40) ∧ σ.S 41 = σ.S 41) ∧ σ.I 42 = σ.I 42) ∧ σ.B 43 = σ.B 43;
let x28 := σ.I 50 = x6;
let x29 := σ.B 51 = σ.B 51;
let x30 := { kind := σ.I 1, r := σ.I 2, base := σ.I 3, index := σ.I 4, scale := σ.I 5, rip := σ.B 6, fs := σ.B 7, n := σ.I 8, name := σ.S 9, mod := σ.I 10 : Opd };
let x31 := rowsH (namedH x30 x16);
let x32 := x31.length;
let x33 := (!anon x30) = x12;
let x34 := [[Value.int IntKind.u8 (IntKind.u8.wrap (IntKind.i64.wrap (x14 + (4 : Int))))], [Value.int IntKind.u8 (37 : Int)]];
let x35 := x34.length;
let x36 := x34 ++ x24;
let x37 := x36.length;
let x38 := [[Value.int IntKind.u8 (100 : Int)]];
let x39 := rowsH (namedH x30 x35);
let x40 := x39.length;
let x42 := decide (σ.I 4 ≥ (0 : Int));
let x43 := x19 = true;
let x44 := bif x20 == (0 : Int) then (σ.I 3).tmod (8 : Int) != (5 : Int) else false;
let x45 := x44 = true;
let x46 := True ∧ (0 : Int) ≤ (0 : Int) ∧ (0 : Int) ≤ (8 : Int);
let x47 := rowsB (leL x20 0);
let x48 := x47.length;
let x49 := x48 ≤ x48;
let x50 := [[Value.int IntKind.u8 (IntKind.u8.wrap (IntKind.i64.wrap (IntKind.i64.wrap (IntKind.i64.wrap ((64 : Int) * bif σ.I 5 == (1 : Int) then (0 : Int) else bif σ.I 5 == (2 : Int) then (1 : Int) else bif σ.I 5 == (4 : Int) then (2 : Int) else bif σ.I 5 == (8 : Int) then (3 : Int) else (0 :
    Int)) + IntKind.i64.wrap ((8 : Int) * (σ.I 4).tmod (8 : Int))) + (σ.I 3).tmod (8 : Int))))]];
let x51 := List.take x48 x47;
let x52 := [Value.int IntKind.u8 (IntKind.u8.wrap (IntKind.i64.wrap (x14 + (4 : Int))))] :: x50 ++ x51;
let x53 := x52.length;
let x54 := decide (σ.I 4 ≥ (8 : Int));
let x55 := decide (σ.I 3 ≥ (8 : Int));
let x56 := bif x55 then σ.I 20 else σ.I 20;
let x57 := bif x55 then σ.I 21 else σ.I 21;
let x58 := bif x55 then σ.I 22 else σ.I 22;
let x59 := bif x55 then σ.I 23 else σ.I 23;
let x60 := bif x55 then σ.I 24 else σ.I 24;
let x61 := bif x55 then σ.I 25 else σ.I 25;
let x62 := bif x55 then σ.I 26 else σ.I 26;
let x63 := bif x55 then σ.I 27 else σ.I 27;
let x64 := bif x55 then σ.B 28 else σ.B 28;
let x65 := bif x55 then σ.B 29 else σ.B 29;
let x66 := bif x55 then σ.I 30 else σ.I 30;
let x67 := bif x55 then σ.S 31 else σ.S 31;
let x68 := bif x55 then σ.I 32 else σ.I 32;
let x69 := bif x55 then σ.I 33 else σ.I 33;
let x70 := bif x55 then σ.I 34 else σ.I 34;
let x71 := bif x55 then σ.I 35 else σ.I 35;
let x72 := bif x55 then σ.I 36 else σ.I 36;
let x73 := bif x55 then σ.I 37 else σ.I 37;
let x74 := bif x55 then σ.B 38 else σ.B 38;
let x75 := bif x55 then σ.B 39 else σ.B 39;
let x76 := bif x55 then σ.I 40 else σ.I 40;
let x77 := bif x55 then σ.S 41 else σ.S 41;
let x78 := bif x55 then σ.I 42 else σ.I 42;
let x79 := bif x55 then σ.B 43 else σ.B 43;
let x80 := bif x55 then x5 else σ.I 50;
let x81 := bif x55 then σ.B 51 else σ.B 51;
let x82 := ((((((((((((((((((((((((((x2 ∧ (bif x54 then x56 else x56) = σ.I 20) ∧ (bif x54 then x57 else x57) = σ.I 21) ∧ (bif x54 then x58 else x58) = σ.I 22) ∧ (bif x54 then x59 else x59) = σ.I 23) ∧ (bif x54 then x60 else x60) = σ.I 24) ∧ (bif x54 then x61 else x61) = σ.I 25) ∧ (bif x54 then x62
    else x62) = σ.I 26) ∧ (bif x54 then x63 else x63) = σ.I 27) ∧ (bif x54 then x64 else x64) = σ.B 28) ∧ (bif x54 then x65 else x65) = σ.B 29) ∧ (bif x54 then x66 else x66) = σ.I 30) ∧ (bif x54 then x67 else x67) = σ.S 31) ∧ (bif x54 then x68 else x68) = σ.I 32) ∧ (bif x54 then x69 else x69) = σ.I
    33) ∧ (bif x54 then x70 else x70) = σ.I 34) ∧ (bif x54 then x71 else x71) = σ.I 35) ∧ (bif x54 then x72 else x72) = σ.I 36) ∧ (bif x54 then x73 else x73) = σ.I 37) ∧ (bif x54 then x74 else x74) = σ.B 38) ∧ (bif x54 then x75 else x75) = σ.B 39) ∧ (bif x54 then x76 else x76) = σ.I 40) ∧ (bif x54
    then x77 else x77) = σ.S 41) ∧ (bif x54 then x78 else x78) = σ.I 42) ∧ (bif x54 then x79 else x79) = σ.B 43) ∧ x4) ∧ (bif x54 then IntKind.i64.wrap (↑(BitVec.ofInt 64 x80 ||| BitVec.ofInt 64 (2 : Int)).toNat : Int) else x80) = x6) ∧ (bif x54 then x81 else x81) = σ.B 51;
let x83 := bif x55 then (σ.R 4).length else (σ.R 4).length;
let x84 := (bif x54 then x83 else x83) = (σ.R 4).length;
let x85 := x82 ∧ x84;
let x86 := x44 = false;
let x88 := bif decide (x20 ≥ (-128 : Int)) then decide (x20 ≤ (127 : Int)) else false;
let x89 := x88 = true;
let x90 := True ∧ (0 : Int) ≤ (1 : Int) ∧ (1 : Int) ≤ (8 : Int);
let x91 := rowsB (leL x20 1);
let x92 := x91.length;
let x93 := x92 ≤ x92;
let x94 := IntKind.i64.wrap ((64 : Int) + x7);
let x95 := List.take x92 x91;
let x96 := [Value.int IntKind.u8 (IntKind.u8.wrap (IntKind.i64.wrap (x94 + (4 : Int))))] :: x50 ++ x95;
let x97 := x96.length;
let x98 := x88 = false;
let x99 := IntKind.i64.wrap ((128 : Int) + x7);
let x100 := [Value.int IntKind.u8 (IntKind.u8.wrap (IntKind.i64.wrap (x99 + (4 : Int))))] :: x50;
let x101 := x100.length;
let x102 := x100 ++ x24;
let x103 := x102.length;
let x104 := rowsH (namedH x30 x101);
let x105 := x104.length;
let x106 := ((((True ∧ 0 = 0) ∧ x84) ∧ 2 = x101) ∧ x17) ∧ x18 ∧ (x101 = x101 ∧ x23 ∧ x103 ≤ 9223372036854775807 ∧ x103 * 1 ≤ 140737488355328) ∧ True ∧ Ex.ret = Ex.ret ∧ true = true ∧ (((x82 ∧ x1) ∧ x103 = x103 ∧ x102 = x9) ∧ x105 = x105 ∧ x104 = x10) ∧ x33;
let x107 := x19 = false;
let x108 := (σ.I 3).tmod (8 : Int) == (4 : Int);
let x109 := [[Value.int IntKind.u8 (36 : Int)]];
let x110 := [Value.int IntKind.u8 (IntKind.u8.wrap (IntKind.i64.wrap (x14 + (σ.I 3).tmod (8 : Int))))] :: x109 ++ x51;
let x111 := x110.length;
let x112 := ((((((((((((((((((((((((((x2 ∧ x56 = σ.I 20) ∧ x57 = σ.I 21) ∧ x58 = σ.I 22) ∧ x59 = σ.I 23) ∧ x60 = σ.I 24) ∧ x61 = σ.I 25) ∧ x62 = σ.I 26) ∧ x63 = σ.I 27) ∧ x64 = σ.B 28) ∧ x65 = σ.B 29) ∧ x66 = σ.I 30) ∧ x67 = σ.S 31) ∧ x68 = σ.I 32) ∧ x69 = σ.I 33) ∧ x70 = σ.I 34) ∧ x71 = σ.I 35) ∧
    x72 = σ.I 36) ∧ x73 = σ.I 37) ∧ x74 = σ.B 38) ∧ x75 = σ.B 39) ∧ x76 = σ.I 40) ∧ x77 = σ.S 41) ∧ x78 = σ.I 42) ∧ x79 = σ.B 43) ∧ x4) ∧ x80 = x6) ∧ x81 = σ.B 51;
let x113 := x83 = (σ.R 4).length;
let x114 := x112 ∧ x113;
let x115 := [Value.int IntKind.u8 (IntKind.u8.wrap (IntKind.i64.wrap (x94 + (σ.I 3).tmod (8 : Int))))] :: x109 ++ x95;
let x116 := x115.length;
let x117 := (True ∧ 0 = 0) ∧ x113;
let x118 := [Value.int IntKind.u8 (IntKind.u8.wrap (IntKind.i64.wrap (x99 + (σ.I 3).tmod (8 : Int))))] :: x109;
let x119 := x118.length;
let x120 := x118 ++ x24;
let x121 := x120.length;
let x122 := x112 ∧ x1;
let x123 := rowsH (namedH x30 x119);
let x124 := x123.length;
let x125 := ((x117 ∧ 2 = x119) ∧ x17) ∧ x18 ∧ (x119 = x119 ∧ x23 ∧ x121 ≤ 9223372036854775807 ∧ x121 * 1 ≤ 140737488355328) ∧ True ∧ Ex.ret = Ex.ret ∧ true = true ∧ ((x122 ∧ x121 = x121 ∧ x120 = x9) ∧ x124 = x124 ∧ x123 = x10) ∧ x33;
let x126 := [[Value.int IntKind.u8 (IntKind.u8.wrap (IntKind.i64.wrap (x14 + (σ.I 3).tmod (8 : Int))))]] ++ x51;
let x127 := x126.length;
let x128 := [[Value.int IntKind.u8 (IntKind.u8.wrap (IntKind.i64.wrap (x94 + (σ.I 3).tmod (8 : Int))))]] ++ x95;
let x129 := x128.length;
let x130 := [[Value.int IntKind.u8 (IntKind.u8.wrap (IntKind.i64.wrap (x99 + (σ.I 3).tmod (8 : Int))))]];
let x131 := x130.length;
let x132 := x130 ++ x24;
let x133 := x132.length;
let x134 := rowsH (namedH x30 x131);
let x135 := x134.length;
let x136 := ((x117 ∧ 1 = x131) ∧ x17) ∧ x18 ∧ (x131 = x131 ∧ x23 ∧ x133 ≤ 9223372036854775807 ∧ x133 * 1 ≤ 140737488355328) ∧ True ∧ Ex.ret = Ex.ret ∧ true = true ∧ ((x122 ∧ x133 = x133 ∧ x132 = x9) ∧ x135 = x135 ∧ x134 = x10) ∧ x33;
(x0 = true → True ∧ Ex.ret = Ex.ret ∧ true = true ∧ ((((((((((((((((((((((((((((((x2 ∧ (bif x3 then σ.I 20 else σ.I 20) = σ.I 20) ∧ (bif x3 then σ.I 21 else σ.I 21) = σ.I 21) ∧ (bif x3 then σ.I 22 else σ.I 22) = σ.I 22) ∧ (bif x3 then σ.I 23 else σ.I 23) = σ.I 23) ∧ (bif x3 then σ.I 24 else σ.I 24)
    = σ.I 24) ∧ (bif x3 then σ.I 25 else σ.I 25) = σ.I 25) ∧ (bif x3 then σ.I 26 else σ.I 26) = σ.I 26) ∧ (bif x3 then σ.I 27 else σ.I 27) = σ.I 27) ∧ (bif x3 then σ.B 28 else σ.B 28) = σ.B 28) ∧ (bif x3 then σ.B 29 else σ.B 29) = σ.B 29) ∧ (bif x3 then σ.I 30 else σ.I 30) = σ.I 30) ∧ (bif x3 then
    σ.S 31 else σ.S 31) = σ.S 31) ∧ (bif x3 then σ.I 32 else σ.I 32) = σ.I 32) ∧ (bif x3 then σ.I 33 else σ.I 33) = σ.I 33) ∧ (bif x3 then σ.I 34 else σ.I 34) = σ.I 34) ∧ (bif x3 then σ.I 35 else σ.I 35) = σ.I 35) ∧ (bif x3 then σ.I 36 else σ.I 36) = σ.I 36) ∧ (bif x3 then σ.I 37 else σ.I 37) = σ.I
    37) ∧ (bif x3 then σ.B 38 else σ.B 38) = σ.B 38) ∧ (bif x3 then σ.B 39 else σ.B 39) = σ.B 39) ∧ (bif x3 then σ.I 40 else σ.I 40) = σ.I 40) ∧ (bif x3 then σ.S 41 else σ.S 41) = σ.S 41) ∧ (bif x3 then σ.I 42 else σ.I 42) = σ.I 42) ∧ (bif x3 then σ.B 43 else σ.B 43) = σ.B 43) ∧ x4) ∧ (bif x3 then
    x5 else σ.I 50) = x6) ∧ (bif x3 then σ.B 51 else σ.B 51) = σ.B 51) ∧ (bif x3 then (σ.R 4).length else (σ.R 4).length) = (σ.R 4).length) ∧ 1 = x8.length ∧ x8 = x9) ∧ x11) ∧ x13) ∧ (x0 = false → (σ.B 6 = true → ((((True ∧ 0 = 0) ∧ x1) ∧ 1 = x16) ∧ x17) ∧ x18 ∧ (x16 = x16 ∧ x23 ∧ x26 ≤
    9223372036854775807 ∧ x26 * 1 ≤ 140737488355328) ∧ True ∧ Ex.ret = Ex.ret ∧ true = true ∧ ((((((x27 ∧ x4) ∧ x28) ∧ x29) ∧ x1) ∧ x26 = x26 ∧ x25 = x9) ∧ x32 = x32 ∧ x31 = x10) ∧ x33) ∧ (σ.B 6 = false → (σ.B 7 = true → ((((True ∧ 1 = 1) ∧ x1) ∧ 2 = x35) ∧ x17) ∧ x18 ∧ (x35 = x35 ∧ x23 ∧ x37 ≤
    9223372036854775807 ∧ x37 * 1 ≤ 140737488355328) ∧ True ∧ Ex.ret = Ex.ret ∧ true = true ∧ ((((((x27 ∧ 1 = x38.length ∧ x38 = rowsB (rmPre (opd σ 1))) ∧ x28) ∧ x29) ∧ x1) ∧ x37 = x37 ∧ x36 = x9) ∧ x40 = x40 ∧ x39 = x10) ∧ x33) ∧ (σ.B 7 = false → (x42 = true → (x43 → (x45 → x46 ∧ (True ∧ x49 ∧ x53
    ≤ 9223372036854775807 ∧ x53 * 1 ≤ 140737488355328) ∧ True ∧ Ex.ret = Ex.ret ∧ true = true ∧ ((x85 ∧ x53 = x53 ∧ x52 = x9) ∧ x11) ∧ x13) ∧ (x86 → (x89 → x90 ∧ (True ∧ x93 ∧ x97 ≤ 9223372036854775807 ∧ x97 * 1 ≤ 140737488355328) ∧ True ∧ Ex.ret = Ex.ret ∧ true = true ∧ ((x85 ∧ x97 = x97 ∧ x96 =
    x9) ∧ x11) ∧ x13) ∧ (x98 → x106))) ∧ (x107 → x106)) ∧ (x42 = false → (x108 = true → (x43 → (x45 → x46 ∧ (True ∧ x49 ∧ x111 ≤ 9223372036854775807 ∧ x111 * 1 ≤ 140737488355328) ∧ True ∧ Ex.ret = Ex.ret ∧ true = true ∧ ((x114 ∧ x111 = x111 ∧ x110 = x9) ∧ x11) ∧ x13) ∧ (x86 → (x89 → x90 ∧ (True ∧
    x93 ∧ x116 ≤ 9223372036854775807 ∧ x116 * 1 ≤ 140737488355328) ∧ True ∧ Ex.ret = Ex.ret ∧ true = true ∧ ((x114 ∧ x116 = x116 ∧ x115 = x9) ∧ x11) ∧ x13) ∧ (x98 → x125))) ∧ (x107 → x125)) ∧ (x108 = false → (x43 → (x45 → x46 ∧ (True ∧ x49 ∧ x127 ≤ 9223372036854775807 ∧ x127 * 1 ≤ 140737488355328) ∧
    True ∧ Ex.ret = Ex.ret ∧ true = true ∧ ((x114 ∧ x127 = x127 ∧ x126 = x9) ∧ x11) ∧ x13) ∧ (x86 → (x89 → x90 ∧ (True ∧ x93 ∧ x129 ≤ 9223372036854775807 ∧ x129 * 1 ≤ 140737488355328) ∧ True ∧ Ex.ret = Ex.ret ∧ true = true ∧ ((x114 ∧ x129 = x129 ∧ x128 = x9) ∧ x11) ∧ x13) ∧ (x98 → x136))) ∧ (x107 →
    x136))))))) := by kernel_rfl

end Go.Proofs.YthmighgfefjcmaaGreat.Enc
end

section
/- ModRM and what follows: shown. No condition. -/
set_option maxRecDepth 100000
namespace Go.Proofs.YthmighgfefjcmaaGreat.Enc
open Go.RowKit Go.Proofs.YthmighgfefjcmaaGreat.X Go.IntWalk

theorem bsame {α : Type} (b : Bool) (x : α) : (bif b then x else x) = x := by cases b <;> rfl
theorem tmod8 (x : Int) (h : 0 ≤ x) : x.tmod 8 = x % 8 := Int.tmod_eq_emod_of_nonneg h
theorem take_len {α : Type} (l : List α) : List.take l.length l = l := List.take_length
theorem rows_cat (a b : List Int) : rowsB a ++ rowsB b = rowsB (a ++ b) := by unfold rowsB; rw [List.map_append]
theorem or_le : ∀ x : Nat, x < 16 → (x ||| 1) < 16 ∧ (x ||| 2) < 16 ∧ ((x ||| 1) ||| 2) = (x ||| 3) ∧ (x ||| 0) = x := by decide
theorem bor_eq (x : Int) (h0 : 0 ≤ x) (h1 : x ≤ 15) (k : Int) (hk : k = 1 ∨ k = 2) : IntKind.i64.wrap (((BitVec.ofInt 64 x ||| BitVec.ofInt 64 k).toNat : Nat) : Int) = rexOr x k := by
  have : x = 0 ∨ x = 1 ∨ x = 2 ∨ x = 3 ∨ x = 4 ∨ x = 5 ∨ x = 6 ∨ x = 7 ∨ x = 8 ∨ x = 9 ∨ x = 10 ∨ x = 11 ∨ x = 12 ∨ x = 13 ∨ x = 14 ∨ x = 15 := by omega
  rcases hk with rfl | rfl <;> rcases this with rfl | rfl | rfl | rfl | rfl | rfl | rfl | rfl | rfl | rfl | rfl | rfl | rfl | rfl | rfl | rfl <;> rfl

theorem rex0 (x : Int) (h0 : 0 ≤ x) (h1 : x ≤ 15) : rexOr x 0 = x := by
  have : x = 0 ∨ x = 1 ∨ x = 2 ∨ x = 3 ∨ x = 4 ∨ x = 5 ∨ x = 6 ∨ x = 7 ∨ x = 8 ∨ x = 9 ∨ x = 10 ∨ x = 11 ∨ x = 12 ∨ x = 13 ∨ x = 14 ∨ x = 15 := by omega
  rcases this with rfl | rfl | rfl | rfl | rfl | rfl | rfl | rfl | rfl | rfl | rfl | rfl | rfl | rfl | rfl | rfl <;> rfl
theorem rex1 (x : Int) (h0 : 0 ≤ x) (h1 : x ≤ 15) (c : Bool) (k : Int) (hk : k = 1 ∨ k = 2) : (bif c then IntKind.i64.wrap (((BitVec.ofInt 64 x ||| BitVec.ofInt 64 k).toNat : Nat) : Int) else x) = rexOr x (bif c then k else 0) := by
  cases c
  · exact (rex0 x h0 h1).symm
  · exact bor_eq x h0 h1 k hk
theorem rex2 (x : Int) (h0 : 0 ≤ x) (h1 : x ≤ 15) (c d : Bool) : (bif d then IntKind.i64.wrap (((BitVec.ofInt 64 (rexOr x (bif c then 1 else 0)) ||| BitVec.ofInt 64 2).toNat : Nat) : Int) else rexOr x (bif c then 1 else 0)) = rexOr x ((bif c then 1 else 0) + (bif d then 2 else 0)) := by
  have : x = 0 ∨ x = 1 ∨ x = 2 ∨ x = 3 ∨ x = 4 ∨ x = 5 ∨ x = 6 ∨ x = 7 ∨ x = 8 ∨ x = 9 ∨ x = 10 ∨ x = 11 ∨ x = 12 ∨ x = 13 ∨ x = 14 ∨ x = 15 := by omega
  rcases this with rfl | rfl | rfl | rfl | rfl | rfl | rfl | rfl | rfl | rfl | rfl | rfl | rfl | rfl | rfl | rfl <;> cases c <;> cases d <;> rfl
theorem same2 {α : Type} (a b : Bool) (x : α) : (bif a then (bif b then x else x) else (bif b then x else x)) = x := by cases a <;> cases b <;> rfl
theorem cat_len {α : Type} (a b : List α) (h1 : a.length ≤ 10) (h2 : b.length ≤ 10) : (a ++ b).length ≤ 9223372036854775807 ∧ (a ++ b).length * 1 ≤ 140737488355328 := by rw [List.length_append]; omega
theorem logS_le (s : Int) : 0 ≤ logS s ∧ logS s ≤ 3 := by
  unfold logS
  cases s == 1 <;> cases s == 2 <;> cases s == 4 <;> cases s == 8 <;> decide
theorem sib_byte (s i b : Int) (hs : 0 ≤ s ∧ s ≤ 3) (hi : 0 ≤ i ∧ i ≤ 7) (hb : 0 ≤ b ∧ b ≤ 7) : IntKind.u8.wrap (IntKind.i64.wrap (IntKind.i64.wrap (IntKind.i64.wrap (64 * s) + IntKind.i64.wrap (8 * i)) + b)) = 64 * s + 8 * i + b := by
  rw [i64_in (64 * s) (by omega), i64_in (8 * i) (by omega), i64_in (64 * s + 8 * i) (by omega), i64_in _ (by omega), u8_in _ (by omega)]

set_option maxHeartbeats 4000000 in
theorem good_rm : Lib.Good Tryz.prog Lrm := lib_con good_named Tryz.func31 cRm 2000 fun σ α hp => by
  have hr0 : 0 ≤ σ.I 0 := hp.1
  have hr1 : σ.I 0 ≤ 7 := hp.2.1
  have hok : rmOk (opd σ 1) := hp.2.2.1
  have hx0 : 0 ≤ σ.I 50 := hp.2.2.2.1
  have hx1 : σ.I 50 ≤ 15 := hp.2.2.2.2
  clear hp
  rw [rm_goal]
  intro x0 x1 x2 x3 x4 x5 x6 x7 x8 x9 x10 x11 x12 x13 x14 x15 x16 x17 x18 x19 x20 x21 x22 x23 x24 x25 x26 x27 x28 x29 x30 x31 x32 x33 x34 x35 x36 x37 x38 x39 x40 x42 x43 x44 x45 x46 x47 x48 x49 x50 x51 x52 x53 x54 x55 x56 x57 x58 x59 x60 x61 x62 x63 x64 x65 x66 x67 x68 x69 x70 x71 x72 x73 x74 x75 x76 x77 x78 x79 x80 x81 x82 x83 x84 x85 x86 x88 x89 x90 x91 x92 x93 x94 x95 x96 x97 x98 x99 x100 x101 x102 x103 x104 x105 x106 x107 x108 x109 x110 x111 x112 x113 x114 x115 x116 x117 x118 x119 x120 x121 x122 x123 x124 x125 x126 x127 x128 x129 x130 x131 x132 x133 x134 x135 x136 
  have h2 : x2 := by and_intros <;> first | trivial | rfl
  have h7 : x7 = 8 * σ.I 0 := i64_in _ (by omega)
  have h14 : x14 = 8 * σ.I 0 := by show IntKind.i64.wrap (0 + x7) = _; rw [h7, i64_in _ (by omega)]; omega
  have h94 : x94 = 64 + 8 * σ.I 0 := by show IntKind.i64.wrap (64 + x7) = _; rw [h7, i64_in _ (by omega)]
  have h99 : x99 = 128 + 8 * σ.I 0 := by show IntKind.i64.wrap (128 + x7) = _; rw [h7, i64_in _ (by omega)]
  have b0 : ∀ r : Int, 0 ≤ r → r ≤ 7 → IntKind.u8.wrap (IntKind.i64.wrap (x14 + r)) = modrm 0 (σ.I 0) r := fun r q1 q2 => by rw [h14, i64_in _ (by omega), u8_in _ (by omega)]; unfold modrm; omega
  have b1 : ∀ r : Int, 0 ≤ r → r ≤ 7 → IntKind.u8.wrap (IntKind.i64.wrap (x94 + r)) = modrm 1 (σ.I 0) r := fun r q1 q2 => by rw [h94, i64_in _ (by omega), u8_in _ (by omega)]; unfold modrm; omega
  have b2 : ∀ r : Int, 0 ≤ r → r ≤ 7 → IntKind.u8.wrap (IntKind.i64.wrap (x99 + r)) = modrm 2 (σ.I 0) r := fun r q1 q2 => by rw [h99, i64_in _ (by omega), u8_in _ (by omega)]; unfold modrm; omega
  have b3 : ∀ r : Int, 0 ≤ r → r ≤ 7 → IntKind.u8.wrap (IntKind.i64.wrap (IntKind.i64.wrap (192 + x7) + r)) = modrm 3 (σ.I 0) r := fun r q1 q2 => by rw [h7, i64_in (192 + _) (by omega), i64_in _ (by omega), u8_in _ (by omega)]; unfold modrm; omega
  have h24 : x24 = rowsB (leL (dispN (opd σ 1)) 4) := take_len _
  have h51 : x51 = rowsB (leL (dispN (opd σ 1)) 0) := take_len _
  have h95 : x95 = rowsB (leL (dispN (opd σ 1)) 1) := take_len _
  have l24 : x24.length = 4 := by rw [h24, rowsB_len]; exact leL_len _ _ (by omega)
  have l51 : x51.length = 0 := by rw [h51, rowsB_len]; exact leL_len _ _ (by omega)
  have l95 : x95.length = 1 := by rw [h95, rowsB_len]; exact leL_len _ _ (by omega)
  have hx28 : ∀ k, rmRex (opd σ 1) = k → x6 = rexOr (σ.I 50) k := fun k e => by show rexOr _ _ = _; rw [e]
  refine ⟨fun h => ?_, fun h => ?_⟩
  · have hk : isR (opd σ 1) = true := h
    have hr : 0 ≤ (opd σ 1).r ∧ (opd σ 1).r ≤ 15 := by
      rcases hok with h | h
      · exact h.2
      · rw [hk] at h; cases h.1
    have q0 : 0 ≤ σ.I 2 := hr.1
    have q1 : σ.I 2 ≤ 15 := hr.2
    have e1 : [] = rowsB (rmPre (opd σ 1)) := by rw [rmPre, hk]; rfl
    have e2 : (bif x3 then x5 else σ.I 50) = x6 := by
      rw [hx28 (bif x3 then 1 else 0) (by rw [rmRex, hk]; rfl)]
      exact rex1 _ hx0 hx1 _ 1 (.inl rfl)
    have e3 : x8 = x9 := by
      show [[Value.int .u8 _]] = rowsB (rmTail (σ.I 0) (opd σ 1))
      rw [b3 _ (by rw [tmod8 _ q0]; omega) (by rw [tmod8 _ q0]; omega), rmTail, rmHead, rmSize, hk]
      rfl
    have e4 : [] = x10 := by show [] = rowsH (rmHoles _ _); rw [rmHoles, hk]; rfl
    have e5 : x13 := by show false = !(rmHoles _ _).isEmpty; rw [rmHoles, hk]; rfl
    refine ⟨trivial, rfl, rfl, ?_⟩
    and_intros
    all_goals first | assumption | exact True.intro | exact Eq.refl _ | exact bsame _ _
  have hk : isR (opd σ 1) = false := h
  have hm : 0 ≤ σ.I 10 ∧ σ.I 10 ≤ 5 ∧ ((opd σ 1).rip = true ∨ (opd σ 1).fs = true ∨ (0 ≤ (opd σ 1).base ∧ (opd σ 1).base ≤ 15 ∧ -1 ≤ (opd σ 1).index ∧ (opd σ 1).index ≤ 15)) := by
    rcases hok with h | h
    · rw [hk] at h; cases h.1
    · exact ⟨h.2.1, h.2.2.1, h.2.2.2.2.2⟩
  obtain ⟨m0, m1, hm⟩ := hm
  have hH : ∀ n, (rmHead (σ.I 0) (opd σ 1)).length = n → rowsH (namedH x30 n) = x10 := fun n e => by
    show rowsH (namedH (opd σ 1) n) = rowsH (rmHoles _ _)
    rw [rmHoles, hk, e]; rfl
  have hI : x33 := by
    show (!anon (opd σ 1)) = !(rmHoles _ _).isEmpty
    rw [rmHoles, hk, cond_false, namedH]
    cases anon (opd σ 1) <;> rfl
  refine ⟨fun h6 => ?_, fun h6 => ⟨fun hf => ?_, fun hf => ?_⟩⟩
  · have k6 : (opd σ 1).rip = true := h6
    have e1 : [] = rowsB (rmPre (opd σ 1)) := by rw [rmPre, hk, k6]; rfl
    have e2 : σ.I 50 = x6 := by rw [hx28 0 (by rw [rmRex, hk, k6]; rfl)]; exact (rex0 _ hx0 hx1).symm
    have hd : rmHead (σ.I 0) (opd σ 1) = [modrm 0 (σ.I 0) 5] := by rw [rmHead, hk, k6]; rfl
    have e3 : x25 = x9 := by
      show [[Value.int .u8 _]] ++ x24 = rowsB (rmTail (σ.I 0) (opd σ 1))
      rw [b0 _ (by omega) (by omega), h24, rmTail, hd, rmSize, hk, k6]
      rfl
    have e4 : x31 = x10 := hH _ (by rw [hd]; rfl)
    have e5 : x26 ≤ 9223372036854775807 ∧ x26 * 1 ≤ 140737488355328 := cat_len _ _ (Nat.le_of_ble_eq_true rfl) (by rw [l24]; decide)
    obtain ⟨e5, e6⟩ := e5
    and_intros
    all_goals first | assumption | exact True.intro | exact Eq.refl _ | exact Nat.le_refl _ | exact congrArg List.length e4 | decide
  · have k6 : (opd σ 1).rip = false := h6
    have k7 : (opd σ 1).fs = true := hf
    have e1 : x38 = rowsB (rmPre (opd σ 1)) := by rw [rmPre, hk, k6, k7]; rfl
    have e2 : σ.I 50 = x6 := by rw [hx28 0 (by rw [rmRex, hk, k6, k7]; rfl)]; exact (rex0 _ hx0 hx1).symm
    have hd : rmHead (σ.I 0) (opd σ 1) = [modrm 0 (σ.I 0) 4, 37] := by rw [rmHead, hk, k6, k7]; rfl
    have e3 : x36 = x9 := by
      show [[Value.int .u8 _], [Value.int .u8 37]] ++ x24 = rowsB (rmTail (σ.I 0) (opd σ 1))
      rw [b0 _ (by omega) (by omega), h24, rmTail, hd, rmSize, hk, k6, k7]
      rfl
    have e4 : x39 = x10 := hH _ (by rw [hd]; rfl)
    have e5 : x37 ≤ 9223372036854775807 ∧ x37 * 1 ≤ 140737488355328 := cat_len _ _ (Nat.le_of_ble_eq_true rfl) (by rw [l24]; decide)
    obtain ⟨e5, e6⟩ := e5
    and_intros
    all_goals first | assumption | exact True.intro | exact Eq.refl _ | exact Nat.le_refl _ | exact congrArg List.length e4 | decide
  have k6 : (opd σ 1).rip = false := h6
  have k7 : (opd σ 1).fs = false := hf
  have hb : 0 ≤ σ.I 3 ∧ σ.I 3 ≤ 15 ∧ -1 ≤ σ.I 4 ∧ σ.I 4 ≤ 15 := by
    rcases hm with h | h | h
    · rw [k6] at h; cases h
    · rw [k7] at h; cases h
    · exact h
  obtain ⟨c0, c1, c2, c3⟩ := hb
  have t0 : 0 ≤ (σ.I 3).tmod 8 := by rw [tmod8 _ c0]; omega
  have t1 : (σ.I 3).tmod 8 ≤ 7 := by rw [tmod8 _ c0]; omega
  have p1 : [] = rowsB (rmPre (opd σ 1)) := by rw [rmPre, hk, k6, k7]; rfl
  have hnil : anon (opd σ 1) = true → [] = x10 := fun e => by show [] = rowsH (rmHoles _ _); rw [rmHoles, hk, cond_false, namedH, e]; rfl
  have hnil2 : anon (opd σ 1) = true → x13 := fun e => by show false = !(rmHoles _ _).isEmpty; rw [rmHoles, hk, cond_false, namedH, e]; rfl
  have hrm : rmRex (opd σ 1) = (bif x55 then 1 else 0) + (bif x54 then 2 else 0) := by rw [rmRex, hk, k6, k7]; rfl
  have tl : ∀ (hd : List Int) (k : Nat), rmHead (σ.I 0) (opd σ 1) = hd → sizO (opd σ 1) = k → rowsB hd ++ rowsB (leL (dispN (opd σ 1)) k) = x9 := fun hd k e1 e2 => by
    show _ = rowsB (rmTail (σ.I 0) (opd σ 1))
    rw [rmTail, e1, rmSize, hk, k6, k7, cond_false, cond_false, cond_false, e2, rows_cat]
  have s4 : (anon (opd σ 1) = true → disp0 (opd σ 1) = false ∧ disp1 (opd σ 1) = false) → sizO (opd σ 1) = 4 ∧ modO (opd σ 1) = 2 := fun e => by
    unfold sizO modO
    cases ha : anon (opd σ 1) with
    | false => exact ⟨rfl, rfl⟩
    | true => obtain ⟨e1, e2⟩ := e ha; rw [e1, e2]; exact ⟨rfl, rfl⟩
  have s0 : anon (opd σ 1) = true → disp0 (opd σ 1) = true → sizO (opd σ 1) = 0 ∧ modO (opd σ 1) = 0 := fun e1 e2 => by unfold sizO modO; rw [e1, e2]; exact ⟨rfl, rfl⟩
  have s1 : anon (opd σ 1) = true → disp0 (opd σ 1) = false → disp1 (opd σ 1) = true → sizO (opd σ 1) = 1 ∧ modO (opd σ 1) = 1 := fun e1 e2 e3 => by unfold sizO modO; rw [e1, e2, e3]; exact ⟨rfl, rfl⟩
  have rA : x80 = rexOr (σ.I 50) (bif x55 then 1 else 0) := rex1 _ hx0 hx1 _ 1 (.inl rfl)
  refine ⟨fun hX => ?_, fun hX => ⟨fun hS => ?_, fun hS => ?_⟩⟩
  · have i0 : 0 ≤ σ.I 4 := of_decide_eq_true hX
    have hsib : x50 = rowsB [64 * logS (σ.I 5) + 8 * (σ.I 4).tmod 8 + (σ.I 3).tmod 8] := by
      show [[Value.int .u8 (IntKind.u8.wrap (IntKind.i64.wrap (IntKind.i64.wrap (IntKind.i64.wrap (64 * logS (σ.I 5)) + IntKind.i64.wrap (8 * (σ.I 4).tmod 8)) + (σ.I 3).tmod 8)))]] = _
      rw [sib_byte _ _ _ (logS_le _) (by rw [tmod8 _ i0]; omega) ⟨t0, t1⟩]; rfl
    have hx : hasX (opd σ 1) = true := hX
    have hd : ∀ m, modO (opd σ 1) = m → rmHead (σ.I 0) (opd σ 1) = [modrm m (σ.I 0) 4, 64 * logS (σ.I 5) + 8 * (σ.I 4).tmod 8 + (σ.I 3).tmod 8] := fun m e => by rw [rmHead, hk, k6, k7]; simp only [cond_false]; rw [hx, e]; rfl
    have e2 : (bif x54 then IntKind.i64.wrap (((BitVec.ofInt 64 x80 ||| BitVec.ofInt 64 2).toNat : Nat) : Int) else x80) = x6 := by
      rw [hx28 _ hrm, rA]; exact rex2 _ hx0 hx1 _ _
    have big : (anon (opd σ 1) = true → disp0 (opd σ 1) = false ∧ disp1 (opd σ 1) = false) → x106 := fun hs => by
      obtain ⟨u1, u2⟩ := s4 hs
      have e3 : x102 = x9 := by
        show x100 ++ x24 = x9
        rw [show x100 = rowsB [modrm 2 (σ.I 0) 4, 64 * logS (σ.I 5) + 8 * (σ.I 4).tmod 8 + (σ.I 3).tmod 8] from (by show [Value.int .u8 _] :: x50 = _; rw [hsib, b2 _ (by omega) (by omega)]; rfl), h24]
        exact tl _ _ (hd _ u2) u1
      have e4 : rowsH (namedH x30 x101) = x10 := hH _ (by rw [hd _ u2]; rfl)
      have e5 : x103 ≤ 9223372036854775807 ∧ x103 * 1 ≤ 140737488355328 := cat_len _ _ (Nat.le_of_ble_eq_true rfl) (by rw [l24]; decide)
      obtain ⟨e5, e6⟩ := e5
      and_intros
      all_goals first | assumption | exact True.intro | exact Eq.refl _ | exact bsame _ _ | exact (bsame _ _).trans (bsame _ _) | exact (same2 _ _ _) | exact Nat.le_refl _ | exact congrArg List.length e4 | decide
    refine ⟨fun ha => ⟨fun d0 => ?_, fun d0 => ⟨fun d1 => ?_, fun d1 => big fun _ => ⟨d0, d1⟩⟩⟩, fun ha => big fun e => (by rw [show anon (opd σ 1) = false from ha] at e; cases e)⟩
    · obtain ⟨u1, u2⟩ := s0 ha d0
      have e3 : x52 = x9 := by
        rw [show x52 = rowsB [modrm 0 (σ.I 0) 4, 64 * logS (σ.I 5) + 8 * (σ.I 4).tmod 8 + (σ.I 3).tmod 8] ++ x51 from congrArg (· ++ x51) (by rw [hsib, b0 _ (by omega) (by omega)]; rfl), h51]
        exact tl _ _ (hd _ u2) u1
      have e4 := hnil ha
      have e7 := hnil2 ha
      have e5 : x53 ≤ 9223372036854775807 ∧ x53 * 1 ≤ 140737488355328 := cat_len _ _ (Nat.le_of_ble_eq_true rfl) (by rw [l51]; decide)
      obtain ⟨e5, e6⟩ := e5
      and_intros
      all_goals first | assumption | exact True.intro | exact Eq.refl _ | exact bsame _ _ | exact (bsame _ _).trans (bsame _ _) | exact (same2 _ _ _) | exact Nat.le_refl _ | exact congrArg List.length e4 | decide
    · obtain ⟨u1, u2⟩ := s1 ha d0 d1
      have e3 : x96 = x9 := by
        rw [show x96 = rowsB [modrm 1 (σ.I 0) 4, 64 * logS (σ.I 5) + 8 * (σ.I 4).tmod 8 + (σ.I 3).tmod 8] ++ x95 from congrArg (· ++ x95) (by rw [hsib, b1 _ (by omega) (by omega)]; rfl), h95]
        exact tl _ _ (hd _ u2) u1
      have e4 := hnil ha
      have e7 := hnil2 ha
      have e5 : x97 ≤ 9223372036854775807 ∧ x97 * 1 ≤ 140737488355328 := cat_len _ _ (Nat.le_of_ble_eq_true rfl) (by rw [l95]; decide)
      obtain ⟨e5, e6⟩ := e5
      and_intros
      all_goals first | assumption | exact True.intro | exact Eq.refl _ | exact bsame _ _ | exact (bsame _ _).trans (bsame _ _) | exact (same2 _ _ _) | exact Nat.le_refl _ | exact congrArg List.length e4 | decide
  · have hx : hasX (opd σ 1) = false := hX
    have hs : isSp (opd σ 1) = true := hS
    have hsp : (σ.I 3).tmod 8 = 4 := eq_of_beq (show ((σ.I 3).tmod 8 == 4) = true from hS)
    have hd : ∀ m, modO (opd σ 1) = m → rmHead (σ.I 0) (opd σ 1) = [modrm m (σ.I 0) 4, 36] := fun m e => by rw [rmHead, hk, k6, k7]; simp only [cond_false]; rw [hx, cond_false, hs, e]; rfl
    have e2 : x80 = x6 := by
      rw [hx28 _ hrm, rA, show x54 = false from decide_eq_false (by have := of_decide_eq_false hX; omega)]; rw [cond_false, Int.add_zero]
    have big : (anon (opd σ 1) = true → disp0 (opd σ 1) = false ∧ disp1 (opd σ 1) = false) → x125 := fun hs => by
      obtain ⟨u1, u2⟩ := s4 hs
      have e3 : x120 = x9 := by
        show x118 ++ x24 = x9
        rw [show x118 = rowsB [modrm 2 (σ.I 0) 4, 36] from (by show [Value.int .u8 (IntKind.u8.wrap (IntKind.i64.wrap (x99 + (σ.I 3).tmod 8)))] :: _ = _; rw [show (σ.I 3).tmod 8 = 4 from hsp, b2 _ (by omega) (by omega)]; rfl), h24]
        exact tl _ _ (hd _ u2) u1
      have e4 : rowsH (namedH x30 x119) = x10 := hH _ (by rw [hd _ u2]; rfl)
      have e5 : x121 ≤ 9223372036854775807 ∧ x121 * 1 ≤ 140737488355328 := cat_len _ _ (Nat.le_of_ble_eq_true rfl) (by rw [l24]; decide)
      obtain ⟨e5, e6⟩ := e5
      and_intros
      all_goals first | assumption | exact True.intro | exact Eq.refl _ | exact bsame _ _ | exact (bsame _ _).trans (bsame _ _) | exact (same2 _ _ _) | exact Nat.le_refl _ | exact congrArg List.length e4 | decide
    refine ⟨fun ha => ⟨fun d0 => ?_, fun d0 => ⟨fun d1 => ?_, fun d1 => big fun _ => ⟨d0, d1⟩⟩⟩, fun ha => big fun e => (by rw [show anon (opd σ 1) = false from ha] at e; cases e)⟩
    · obtain ⟨u1, u2⟩ := s0 ha d0
      have e3 : x110 = x9 := by
        rw [show x110 = rowsB [modrm 0 (σ.I 0) 4, 36] ++ x51 from congrArg (· ++ x51) (by rw [show (σ.I 3).tmod 8 = 4 from hsp, b0 _ (by omega) (by omega)]; rfl), h51]
        exact tl _ _ (hd _ u2) u1
      have e4 := hnil ha
      have e7 := hnil2 ha
      have e5 : x111 ≤ 9223372036854775807 ∧ x111 * 1 ≤ 140737488355328 := cat_len _ _ (Nat.le_of_ble_eq_true rfl) (by rw [l51]; decide)
      obtain ⟨e5, e6⟩ := e5
      and_intros
      all_goals first | assumption | exact True.intro | exact Eq.refl _ | exact bsame _ _ | exact (bsame _ _).trans (bsame _ _) | exact (same2 _ _ _) | exact Nat.le_refl _ | exact congrArg List.length e4 | decide
    · obtain ⟨u1, u2⟩ := s1 ha d0 d1
      have e3 : x115 = x9 := by
        rw [show x115 = rowsB [modrm 1 (σ.I 0) 4, 36] ++ x95 from congrArg (· ++ x95) (by rw [show (σ.I 3).tmod 8 = 4 from hsp, b1 _ (by omega) (by omega)]; rfl), h95]
        exact tl _ _ (hd _ u2) u1
      have e4 := hnil ha
      have e7 := hnil2 ha
      have e5 : x116 ≤ 9223372036854775807 ∧ x116 * 1 ≤ 140737488355328 := cat_len _ _ (Nat.le_of_ble_eq_true rfl) (by rw [l95]; decide)
      obtain ⟨e5, e6⟩ := e5
      and_intros
      all_goals first | assumption | exact True.intro | exact Eq.refl _ | exact bsame _ _ | exact (bsame _ _).trans (bsame _ _) | exact (same2 _ _ _) | exact Nat.le_refl _ | exact congrArg List.length e4 | decide
  · have hx : hasX (opd σ 1) = false := hX
    have hs : isSp (opd σ 1) = false := hS
    have hd : ∀ m, modO (opd σ 1) = m → rmHead (σ.I 0) (opd σ 1) = [modrm m (σ.I 0) ((σ.I 3).tmod 8)] := fun m e => by rw [rmHead, hk, k6, k7]; simp only [cond_false]; rw [hx, cond_false, hs, e]; rfl
    have e2 : x80 = x6 := by
      rw [hx28 _ hrm, rA, show x54 = false from decide_eq_false (by have := of_decide_eq_false hX; omega)]; rw [cond_false, Int.add_zero]
    have big : (anon (opd σ 1) = true → disp0 (opd σ 1) = false ∧ disp1 (opd σ 1) = false) → x136 := fun hs => by
      obtain ⟨u1, u2⟩ := s4 hs
      have e3 : x132 = x9 := by
        show x130 ++ x24 = x9
        rw [show x130 = rowsB [modrm 2 (σ.I 0) ((σ.I 3).tmod 8)] from (by show [[Value.int .u8 (IntKind.u8.wrap (IntKind.i64.wrap (x99 + (σ.I 3).tmod 8)))]] = _; rw [b2 _ t0 t1]; rfl), h24]
        exact tl _ _ (hd _ u2) u1
      have e4 : rowsH (namedH x30 x131) = x10 := hH _ (by rw [hd _ u2]; rfl)
      have e5 : x133 ≤ 9223372036854775807 ∧ x133 * 1 ≤ 140737488355328 := cat_len _ _ (Nat.le_of_ble_eq_true rfl) (by rw [l24]; decide)
      obtain ⟨e5, e6⟩ := e5
      and_intros
      all_goals first | assumption | exact True.intro | exact Eq.refl _ | exact bsame _ _ | exact (bsame _ _).trans (bsame _ _) | exact (same2 _ _ _) | exact Nat.le_refl _ | exact congrArg List.length e4 | decide
    refine ⟨fun ha => ⟨fun d0 => ?_, fun d0 => ⟨fun d1 => ?_, fun d1 => big fun _ => ⟨d0, d1⟩⟩⟩, fun ha => big fun e => (by rw [show anon (opd σ 1) = false from ha] at e; cases e)⟩
    · obtain ⟨u1, u2⟩ := s0 ha d0
      have e3 : x126 = x9 := by
        rw [show x126 = rowsB [modrm 0 (σ.I 0) ((σ.I 3).tmod 8)] ++ x51 from congrArg (· ++ x51) (by rw [b0 _ t0 t1]; rfl), h51]
        exact tl _ _ (hd _ u2) u1
      have e4 := hnil ha
      have e7 := hnil2 ha
      have e5 : x127 ≤ 9223372036854775807 ∧ x127 * 1 ≤ 140737488355328 := cat_len _ _ (Nat.le_of_ble_eq_true rfl) (by rw [l51]; decide)
      obtain ⟨e5, e6⟩ := e5
      and_intros
      all_goals first | assumption | exact True.intro | exact Eq.refl _ | exact bsame _ _ | exact (bsame _ _).trans (bsame _ _) | exact (same2 _ _ _) | exact Nat.le_refl _ | exact congrArg List.length e4 | decide
    · obtain ⟨u1, u2⟩ := s1 ha d0 d1
      have e3 : x128 = x9 := by
        rw [show x128 = rowsB [modrm 1 (σ.I 0) ((σ.I 3).tmod 8)] ++ x95 from congrArg (· ++ x95) (by rw [b1 _ t0 t1]; rfl), h95]
        exact tl _ _ (hd _ u2) u1
      have e4 := hnil ha
      have e7 := hnil2 ha
      have e5 : x129 ≤ 9223372036854775807 ∧ x129 * 1 ≤ 140737488355328 := cat_len _ _ (Nat.le_of_ble_eq_true rfl) (by rw [l95]; decide)
      obtain ⟨e5, e6⟩ := e5
      and_intros
      all_goals first | assumption | exact True.intro | exact Eq.refl _ | exact bsame _ _ | exact (bsame _ _).trans (bsame _ _) | exact (same2 _ _ _) | exact Nat.le_refl _ | exact congrArg List.length e4 | decide
end Go.Proofs.YthmighgfefjcmaaGreat.Enc
end

section
/- Ops of a group; numbers: contracts. No condition. -/
namespace Go.Proofs.YthmighgfefjcmaaGreat.Enc
open Go.RowKit Go.Proofs.YthmighgfefjcmaaGreat.X

/-- A writer that has written nothing yet. -/
def newP : List Pt := [nilP, .c (.int .i64 0), .c (.bool false), nilP, nilP, nilP, nilP, .c (.bool false)]
def rexW (size : Int) : Int := bif size == 8 then 8 else 0
def lowF (o : Opd) (size : Int) : Bool := bif size == 1 then (bif isR o then (bif decide (o.r ≥ 4) then (bif decide (o.r ≤ 7) then true else false) else false) else false) else false
def szOp (size small great : Int) : Int := bif size == 1 then small else great
def cGroup : Con where
  ps := [.p 0 0, .i .u8 0, .i .u8 1, .i .i64 2]
  bl := [(0, 42, instP 20 ++ newP)]
  top := 4
  pre := fun σ => 0 ≤ σ.I 2 ∧ σ.I 2 ≤ 7 ∧ rmOk (opd σ 23)
  post := fun σ => .leaf .ret [(0, .t [])] [(0, [(24, .gr 4 5 byteK (rowsB (rmPre (opd σ 23)))), (25, .gi .i64 (rexOr (rexW (σ.I 21)) (rmRex (opd σ 23)))), (26, .gb (lowF (opd σ 23) (σ.I 21))), (27, .gr 8 5 byteK (rowsB [szOp (σ.I 21) (σ.I 0) (σ.I 1)])),
    (28, .gr 12 5 byteK (rowsB (rmTail (σ.I 2) (opd σ 23)))), (30, .gr 16 54 holeK (rowsH (rmHoles (σ.I 2) (opd σ 23)))), (31, .gb (!(rmHoles (σ.I 2) (opd σ 23)).isEmpty))])] []
noncomputable def Lgrp : Lib := { Lrm with cs := (30, cGroup) :: Lrm.cs }
end Go.Proofs.YthmighgfefjcmaaGreat.Enc
end

section
/- Written by vc.py: what is to be shown, read out. No condition. -/
set_option maxRecDepth 1000000
set_option maxHeartbeats 0
namespace Go.Proofs.YthmighgfefjcmaaGreat.Enc
open Go.RowKit Go.Proofs.YthmighgfefjcmaaGreat.X
theorem group_goal (σ : Dt) (α : At') : (cGroup.goal Tryz.prog Lrm.mk' 2000 Tryz.f30 σ α) = (
let x0 := [[Value.int IntKind.u8 (bif σ.I 21 == (1 : Int) then σ.I 0 else σ.I 1)]];
let x1 := x0.length;
let x2 := σ.I 21 == (8 : Int);
let x3 := bif x2 then σ.I 21 else σ.I 21;
let x4 := x3 == (1 : Int);
let x5 := bif x2 then σ.I 23 else σ.I 23;
let x6 := x5 == (1 : Int);
let x7 := bif x2 then σ.I 24 else σ.I 24;
let x10 := decide (x7 ≥ (4 : Int));
let x11 := decide (x7 ≤ (7 : Int));
let x12 := bif x4 then bif x6 then bif x10 then bif x11 then x5 else x5 else x5 else x5 else x5;
let x13 := bif x4 then bif x6 then bif x10 then bif x11 then x7 else x7 else x7 else x7 else x7;
let x14 := bif x2 then σ.I 25 else σ.I 25;
let x15 := bif x4 then bif x6 then bif x10 then bif x11 then x14 else x14 else x14 else x14 else x14;
let x16 := bif x2 then σ.I 26 else σ.I 26;
let x17 := bif x4 then bif x6 then bif x10 then bif x11 then x16 else x16 else x16 else x16 else x16;
let x18 := bif x2 then σ.I 27 else σ.I 27;
let x19 := bif x4 then bif x6 then bif x10 then bif x11 then x18 else x18 else x18 else x18 else x18;
let x20 := bif x2 then σ.B 28 else σ.B 28;
let x21 := bif x4 then bif x6 then bif x10 then bif x11 then x20 else x20 else x20 else x20 else x20;
let x22 := bif x2 then σ.B 29 else σ.B 29;
let x23 := bif x4 then bif x6 then bif x10 then bif x11 then x22 else x22 else x22 else x22 else x22;
let x24 := bif x2 then σ.I 30 else σ.I 30;
let x25 := bif x4 then bif x6 then bif x10 then bif x11 then x24 else x24 else x24 else x24 else x24;
let x26 := bif x2 then σ.S 31 else σ.S 31;
let x27 := bif x4 then bif x6 then bif x10 then bif x11 then x26 else x26 else x26 else x26 else x26;
let x28 := bif x2 then σ.I 32 else σ.I 32;
let x29 := bif x4 then bif x6 then bif x10 then bif x11 then x28 else x28 else x28 else x28 else x28;
let x30 := { kind := x12, r := x13, base := x15, index := x17, scale := x19, rip := x21, fs := x23, n := x25, name := x27, mod := x29 : Opd };
let x31 := bif x2 then (8 : Int) else (0 : Int);
let x32 := bif x4 then bif x6 then bif x10 then bif x11 then x31 else x31 else x31 else x31 else x31;
let x33 := bif x2 then σ.I 20 else σ.I 20;
let x34 := bif x2 then σ.I 22 else σ.I 22;
let x35 := bif x2 then σ.I 33 else σ.I 33;
let x36 := bif x2 then σ.I 34 else σ.I 34;
let x37 := bif x2 then σ.I 35 else σ.I 35;
let x38 := bif x2 then σ.I 36 else σ.I 36;
let x39 := bif x2 then σ.I 37 else σ.I 37;
let x40 := bif x2 then σ.B 38 else σ.B 38;
let x41 := bif x2 then σ.B 39 else σ.B 39;
let x42 := bif x2 then σ.I 40 else σ.I 40;
let x43 := bif x2 then σ.S 41 else σ.S 41;
let x44 := bif x2 then σ.I 42 else σ.I 42;
let x45 := bif x2 then σ.B 43 else σ.B 43;
let x46 := rowsB (rmPre x30);
let x47 := x46.length;
let x48 := rowsB (rmTail (σ.I 2) x30);
let x49 := x48.length;
let x50 := rowsH (rmHoles (σ.I 2) x30);
let x51 := x50.length;
((True ∧ 1 = x1) ∧ (0 : Int) ≤ σ.I 2 ∧ σ.I 2 ≤ (7 : Int) ∧ rmOk x30 ∧ (0 : Int) ≤ x32 ∧ x32 ≤ (15 : Int)) ∧ True ∧ Ex.ret = Ex.ret ∧ true = true ∧ ((((((((((((((((((((((((((((((True ∧ (bif x4 then bif x6 then bif x10 then bif x11 then x33 else x33 else x33 else x33 else x33) = σ.I 20) ∧ (bif x4 then
    bif x6 then bif x10 then bif x11 then x3 else x3 else x3 else x3 else x3) = σ.I 21) ∧ (bif x4 then bif x6 then bif x10 then bif x11 then x34 else x34 else x34 else x34 else x34) = σ.I 22) ∧ x12 = σ.I 23) ∧ x13 = σ.I 24) ∧ x15 = σ.I 25) ∧ x17 = σ.I 26) ∧ x19 = σ.I 27) ∧ x21 = σ.B 28) ∧ x23 = σ.B
    29) ∧ x25 = σ.I 30) ∧ x27 = σ.S 31) ∧ x29 = σ.I 32) ∧ (bif x4 then bif x6 then bif x10 then bif x11 then x35 else x35 else x35 else x35 else x35) = σ.I 33) ∧ (bif x4 then bif x6 then bif x10 then bif x11 then x36 else x36 else x36 else x36 else x36) = σ.I 34) ∧ (bif x4 then bif x6 then bif x10
    then bif x11 then x37 else x37 else x37 else x37 else x37) = σ.I 35) ∧ (bif x4 then bif x6 then bif x10 then bif x11 then x38 else x38 else x38 else x38 else x38) = σ.I 36) ∧ (bif x4 then bif x6 then bif x10 then bif x11 then x39 else x39 else x39 else x39 else x39) = σ.I 37) ∧ (bif x4 then bif
    x6 then bif x10 then bif x11 then x40 else x40 else x40 else x40 else x40) = σ.B 38) ∧ (bif x4 then bif x6 then bif x10 then bif x11 then x41 else x41 else x41 else x41 else x41) = σ.B 39) ∧ (bif x4 then bif x6 then bif x10 then bif x11 then x42 else x42 else x42 else x42 else x42) = σ.I 40) ∧
    (bif x4 then bif x6 then bif x10 then bif x11 then x43 else x43 else x43 else x43 else x43) = σ.S 41) ∧ (bif x4 then bif x6 then bif x10 then bif x11 then x44 else x44 else x44 else x44 else x44) = σ.I 42) ∧ (bif x4 then bif x6 then bif x10 then bif x11 then x45 else x45 else x45 else x45 else
    x45) = σ.B 43) ∧ x47 = x47 ∧ x46 = rowsB (rmPre (opd σ 23))) ∧ rexOr x32 (rmRex x30) = rexOr (rexW (σ.I 21)) (rmRex (opd σ 23))) ∧ (bif x4 then bif x6 then bif x10 then bif x11 then true else false else false else false else false) = lowF (opd σ 23) (σ.I 21)) ∧ x1 = x1 ∧ x0 = rowsB [szOp (σ.I
    21) (σ.I 0) (σ.I 1)]) ∧ x49 = x49 ∧ x48 = rowsB (rmTail (σ.I 2) (opd σ 23))) ∧ x51 = x51 ∧ x50 = rowsH (rmHoles (σ.I 2) (opd σ 23))) ∧ (!(rmHoles (σ.I 2) x30).isEmpty) = !(rmHoles (σ.I 2) (opd σ 23)).isEmpty) := by kernel_rfl

end Go.Proofs.YthmighgfefjcmaaGreat.Enc
end

section
/- Ops of a group; numbers: shown. No condition. -/
set_option maxRecDepth 100000
namespace Go.Proofs.YthmighgfefjcmaaGreat.Enc
open Go.RowKit Go.Proofs.YthmighgfefjcmaaGreat.X Go.IntWalk

theorem rexW_le (s : Int) : 0 ≤ rexW s ∧ rexW s ≤ 15 := by unfold rexW; cases s == 8 <;> decide
theorem good_grp : Lib.Good Tryz.prog Lgrp := lib_con good_rm Tryz.func30 cGroup 2000 fun σ α hp => by
  have h0 : 0 ≤ σ.I 2 := hp.1
  have h1 : σ.I 2 ≤ 7 := hp.2.1
  have h2 : rmOk (opd σ 23) := hp.2.2
  clear hp
  rw [group_goal]
  simp only [bsame]
  and_intros
  all_goals first | assumption | exact True.intro | exact Eq.refl _ | exact (rexW_le _).1 | exact (rexW_le _).2
end Go.Proofs.YthmighgfefjcmaaGreat.Enc
end

section
/- What is written of an instruction: the spec, and contracts. No condition. -/
namespace Go.Proofs.YthmighgfefjcmaaGreat.Enc
open Go.RowKit Go.Proofs.YthmighgfefjcmaaGreat.X

/-- An instruction. -/
structure Ins where
  op : Int
  size : Int
  cond : Int
  to : Opd
  src : Opd
  short : Bool
def ins (σ : Dt) (i : Nat) : Ins := ⟨σ.I i, σ.I (i + 1), σ.I (i + 2), opd σ (i + 3), opd σ (i + 13), σ.B (i + 23)⟩
/-- What a writer has written. -/
structure Enc where
  pre : List Int := []
  rex : Int := 0
  force : Bool := false
  op : List Int := []
  tail : List Int := []
  number : List Int := []
  holes : List Hol := []
  inTail : Bool := false
def encUps (e : Enc) : List (Nat × Pt) :=
  [(24, .gr 4 5 byteK (rowsB e.pre)), (25, .gi .i64 e.rex), (26, .gb e.force), (27, .gr 8 5 byteK (rowsB e.op)), (28, .gr 12 5 byteK (rowsB e.tail)), (29, .gr 16 5 byteK (rowsB e.number)), (30, .gr 20 54 holeK (rowsH e.holes)), (31, .gb e.inTail)]
def cW (pre : Dt → Prop) (f : Dt → Enc) : Con where
  ps := [.p 0 0]
  bl := [(0, 42, instP 20 ++ newP)]
  top := 4
  pre := pre
  post := fun σ => .leaf .ret [(0, .t [])] [(0, encUps (f σ))] []

def groupE (o : Opd) (size small great k : Int) (num : List Int) : Enc :=
  { pre := rmPre o, rex := rexOr (rexW size) (rmRex o), force := lowF o size, op := [szOp size small great], tail := rmTail k o, number := num, holes := rmHoles k o, inTail := !(rmHoles k o).isEmpty }
def fits32 (n : Int) : Bool := bif decide (n ≥ IntKind.i64.wrap ((-1) * 2147483648)) then decide (n < 2147483648) else false
def short8 (size n : Int) : Bool := bif decide ((bif size == 4 then IntKind.i64.wrap (IntKind.i32.wrap n) else n) ≥ -128) then decide ((bif size == 4 then IntKind.i64.wrap (IntKind.i32.wrap n) else n) ≤ 127) else false
def min4 (size : Int) : Int := if 4 < size then 4 else size
def immE (i : Ins) : Enc :=
  bif bif i.op == 1 then bif isR i.to then bif decide (i.size < 8) then true else !fits32 i.src.n else false else false then
    { rex := rexOr (bif decide (i.to.r ≥ 8) then 1 else 0) (rexW i.size), force := lowF i.to i.size, op := [szOp i.size 176 184 + i.to.r.tmod 8], number := leL i.src.n i.size.toNat }
  else bif i.op == 1 then groupE i.to i.size 198 199 0 (leL i.src.n (min4 i.size).toNat)
  else bif i.op == 11 then groupE i.to i.size 246 247 0 (leL i.src.n (min4 i.size).toNat)
  else bif bif i.size != 1 then short8 i.size i.src.n else false then groupE i.to i.size 131 131 (i.op - 3) (leL i.src.n 1)
  else groupE i.to i.size 128 129 (i.op - 3) (leL i.src.n (min4 i.size).toNat)
def immOk (i : Ins) : Prop := (i.op = 1 ∨ i.op = 11 ∨ (3 ≤ i.op ∧ i.op ≤ 10)) ∧ (i.size = 1 ∨ i.size = 4 ∨ i.size = 8) ∧ rmOk i.to
def cImm : Con := cW (fun σ => immOk (ins σ 20)) fun σ => immE (ins σ 20)
noncomputable def Limm : Lib := { Lgrp with cs := (32, cImm) :: Lgrp.cs }
end Go.Proofs.YthmighgfefjcmaaGreat.Enc
end

section
/- Written by vc.py: what is to be shown, read out. No condition. -/
set_option maxRecDepth 1000000
set_option maxHeartbeats 0
namespace Go.Proofs.YthmighgfefjcmaaGreat.Enc
open Go.RowKit Go.Proofs.YthmighgfefjcmaaGreat.X
theorem imm_goal (σ : Dt) (α : At') : (cImm.goal Tryz.prog Lgrp.mk' 2000 Tryz.f32 σ α) = (
let x0 := σ.I 20 == (1 : Int);
let x1 := x0 = true;
let x2 := σ.I 23 == (1 : Int);
let x4 := decide (σ.I 21 < (8 : Int));
let x5 := σ.I 21 == (1 : Int);
let x7 := decide (σ.I 24 ≥ (4 : Int));
let x8 := decide (σ.I 24 ≤ (7 : Int));
let x9 := decide (σ.I 24 ≥ (8 : Int));
let x10 := bif x9 then σ.I 21 else σ.I 21;
let x11 := x10 == (8 : Int);
let x12 := bif x9 then σ.I 20 else σ.I 20;
let x13 := bif x11 then x12 else x12;
let x14 := bif x11 then x10 else x10;
let x15 := bif x5 then bif x2 then bif x7 then bif x8 then x14 else x14 else x14 else x14 else x14;
let x16 := bif x9 then σ.I 22 else σ.I 22;
let x17 := bif x11 then x16 else x16;
let x18 := bif x9 then σ.I 23 else σ.I 23;
let x19 := bif x11 then x18 else x18;
let x20 := bif x9 then σ.I 24 else σ.I 24;
let x21 := bif x11 then x20 else x20;
let x22 := bif x9 then σ.I 25 else σ.I 25;
let x23 := bif x11 then x22 else x22;
let x24 := bif x9 then σ.I 26 else σ.I 26;
let x25 := bif x11 then x24 else x24;
let x26 := bif x9 then σ.I 27 else σ.I 27;
let x27 := bif x11 then x26 else x26;
let x28 := bif x9 then σ.B 28 else σ.B 28;
let x29 := bif x11 then x28 else x28;
let x30 := bif x9 then σ.B 29 else σ.B 29;
let x31 := bif x11 then x30 else x30;
let x32 := bif x9 then σ.I 30 else σ.I 30;
let x33 := bif x11 then x32 else x32;
let x34 := bif x9 then σ.S 31 else σ.S 31;
let x35 := bif x11 then x34 else x34;
let x36 := bif x9 then σ.I 32 else σ.I 32;
let x37 := bif x11 then x36 else x36;
let x38 := bif x9 then σ.I 33 else σ.I 33;
let x39 := bif x11 then x38 else x38;
let x40 := bif x9 then σ.I 34 else σ.I 34;
let x41 := bif x11 then x40 else x40;
let x42 := bif x9 then σ.I 35 else σ.I 35;
let x43 := bif x11 then x42 else x42;
let x44 := bif x9 then σ.I 36 else σ.I 36;
let x45 := bif x11 then x44 else x44;
let x46 := bif x9 then σ.I 37 else σ.I 37;
let x47 := bif x11 then x46 else x46;
let x48 := bif x9 then σ.B 38 else σ.B 38;
let x49 := bif x11 then x48 else x48;
let x50 := bif x9 then σ.B 39 else σ.B 39;
let x51 := bif x11 then x50 else x50;
let x52 := bif x9 then σ.I 40 else σ.I 40;
let x53 := bif x11 then x52 else x52;
let x54 := bif x9 then σ.S 41 else σ.S 41;
let x55 := bif x11 then x54 else x54;
let x56 := bif x9 then σ.I 42 else σ.I 42;
let x57 := bif x11 then x56 else x56;
let x58 := bif x9 then σ.B 43 else σ.B 43;
let x59 := bif x11 then x58 else x58;
let x60 := bif x9 then (1 : Int) else (0 : Int);
let x61 := bif x11 then IntKind.i64.wrap (↑(BitVec.ofInt 64 x60 ||| BitVec.ofInt 64 (8 : Int)).toNat : Int) else x60;
let x62 := [[Value.int IntKind.u8 (IntKind.u8.wrap ((bif x15 == (1 : Int) then (176 : Int) else (184 : Int)) + IntKind.u8.wrap ((σ.I 24).tmod (8 : Int))))]];
let x63 := rowsB (leL (σ.I 40) (σ.I 21).toNat);
let x64 := x63.length;
let x65 := (True ∧ (0 : Int) ≤ σ.I 21 ∧ σ.I 21 ≤ (8 : Int)) ∧ True ∧ Ex.ret = Ex.ret ∧ true = true ∧ (((((((((((((((((((((((((((((((True ∧ (bif x5 then bif x2 then bif x7 then bif x8 then x13 else x13 else x13 else x13 else x13) = σ.I 20) ∧ x15 = σ.I 21) ∧ (bif x5 then bif x2 then bif x7 then bif x8
    then x17 else x17 else x17 else x17 else x17) = σ.I 22) ∧ (bif x5 then bif x2 then bif x7 then bif x8 then x19 else x19 else x19 else x19 else x19) = σ.I 23) ∧ (bif x5 then bif x2 then bif x7 then bif x8 then x21 else x21 else x21 else x21 else x21) = σ.I 24) ∧ (bif x5 then bif x2 then bif x7
    then bif x8 then x23 else x23 else x23 else x23 else x23) = σ.I 25) ∧ (bif x5 then bif x2 then bif x7 then bif x8 then x25 else x25 else x25 else x25 else x25) = σ.I 26) ∧ (bif x5 then bif x2 then bif x7 then bif x8 then x27 else x27 else x27 else x27 else x27) = σ.I 27) ∧ (bif x5 then bif x2
    then bif x7 then bif x8 then x29 else x29 else x29 else x29 else x29) = σ.B 28) ∧ (bif x5 then bif x2 then bif x7 then bif x8 then x31 else x31 else x31 else x31 else x31) = σ.B 29) ∧ (bif x5 then bif x2 then bif x7 then bif x8 then x33 else x33 else x33 else x33 else x33) = σ.I 30) ∧ (bif x5
    then bif x2 then bif x7 then bif x8 then x35 else x35 else x35 else x35 else x35) = σ.S 31) ∧ (bif x5 then bif x2 then bif x7 then bif x8 then x37 else x37 else x37 else x37 else x37) = σ.I 32) ∧ (bif x5 then bif x2 then bif x7 then bif x8 then x39 else x39 else x39 else x39 else x39) = σ.I 33)
    ∧ (bif x5 then bif x2 then bif x7 then bif x8 then x41 else x41 else x41 else x41 else x41) = σ.I 34) ∧ (bif x5 then bif x2 then bif x7 then bif x8 then x43 else x43 else x43 else x43 else x43) = σ.I 35) ∧ (bif x5 then bif x2 then bif x7 then bif x8 then x45 else x45 else x45 else x45 else x45)
    = σ.I 36) ∧ (bif x5 then bif x2 then bif x7 then bif x8 then x47 else x47 else x47 else x47 else x47) = σ.I 37) ∧ (bif x5 then bif x2 then bif x7 then bif x8 then x49 else x49 else x49 else x49 else x49) = σ.B 38) ∧ (bif x5 then bif x2 then bif x7 then bif x8 then x51 else x51 else x51 else x51
    else x51) = σ.B 39) ∧ (bif x5 then bif x2 then bif x7 then bif x8 then x53 else x53 else x53 else x53 else x53) = σ.I 40) ∧ (bif x5 then bif x2 then bif x7 then bif x8 then x55 else x55 else x55 else x55 else x55) = σ.S 41) ∧ (bif x5 then bif x2 then bif x7 then bif x8 then x57 else x57 else x57
    else x57 else x57) = σ.I 42) ∧ (bif x5 then bif x2 then bif x7 then bif x8 then x59 else x59 else x59 else x59 else x59) = σ.B 43) ∧ 0 = 0 ∧ [] = rowsB (immE (ins σ 20)).pre) ∧ (bif x5 then bif x2 then bif x7 then bif x8 then x61 else x61 else x61 else x61 else x61) = (immE (ins σ 20)).rex) ∧
    (bif x5 then bif x2 then bif x7 then bif x8 then true else false else false else false else false) = (immE (ins σ 20)).force) ∧ 1 = x62.length ∧ x62 = rowsB (immE (ins σ 20)).op) ∧ 0 = 0 ∧ [] = rowsB (immE (ins σ 20)).tail) ∧ x64 = x64 ∧ x63 = rowsB (immE (ins σ 20)).number) ∧ 0 = 0 ∧ [] = rowsH
    (immE (ins σ 20)).holes) ∧ false = (immE (ins σ 20)).inTail;
let x68 := !bif decide (σ.I 40 ≥ IntKind.i64.wrap ((-1 : Int) * (2147483648 : Int))) then decide (σ.I 40 < (2147483648 : Int)) else false;
let x69 := { kind := σ.I 23, r := σ.I 24, base := σ.I 25, index := σ.I 26, scale := σ.I 27, rip := σ.B 28, fs := σ.B 29, n := σ.I 30, name := σ.S 31, mod := σ.I 32 : Opd };
let x70 := rmOk x69;
let x71 := True ∧ (0 : Int) ≤ (0 : Int) ∧ (0 : Int) ≤ (7 : Int) ∧ x70;
let x72 := if (4 : Int) < σ.I 21 then (4 : Int) else σ.I 21;
let x73 := True ∧ (0 : Int) ≤ x72 ∧ x72 ≤ (8 : Int);
let x74 := rowsB (rmPre x69);
let x75 := x74.length;
let x76 := rexOr (rexW (σ.I 21)) (rmRex x69);
let x77 := lowF x69 (σ.I 21);
let x78 := ((((((((((((((((((((((((((True ∧ σ.I 20 = σ.I 20) ∧ σ.I 21 = σ.I 21) ∧ σ.I 22 = σ.I 22) ∧ σ.I 23 = σ.I 23) ∧ σ.I 24 = σ.I 24) ∧ σ.I 25 = σ.I 25) ∧ σ.I 26 = σ.I 26) ∧ σ.I 27 = σ.I 27) ∧ σ.B 28 = σ.B 28) ∧ σ.B 29 = σ.B 29) ∧ σ.I 30 = σ.I 30) ∧ σ.S 31 = σ.S 31) ∧ σ.I 32 = σ.I 32) ∧ σ.I 33 =
    σ.I 33) ∧ σ.I 34 = σ.I 34) ∧ σ.I 35 = σ.I 35) ∧ σ.I 36 = σ.I 36) ∧ σ.I 37 = σ.I 37) ∧ σ.B 38 = σ.B 38) ∧ σ.B 39 = σ.B 39) ∧ σ.I 40 = σ.I 40) ∧ σ.S 41 = σ.S 41) ∧ σ.I 42 = σ.I 42) ∧ σ.B 43 = σ.B 43) ∧ x75 = x75 ∧ x74 = rowsB (immE (ins σ 20)).pre) ∧ x76 = (immE (ins σ 20)).rex) ∧ x77 = (immE (ins
    σ 20)).force;
let x79 := rowsB [szOp (σ.I 21) (198 : Int) (199 : Int)];
let x80 := x79.length;
let x81 := rowsB (rmTail (0 : Int) x69);
let x82 := x81.length;
let x83 := x82 = x82 ∧ x81 = rowsB (immE (ins σ 20)).tail;
let x84 := rowsB (leL (σ.I 40) x72.toNat);
let x85 := x84.length;
let x86 := x85 = x85 ∧ x84 = rowsB (immE (ins σ 20)).number;
let x87 := rowsH (rmHoles (0 : Int) x69);
let x88 := x87.length;
let x89 := x88 = x88 ∧ x87 = rowsH (immE (ins σ 20)).holes;
let x90 := (!(rmHoles (0 : Int) x69).isEmpty) = (immE (ins σ 20)).inTail;
let x91 := x0 = false;
let x92 := σ.I 20 == (11 : Int);
let x93 := rowsB [szOp (σ.I 21) (246 : Int) (247 : Int)];
let x94 := x93.length;
let x95 := σ.I 21 != (1 : Int);
let x96 := bif σ.I 21 == (4 : Int) then IntKind.i64.wrap (IntKind.i32.wrap (σ.I 40)) else σ.I 40;
let x98 := bif decide (x96 ≥ (-128 : Int)) then decide (x96 ≤ (127 : Int)) else false;
let x99 := IntKind.i64.wrap (σ.I 20 - (3 : Int));
let x100 := True ∧ (0 : Int) ≤ x99 ∧ x99 ≤ (7 : Int) ∧ x70;
let x101 := bif x98 then (1 : Int) else x72;
let x102 := bif x98 then x74 else x74;
let x103 := rowsB [szOp (σ.I 21) (131 : Int) (131 : Int)];
let x104 := rowsB [szOp (σ.I 21) (128 : Int) (129 : Int)];
let x105 := x104.length;
let x106 := bif x98 then x103 else x104;
let x107 := rowsB (rmTail x99 x69);
let x108 := x107.length;
let x109 := bif x98 then x107 else x107;
let x110 := rowsB (leL (σ.I 40) x101.toNat);
let x111 := x110.length;
let x112 := rowsH (rmHoles x99 x69);
let x113 := x112.length;
let x114 := bif x98 then x112 else x112;
let x115 := !(rmHoles x99 x69).isEmpty;
let x116 := (x1 → x71 ∧ x73 ∧ True ∧ Ex.ret = Ex.ret ∧ true = true ∧ ((((x78 ∧ x80 = x80 ∧ x79 = rowsB (immE (ins σ 20)).op) ∧ x83) ∧ x86) ∧ x89) ∧ x90) ∧ (x91 → (x92 = true → x71 ∧ x73 ∧ True ∧ Ex.ret = Ex.ret ∧ true = true ∧ ((((x78 ∧ x94 = x94 ∧ x93 = rowsB (immE (ins σ 20)).op) ∧ x83) ∧ x86) ∧
    x89) ∧ x90) ∧ (x92 = false → (x95 = true → ((x98 = true → x100) ∧ (x98 = false → x100)) ∧ (True ∧ (0 : Int) ≤ x101 ∧ x101 ≤ (8 : Int)) ∧ True ∧ Ex.ret = Ex.ret ∧ true = true ∧ (((((((((((((((((((((((((((((((True ∧ (bif x98 then σ.I 20 else σ.I 20) = σ.I 20) ∧ (bif x98 then σ.I 21 else σ.I 21) =
    σ.I 21) ∧ (bif x98 then σ.I 22 else σ.I 22) = σ.I 22) ∧ (bif x98 then σ.I 23 else σ.I 23) = σ.I 23) ∧ (bif x98 then σ.I 24 else σ.I 24) = σ.I 24) ∧ (bif x98 then σ.I 25 else σ.I 25) = σ.I 25) ∧ (bif x98 then σ.I 26 else σ.I 26) = σ.I 26) ∧ (bif x98 then σ.I 27 else σ.I 27) = σ.I 27) ∧ (bif x98
    then σ.B 28 else σ.B 28) = σ.B 28) ∧ (bif x98 then σ.B 29 else σ.B 29) = σ.B 29) ∧ (bif x98 then σ.I 30 else σ.I 30) = σ.I 30) ∧ (bif x98 then σ.S 31 else σ.S 31) = σ.S 31) ∧ (bif x98 then σ.I 32 else σ.I 32) = σ.I 32) ∧ (bif x98 then σ.I 33 else σ.I 33) = σ.I 33) ∧ (bif x98 then σ.I 34 else σ.I
    34) = σ.I 34) ∧ (bif x98 then σ.I 35 else σ.I 35) = σ.I 35) ∧ (bif x98 then σ.I 36 else σ.I 36) = σ.I 36) ∧ (bif x98 then σ.I 37 else σ.I 37) = σ.I 37) ∧ (bif x98 then σ.B 38 else σ.B 38) = σ.B 38) ∧ (bif x98 then σ.B 39 else σ.B 39) = σ.B 39) ∧ (bif x98 then σ.I 40 else σ.I 40) = σ.I 40) ∧ (bif
    x98 then σ.S 41 else σ.S 41) = σ.S 41) ∧ (bif x98 then σ.I 42 else σ.I 42) = σ.I 42) ∧ (bif x98 then σ.B 43 else σ.B 43) = σ.B 43) ∧ (bif x98 then x75 else x75) = x102.length ∧ x102 = rowsB (immE (ins σ 20)).pre) ∧ (bif x98 then x76 else x76) = (immE (ins σ 20)).rex) ∧ (bif x98 then x77 else
    x77) = (immE (ins σ 20)).force) ∧ (bif x98 then x103.length else x105) = x106.length ∧ x106 = rowsB (immE (ins σ 20)).op) ∧ (bif x98 then x108 else x108) = x109.length ∧ x109 = rowsB (immE (ins σ 20)).tail) ∧ x111 = x111 ∧ x110 = rowsB (immE (ins σ 20)).number) ∧ (bif x98 then x113 else x113) =
    x114.length ∧ x114 = rowsH (immE (ins σ 20)).holes) ∧ (bif x98 then x115 else x115) = (immE (ins σ 20)).inTail) ∧ (x95 = false → x100 ∧ x73 ∧ True ∧ Ex.ret = Ex.ret ∧ true = true ∧ ((((x78 ∧ x105 = x105 ∧ x104 = rowsB (immE (ins σ 20)).op) ∧ x108 = x108 ∧ x107 = rowsB (immE (ins σ 20)).tail) ∧
    x86) ∧ x113 = x113 ∧ x112 = rowsH (immE (ins σ 20)).holes) ∧ x115 = (immE (ins σ 20)).inTail)));
(x1 → (x2 = true → (x4 = true → x65) ∧ (x4 = false → (x68 = true → x65) ∧ (x68 = false → x116))) ∧ (x2 = false → x116)) ∧ (x91 → x116)) := by kernel_rfl

end Go.Proofs.YthmighgfefjcmaaGreat.Enc
end

section
/- Numbers: shown. No condition. -/
set_option maxRecDepth 100000
namespace Go.Proofs.YthmighgfefjcmaaGreat.Enc
open Go.RowKit Go.Proofs.YthmighgfefjcmaaGreat.X Go.IntWalk

theorem rexR_eq (c : Bool) (s : Int) : (bif s == 8 then IntKind.i64.wrap (((BitVec.ofInt 64 (bif c then 1 else 0) ||| BitVec.ofInt 64 8).toNat : Nat) : Int) else bif c then 1 else 0) = rexOr (bif c then 1 else 0) (rexW s) := by
  unfold rexW
  cases c <;> cases s == 8 <;> rfl
theorem min4_le (s : Int) (h : s = 1 ∨ s = 4 ∨ s = 8) : 0 ≤ min4 s ∧ min4 s ≤ 8 := by rcases h with rfl | rfl | rfl <;> decide
theorem szb_eq (s r : Int) (h0 : 0 ≤ r) (h1 : r ≤ 7) : IntKind.u8.wrap ((bif s == 1 then 176 else 184) + IntKind.u8.wrap r) = szOp s 176 184 + r := by
  unfold szOp
  cases s == 1
  · rw [u8_in r (by omega), u8_in _ (by simp only [cond_false]; omega)]
  · rw [u8_in r (by omega), u8_in _ (by simp only [cond_true]; omega)]

set_option maxHeartbeats 4000000 in
theorem good_imm : Lib.Good Tryz.prog Limm := lib_con good_grp Tryz.func32 cImm 2000 fun σ α hp => by
  have hop : σ.I 20 = 1 ∨ σ.I 20 = 11 ∨ (3 ≤ σ.I 20 ∧ σ.I 20 ≤ 10) := hp.1
  have hsz : σ.I 21 = 1 ∨ σ.I 21 = 4 ∨ σ.I 21 = 8 := hp.2.1
  have hrm : rmOk (opd σ 23) := hp.2.2
  clear hp
  rw [imm_goal]
  intro x0 x1 x2 x4 x5 x7 x8 x9 x10 x11 x12 x13 x14 x15 x16 x17 x18 x19 x20 x21 x22 x23 x24 x25 x26 x27 x28 x29 x30 x31 x32 x33 x34 x35 x36 x37 x38 x39 x40 x41 x42 x43 x44 x45 x46 x47 x48 x49 x50 x51 x52 x53 x54 x55 x56 x57 x58 x59 x60 x61 x62 x63 x64 x65 x68 x69 x70 x71 x72 x73 x74 x75 x76 x77 x78 x79 x80 x81 x82 x83 x84 x85 x86 x87 x88 x89 x90 x91 x92 x93 x94 x95 x96 x98 x99 x100 x101 x102 x103 x104 x105 x106 x107 x108 x109 x110 x111 x112 x113 x114 x115 x116 
  have A : isR (opd σ 23) = true → immE (ins σ 20) = { rex := rexOr (bif decide (σ.I 24 ≥ 8) then 1 else 0) (rexW (σ.I 21)), force := lowF (opd σ 23) (σ.I 21), op := [szOp (σ.I 21) 176 184 + (σ.I 24).tmod 8], number := leL (σ.I 40) (σ.I 21).toNat } → x65 := fun hr hE => by
    have hr' : 0 ≤ σ.I 24 ∧ σ.I 24 ≤ 15 := by
      rcases hrm with h | h
      · exact h.2
      · rw [hr] at h; cases h.1
    simp only [x65, x2,x5,x7,x8,x9,x10,x11,x12,x13,x14,x15,x16,x17,x18,x19,x20,x21,x22,x23,x24,x25,x26,x27,x28,x29,x30,x31,x32,x33,x34,x35,x36,x37,x38,x39,x40,x41,x42,x43,x44,x45,x46,x47,x48,x49,x50,x51,x52,x53,x54,x55,x56,x57,x58,x59,x60,x61,x62,x63,x64, bsame, hE]
    and_intros
    all_goals first | assumption | exact True.intro | exact Eq.refl _ | omega | exact rexR_eq _ _ | skip
    rw [szb_eq _ _ (by rw [tmod8 _ hr'.1]; omega) (by rw [tmod8 _ hr'.1]; omega)]
    rfl
  have B : (bif σ.I 20 == 1 then bif isR (opd σ 23) then bif decide (σ.I 21 < 8) then true else !fits32 (σ.I 40) else false else false) = false → x116 := fun hB => by
    have hE : immE (ins σ 20) = (bif σ.I 20 == 1 then groupE (opd σ 23) (σ.I 21) 198 199 0 (leL (σ.I 40) (min4 (σ.I 21)).toNat) else bif σ.I 20 == 11 then groupE (opd σ 23) (σ.I 21) 246 247 0 (leL (σ.I 40) (min4 (σ.I 21)).toNat) else bif bif σ.I 21 != 1 then x98 else false then groupE (opd σ 23) (σ.I 21) 131 131 (σ.I 20 - 3) (leL (σ.I 40) 1) else groupE (opd σ 23) (σ.I 21) 128 129 (σ.I 20 - 3) (leL (σ.I 40) (min4 (σ.I 21)).toNat)) := by
      show (bif (bif σ.I 20 == 1 then bif isR (opd σ 23) then bif decide (σ.I 21 < 8) then true else !fits32 (σ.I 40) else false else false) then _ else _) = _
      rw [hB]; rfl
    have h72 : x72 = min4 (σ.I 21) := rfl
    obtain ⟨m0, m1⟩ := min4_le _ hsz
    have h69 : rmOk x69 := hrm
    have h99 : x99 = σ.I 20 - 3 := i64_in _ (by omega)
    refine ⟨fun h => ?_, fun h => ⟨fun h2 => ?_, fun h2 => ⟨fun h3 => ?_, fun h3 => ?_⟩⟩⟩
    · have e := hE
      rw [show (σ.I 20 == 1) = true from h, cond_true] at e
      and_intros
      all_goals first | assumption | exact True.intro | exact Eq.refl _ | (rw [e]; rfl) | (show _ = (immE (ins σ 20)).inTail; rw [e]; rfl) | decide
    · have e := hE
      rw [show (σ.I 20 == 1) = false from h, cond_false, show (σ.I 20 == 11) = true from h2, cond_true] at e
      and_intros
      all_goals first | assumption | exact True.intro | exact Eq.refl _ | (rw [e]; rfl) | (show _ = (immE (ins σ 20)).inTail; rw [e]; rfl) | decide
    · have e := hE
      have n1 : σ.I 20 ≠ 1 := fun q => by have h : (σ.I 20 == 1) = false := h; rw [beq_iff_eq.2 q] at h; cases h
      have n2 : σ.I 20 ≠ 11 := fun q => by have h2 : (σ.I 20 == 11) = false := h2; rw [beq_iff_eq.2 q] at h2; cases h2
      have n3 : 0 ≤ x99 := by rw [h99]; omega
      have n4 : x99 ≤ 7 := by rw [h99]; omega
      rw [show (σ.I 20 == 1) = false from h, cond_false, show (σ.I 20 == 11) = false from h2, cond_false, show (σ.I 21 != 1) = true from h3, cond_true, ← h99] at e
      rcases Bool.eq_false_or_eq_true x98 with hs | hs
      all_goals
        rw [hs] at e
        simp only [x100, x101, x102, x106, x109, x114, hs, cond_true, cond_false, bsame]
        and_intros
        all_goals first | (intro q; cases q; done) | (intro _; and_intros) | skip
        all_goals first | assumption | exact True.intro | exact Eq.refl _ | (rw [e]; rfl) | (show rowsB (leL (σ.I 40) (bif x98 then 1 else x72).toNat) = rowsB (immE (ins σ 20)).number; rw [hs, e]; rfl) | decide
    · have e := hE
      have n1 : σ.I 20 ≠ 1 := fun q => by have h : (σ.I 20 == 1) = false := h; rw [beq_iff_eq.2 q] at h; cases h
      have n2 : σ.I 20 ≠ 11 := fun q => by have h2 : (σ.I 20 == 11) = false := h2; rw [beq_iff_eq.2 q] at h2; cases h2
      have n3 : 0 ≤ x99 := by rw [h99]; omega
      have n4 : x99 ≤ 7 := by rw [h99]; omega
      rw [show (σ.I 20 == 1) = false from h, cond_false, show (σ.I 20 == 11) = false from h2, cond_false, show (σ.I 21 != 1) = false from h3, cond_false, cond_false, ← h99] at e
      and_intros
      all_goals first | assumption | exact True.intro | exact Eq.refl _ | (rw [e]; rfl) | decide
  refine ⟨fun h => ⟨fun h2 => ⟨fun h4 => A h2 ?_, fun h4 => ⟨fun h6 => A h2 ?_, fun h6 => B ?_⟩⟩, fun h2 => B ?_⟩, fun h => B ?_⟩
  · show (bif (bif σ.I 20 == 1 then bif isR (opd σ 23) then bif decide (σ.I 21 < 8) then true else !fits32 (σ.I 40) else false else false) then _ else _) = _
    rw [show (σ.I 20 == 1) = true from h, show isR (opd σ 23) = true from h2, show decide (σ.I 21 < 8) = true from h4]; rfl
  · show (bif (bif σ.I 20 == 1 then bif isR (opd σ 23) then bif decide (σ.I 21 < 8) then true else !fits32 (σ.I 40) else false else false) then _ else _) = _
    rw [show (σ.I 20 == 1) = true from h, show isR (opd σ 23) = true from h2, show decide (σ.I 21 < 8) = false from h4, show (!fits32 (σ.I 40)) = true from h6]; rfl
  · rw [show (σ.I 20 == 1) = true from h, show isR (opd σ 23) = true from h2, show decide (σ.I 21 < 8) = false from h4, show (!fits32 (σ.I 40)) = false from h6]; rfl
  · rw [show (σ.I 20 == 1) = true from h, show isR (opd σ 23) = false from h2]; rfl
  · rw [show (σ.I 20 == 1) = false from h]; rfl
end Go.Proofs.YthmighgfefjcmaaGreat.Enc
end

section
/- What is written of sums, shifts, the stack, jumps, others: the spec, and contracts. No condition. -/
namespace Go.Proofs.YthmighgfefjcmaaGreat.Enc
open Go.RowKit Go.Proofs.YthmighgfefjcmaaGreat.X

def isI (o : Opd) : Bool := o.kind == 2
def isM (o : Opd) : Bool := o.kind == 3
def isT (o : Opd) : Bool := o.kind == 4
def codeS (op : Int) : Int := bif op == 1 then 136 else bif op == 11 then 132 else bif op == 31 then 135 else 8 * (op - 3)
def codeG (op : Int) : Int := bif op == 1 then 137 else bif op == 11 then 133 else bif op == 31 then 135 else 8 * (op - 3) + 1
def rexR (r : Int) : Int := bif decide (r ≥ 8) then 4 else 0
/-- A register as reg, an operand as rm. -/
def regE (r : Int) (o : Opd) (size : Int) (force : Bool) (op : List Int) : Enc :=
  { pre := rmPre o, rex := rexOr (rexW size + rexR r) (rmRex o), force := force, op := op, tail := rmTail (r.tmod 8) o, holes := rmHoles (r.tmod 8) o, inTail := !(rmHoles (r.tmod 8) o).isEmpty }
def sumE (i : Ins) : Enc :=
  bif isI i.src then immE i
  else bif isR i.src then regE i.src.r i.to i.size (lowF i.to i.size || lowF i.src i.size) [szOp i.size (codeS i.op) (codeG i.op)]
  else regE i.to.r i.src i.size (lowF i.to i.size || lowF i.src i.size) [szOp i.size (codeS i.op) (codeG i.op) + 2]
def sumOk (i : Ins) : Prop := (i.op = 1 ∨ i.op = 11 ∨ i.op = 31 ∨ (3 ≤ i.op ∧ i.op ≤ 10)) ∧ (i.size = 1 ∨ i.size = 4 ∨ i.size = 8) ∧
  (bif isI i.src then immOk i else bif isR i.src then 0 ≤ i.src.r ∧ i.src.r ≤ 15 ∧ rmOk i.to else 0 ≤ i.to.r ∧ i.to.r ≤ 15 ∧ rmOk i.src)
def cSum : Con := cW (fun σ => sumOk (ins σ 20)) fun σ => sumE (ins σ 20)
def shK (op : Int) : Int := [4, 5, 7].getD (op - 17).toNat 0
def shE (i : Ins) : Enc :=
  bif isI i.src then groupE i.to i.size 192 193 (shK i.op) (leL i.src.n 1) else groupE i.to i.size 210 211 (shK i.op) []
def cSh : Con := cW (fun σ => 17 ≤ σ.I 20 ∧ σ.I 20 ≤ 19 ∧ rmOk (ins σ 20).to) fun σ => shE (ins σ 20)
noncomputable def Lsum : Lib := { Limm with cs := (12, cSum) :: Limm.cs }
noncomputable def Lsh : Lib := { Lsum with cs := (13, cSh) :: Lsum.cs }
end Go.Proofs.YthmighgfefjcmaaGreat.Enc
end

section
/- What is written of the stack, jumps, others: the spec, and contracts. No condition. -/
namespace Go.Proofs.YthmighgfefjcmaaGreat.Enc
open Go.RowKit Go.Proofs.YthmighgfefjcmaaGreat.X

def rmE (o : Opd) (k : Int) (force : Bool) (op : List Int) : Enc :=
  { pre := rmPre o, rex := rexOr 0 (rmRex o), force := force, op := op, tail := rmTail k o, holes := rmHoles k o, inTail := !(rmHoles k o).isEmpty }
def plusE (r op : Int) : Enc := { rex := bif decide (r ≥ 8) then 1 else 0, op := [op + r.tmod 8] }
def byteN (n : Int) : Bool := bif decide (n ≥ -128) then decide (n ≤ 127) else false
def stE (i : Ins) : Enc :=
  bif bif i.op == 20 then isR i.src else false then plusE i.src.r 80
  else bif bif i.op == 21 then isR i.to else false then plusE i.to.r 88
  else bif i.op == 21 then rmE i.to 0 false [143]
  else bif isM i.src then rmE i.src 6 false [255]
  else bif byteN i.src.n then { op := [106], number := leL i.src.n 1 }
  else { op := [104], number := leL i.src.n 4 }
def stOk (i : Ins) : Prop := (i.op = 20 ∧ (isR i.src = true ∨ isM i.src = true → rmOk i.src)) ∨ (i.op = 21 ∧ rmOk i.to)
def cSt : Con := cW (fun σ => stOk (ins σ 20)) fun σ => stE (ins σ 20)
def jSize (i : Ins) : Int := bif i.short then 1 else 4
def jOp (i : Ins) : List Int :=
  bif i.short then (bif i.op == 23 then [235] else [112 + i.cond])
  else bif i.op == 22 then [232] else bif i.op == 23 then [233] else [15, 128 + i.cond]
def jHole (i : Ins) : List Hol :=
  bif anon i.to then [] else [⟨0, jSize i, bif i.short then 0 else bif i.to.mod == 1 then 4 else 2, i.to.name, bif i.short then -1 else -4⟩]
def jE (i : Ins) : Enc :=
  bif !isT i.to then rmE i.to (bif i.op == 22 then 2 else 4) false [255]
  else { op := jOp i, number := leL i.to.n (jSize i).toNat, holes := jHole i }
def jOk (i : Ins) : Prop := 0 ≤ i.cond ∧ i.cond ≤ 15 ∧ (isT i.to = false → (i.op = 22 ∨ i.op = 23) ∧ rmOk i.to)
def cJ : Con := cW (fun σ => jOk (ins σ 20)) fun σ => jE (ins σ 20)
def otE (i : Ins) : Enc :=
  bif i.op == 2 then regE i.to.r i.src i.size false [141]
  else bif i.op == 12 then regE i.to.r i.src i.size false [15, 175]
  else bif i.op == 28 then regE i.to.r i.src i.size false [15, 64 + i.cond]
  else bif i.op == 29 then regE i.to.r i.src i.size (lowF i.src 1) [15, 182]
  else bif i.op == 30 then regE i.to.r i.src i.size (lowF i.src 1) [15, 190]
  else bif i.op == 14 then groupE i.to i.size 246 247 2 []
  else bif i.op == 13 then groupE i.to i.size 246 247 3 []
  else bif i.op == 15 then groupE i.to i.size 254 255 0 []
  else bif i.op == 16 then groupE i.to i.size 254 255 1 []
  else bif i.op == 27 then rmE i.to 0 (lowF i.to 1) [15, 144 + i.cond]
  else bif i.op == 25 then { op := [195] }
  else bif i.op == 26 then { op := [201] }
  else bif i.op == 33 then { op := [144] }
  else bif i.op == 32 then { op := [72, 153] }
  else bif i.op == 34 then { op := [15, 11] }
  else bif i.op == 35 then { op := [15, 5] } else {}
def otOk (i : Ins) : Prop := 0 ≤ i.cond ∧ i.cond ≤ 15 ∧
  ((i.op = 2 ∨ i.op = 12 ∨ i.op = 28 ∨ i.op = 29 ∨ i.op = 30) → 0 ≤ i.to.r ∧ i.to.r ≤ 15 ∧ rmOk i.src) ∧ ((i.op = 14 ∨ i.op = 13 ∨ i.op = 15 ∨ i.op = 16 ∨ i.op = 27) → rmOk i.to)
def cOt : Con := cW (fun σ => otOk (ins σ 20)) fun σ => otE (ins σ 20)
noncomputable def Lst : Lib := { Lsh with cs := (14, cSt) :: Lsh.cs }
noncomputable def Lj : Lib := { Lst with cs := (15, cJ) :: Lst.cs }
noncomputable def Lot : Lib := { Lj with cs := (11, cOt) :: Lj.cs }
end Go.Proofs.YthmighgfefjcmaaGreat.Enc
end

section
/- Written by vc.py: what is to be shown, read out. No condition. -/
set_option maxRecDepth 1000000
set_option maxHeartbeats 0
namespace Go.Proofs.YthmighgfefjcmaaGreat.Enc
open Go.RowKit Go.Proofs.YthmighgfefjcmaaGreat.X
theorem st_goal (σ : Dt) (α : At') : (cSt.goal Tryz.prog Lsh.mk' 3000 Tryz.f14 σ α) = (
let x0 := σ.I 20 == (20 : Int);
let x1 := σ.I 33 == (1 : Int);
let x3 := decide (σ.I 34 ≥ (8 : Int));
let x4 := 0 = 0 ∧ [] = rowsB (stE (ins σ 20)).pre;
let x5 := [[Value.int IntKind.u8 (IntKind.u8.wrap ((80 : Int) + IntKind.u8.wrap ((σ.I 34).tmod (8 : Int))))]];
let x6 := 0 = 0 ∧ [] = rowsB (stE (ins σ 20)).tail;
let x7 := 0 = 0 ∧ [] = rowsB (stE (ins σ 20)).number;
let x8 := 0 = 0 ∧ [] = rowsH (stE (ins σ 20)).holes;
let x9 := σ.I 20 == (21 : Int);
let x10 := x9 = true;
let x11 := σ.I 23 == (1 : Int);
let x12 := decide (σ.I 24 ≥ (8 : Int));
let x13 := [[Value.int IntKind.u8 (IntKind.u8.wrap ((88 : Int) + IntKind.u8.wrap ((σ.I 24).tmod (8 : Int))))]];
let x14 := { kind := σ.I 23, r := σ.I 24, base := σ.I 25, index := σ.I 26, scale := σ.I 27, rip := σ.B 28, fs := σ.B 29, n := σ.I 30, name := σ.S 31, mod := σ.I 32 : Opd };
let x15 := (0 : Int) ≤ (0 : Int) ∧ (0 : Int) ≤ (15 : Int);
let x16 := (((((((((((((((((((((((True ∧ σ.I 20 = σ.I 20) ∧ σ.I 21 = σ.I 21) ∧ σ.I 22 = σ.I 22) ∧ σ.I 23 = σ.I 23) ∧ σ.I 24 = σ.I 24) ∧ σ.I 25 = σ.I 25) ∧ σ.I 26 = σ.I 26) ∧ σ.I 27 = σ.I 27) ∧ σ.B 28 = σ.B 28) ∧ σ.B 29 = σ.B 29) ∧ σ.I 30 = σ.I 30) ∧ σ.S 31 = σ.S 31) ∧ σ.I 32 = σ.I 32) ∧ σ.I 33 = σ.I
    33) ∧ σ.I 34 = σ.I 34) ∧ σ.I 35 = σ.I 35) ∧ σ.I 36 = σ.I 36) ∧ σ.I 37 = σ.I 37) ∧ σ.B 38 = σ.B 38) ∧ σ.B 39 = σ.B 39) ∧ σ.I 40 = σ.I 40) ∧ σ.S 41 = σ.S 41) ∧ σ.I 42 = σ.I 42) ∧ σ.B 43 = σ.B 43;
let x17 := rowsB (rmPre x14);
let x18 := x17.length;
let x19 := [[Value.int IntKind.u8 (143 : Int)]];
let x20 := rowsB (rmTail (0 : Int) x14);
let x21 := x20.length;
let x22 := rowsH (rmHoles (0 : Int) x14);
let x23 := x22.length;
let x24 := x9 = false;
let x25 := σ.I 33 == (3 : Int);
let x26 := { kind := σ.I 33, r := σ.I 34, base := σ.I 35, index := σ.I 36, scale := σ.I 37, rip := σ.B 38, fs := σ.B 39, n := σ.I 40, name := σ.S 41, mod := σ.I 42 : Opd };
let x27 := rowsB (rmPre x26);
let x28 := x27.length;
let x29 := [[Value.int IntKind.u8 (255 : Int)]];
let x30 := rowsB (rmTail (6 : Int) x26);
let x31 := x30.length;
let x32 := rowsH (rmHoles (6 : Int) x26);
let x33 := x32.length;
let x35 := bif decide (σ.I 40 ≥ (-128 : Int)) then decide (σ.I 40 ≤ (127 : Int)) else false;
let x36 := ((x16 ∧ x4) ∧ (0 : Int) = (stE (ins σ 20)).rex) ∧ false = (stE (ins σ 20)).force;
let x37 := [[Value.int IntKind.u8 (106 : Int)]];
let x38 := (rowsB (leL (σ.I 40) 1)).length;
let x39 := [[Value.int IntKind.u8 (104 : Int)]];
let x40 := (rowsB (leL (σ.I 40) 4)).length;
let x41 := (x10 → ((True ∧ 1 = 1) ∧ (0 : Int) ≤ (0 : Int) ∧ (0 : Int) ≤ (7 : Int) ∧ rmOk x14 ∧ x15) ∧ True ∧ Ex.ret = Ex.ret ∧ true = true ∧ (((((((x16 ∧ x18 = x18 ∧ x17 = rowsB (stE (ins σ 20)).pre) ∧ rexOr (0 : Int) (rmRex x14) = (stE (ins σ 20)).rex) ∧ false = (stE (ins σ 20)).force) ∧ 1 =
    x19.length ∧ x19 = rowsB (stE (ins σ 20)).op) ∧ x21 = x21 ∧ x20 = rowsB (stE (ins σ 20)).tail) ∧ x7) ∧ x23 = x23 ∧ x22 = rowsH (stE (ins σ 20)).holes) ∧ (!(rmHoles (0 : Int) x14).isEmpty) = (stE (ins σ 20)).inTail) ∧ (x24 → (x25 = true → ((True ∧ 1 = 1) ∧ (0 : Int) ≤ (6 : Int) ∧ (6 : Int) ≤ (7 :
    Int) ∧ rmOk x26 ∧ x15) ∧ True ∧ Ex.ret = Ex.ret ∧ true = true ∧ (((((((x16 ∧ x28 = x28 ∧ x27 = rowsB (stE (ins σ 20)).pre) ∧ rexOr (0 : Int) (rmRex x26) = (stE (ins σ 20)).rex) ∧ false = (stE (ins σ 20)).force) ∧ 1 = x29.length ∧ x29 = rowsB (stE (ins σ 20)).op) ∧ x31 = x31 ∧ x30 = rowsB (stE
    (ins σ 20)).tail) ∧ x7) ∧ x33 = x33 ∧ x32 = rowsH (stE (ins σ 20)).holes) ∧ (!(rmHoles (6 : Int) x26).isEmpty) = (stE (ins σ 20)).inTail) ∧ (x25 = false → (True ∧ (0 : Int) ≤ (4 : Int) ∧ (4 : Int) ≤ (8 : Int)) ∧ (x35 = true → (True ∧ (0 : Int) ≤ (1 : Int) ∧ (1 : Int) ≤ (8 : Int)) ∧ True ∧ Ex.ret
    = Ex.ret ∧ true = true ∧ ((((x36 ∧ 1 = x37.length ∧ x37 = rowsB (stE (ins σ 20)).op) ∧ x6) ∧ x38 = x38 ∧ rowsB (leL (σ.I 40) 1) = rowsB (stE (ins σ 20)).number) ∧ x8) ∧ false = (stE (ins σ 20)).inTail) ∧ (x35 = false → True ∧ Ex.ret = Ex.ret ∧ true = true ∧ ((((x36 ∧ 1 = x39.length ∧ x39 = rowsB
    (stE (ins σ 20)).op) ∧ x6) ∧ x40 = x40 ∧ rowsB (leL (σ.I 40) 4) = rowsB (stE (ins σ 20)).number) ∧ x8) ∧ false = (stE (ins σ 20)).inTail)));
let x42 := (x10 → (x11 = true → True ∧ Ex.ret = Ex.ret ∧ true = true ∧ (((((((((((((((((((((((((((((((True ∧ (bif x12 then σ.I 20 else σ.I 20) = σ.I 20) ∧ (bif x12 then σ.I 21 else σ.I 21) = σ.I 21) ∧ (bif x12 then σ.I 22 else σ.I 22) = σ.I 22) ∧ (bif x12 then σ.I 23 else σ.I 23) = σ.I 23) ∧ (bif
    x12 then σ.I 24 else σ.I 24) = σ.I 24) ∧ (bif x12 then σ.I 25 else σ.I 25) = σ.I 25) ∧ (bif x12 then σ.I 26 else σ.I 26) = σ.I 26) ∧ (bif x12 then σ.I 27 else σ.I 27) = σ.I 27) ∧ (bif x12 then σ.B 28 else σ.B 28) = σ.B 28) ∧ (bif x12 then σ.B 29 else σ.B 29) = σ.B 29) ∧ (bif x12 then σ.I 30 else
    σ.I 30) = σ.I 30) ∧ (bif x12 then σ.S 31 else σ.S 31) = σ.S 31) ∧ (bif x12 then σ.I 32 else σ.I 32) = σ.I 32) ∧ (bif x12 then σ.I 33 else σ.I 33) = σ.I 33) ∧ (bif x12 then σ.I 34 else σ.I 34) = σ.I 34) ∧ (bif x12 then σ.I 35 else σ.I 35) = σ.I 35) ∧ (bif x12 then σ.I 36 else σ.I 36) = σ.I 36) ∧
    (bif x12 then σ.I 37 else σ.I 37) = σ.I 37) ∧ (bif x12 then σ.B 38 else σ.B 38) = σ.B 38) ∧ (bif x12 then σ.B 39 else σ.B 39) = σ.B 39) ∧ (bif x12 then σ.I 40 else σ.I 40) = σ.I 40) ∧ (bif x12 then σ.S 41 else σ.S 41) = σ.S 41) ∧ (bif x12 then σ.I 42 else σ.I 42) = σ.I 42) ∧ (bif x12 then σ.B 43
    else σ.B 43) = σ.B 43) ∧ x4) ∧ (bif x12 then (1 : Int) else (0 : Int)) = (stE (ins σ 20)).rex) ∧ false = (stE (ins σ 20)).force) ∧ 1 = x13.length ∧ x13 = rowsB (stE (ins σ 20)).op) ∧ x6) ∧ x7) ∧ x8) ∧ false = (stE (ins σ 20)).inTail) ∧ (x11 = false → x41)) ∧ (x24 → x41);
(x0 = true → (x1 = true → True ∧ Ex.ret = Ex.ret ∧ true = true ∧ (((((((((((((((((((((((((((((((True ∧ (bif x3 then σ.I 20 else σ.I 20) = σ.I 20) ∧ (bif x3 then σ.I 21 else σ.I 21) = σ.I 21) ∧ (bif x3 then σ.I 22 else σ.I 22) = σ.I 22) ∧ (bif x3 then σ.I 23 else σ.I 23) = σ.I 23) ∧ (bif x3 then σ.I
    24 else σ.I 24) = σ.I 24) ∧ (bif x3 then σ.I 25 else σ.I 25) = σ.I 25) ∧ (bif x3 then σ.I 26 else σ.I 26) = σ.I 26) ∧ (bif x3 then σ.I 27 else σ.I 27) = σ.I 27) ∧ (bif x3 then σ.B 28 else σ.B 28) = σ.B 28) ∧ (bif x3 then σ.B 29 else σ.B 29) = σ.B 29) ∧ (bif x3 then σ.I 30 else σ.I 30) = σ.I 30)
    ∧ (bif x3 then σ.S 31 else σ.S 31) = σ.S 31) ∧ (bif x3 then σ.I 32 else σ.I 32) = σ.I 32) ∧ (bif x3 then σ.I 33 else σ.I 33) = σ.I 33) ∧ (bif x3 then σ.I 34 else σ.I 34) = σ.I 34) ∧ (bif x3 then σ.I 35 else σ.I 35) = σ.I 35) ∧ (bif x3 then σ.I 36 else σ.I 36) = σ.I 36) ∧ (bif x3 then σ.I 37 else
    σ.I 37) = σ.I 37) ∧ (bif x3 then σ.B 38 else σ.B 38) = σ.B 38) ∧ (bif x3 then σ.B 39 else σ.B 39) = σ.B 39) ∧ (bif x3 then σ.I 40 else σ.I 40) = σ.I 40) ∧ (bif x3 then σ.S 41 else σ.S 41) = σ.S 41) ∧ (bif x3 then σ.I 42 else σ.I 42) = σ.I 42) ∧ (bif x3 then σ.B 43 else σ.B 43) = σ.B 43) ∧ x4) ∧
    (bif x3 then (1 : Int) else (0 : Int)) = (stE (ins σ 20)).rex) ∧ false = (stE (ins σ 20)).force) ∧ 1 = x5.length ∧ x5 = rowsB (stE (ins σ 20)).op) ∧ x6) ∧ x7) ∧ x8) ∧ false = (stE (ins σ 20)).inTail) ∧ (x1 = false → x42)) ∧ (x0 = false → x42)) := by kernel_rfl

end Go.Proofs.YthmighgfefjcmaaGreat.Enc
end

section
/- Push and Pop: shown. No condition. -/
set_option maxRecDepth 100000
namespace Go.Proofs.YthmighgfefjcmaaGreat.Enc
open Go.RowKit Go.Proofs.YthmighgfefjcmaaGreat.X Go.IntWalk

theorem plus_byte (k r : Int) (h0 : 0 ≤ r) (hk : 0 ≤ k ∧ k ≤ 200) : [[Value.int .u8 (IntKind.u8.wrap (k + IntKind.u8.wrap (r.tmod 8)))]] = rowsB [k + r.tmod 8] := by
  rw [tmod8 _ h0, u8_in (r % 8) (by omega), u8_in _ (by omega)]; rfl
set_option maxHeartbeats 4000000 in
theorem good_st (hg : Lib.Good Tryz.prog Lsh) : Lib.Good Tryz.prog Lst := lib_con hg Tryz.func14 cSt 3000 fun σ α hp => by
  have hok : (σ.I 20 = 20 ∧ (isR (opd σ 33) = true ∨ isM (opd σ 33) = true → rmOk (opd σ 33))) ∨ (σ.I 20 = 21 ∧ rmOk (opd σ 23)) := hp
  clear hp
  have rr : ∀ o : Opd, isR o = true → rmOk o → 0 ≤ o.r ∧ o.r ≤ 15 := fun o h h2 => by
    rcases h2 with h2 | h2
    · exact h2.2
    · rw [h] at h2; cases h2.1
  rw [st_goal]
  intro x0 x1 x3 x4 x5 x6 x7 x8 x9 x10 x11 x12 x13 x14 x15 x16 x17 x18 x19 x20 x21 x22 x23 x24 x25 x26 x27 x28 x29 x30 x31 x32 x33 x35 x36 x37 x38 x39 x40 x41 x42 
  have A : (bif σ.I 20 == 20 then isR (opd σ 33) else false) = false → (bif σ.I 20 == 21 then isR (opd σ 23) else false) = false → x41 := fun hA hB => by
    have e0 : stE (ins σ 20) = bif σ.I 20 == 21 then rmE (opd σ 23) 0 false [143] else bif isM (opd σ 33) then rmE (opd σ 33) 6 false [255] else bif byteN (σ.I 40) then { op := [106], number := leL (σ.I 40) 1 } else { op := [104], number := leL (σ.I 40) 4 } := by
      show (bif (bif σ.I 20 == 20 then isR (opd σ 33) else false) then _ else bif (bif σ.I 20 == 21 then isR (opd σ 23) else false) then _ else _) = _
      rw [hA, hB]; rfl
    refine ⟨fun h => ?_, fun h => ⟨fun h2 => ?_, fun h2 => ⟨⟨trivial, by decide, by decide⟩, fun h3 => ?_, fun h3 => ?_⟩⟩⟩
    · have h' : (σ.I 20 == 21) = true := h
      have e := e0
      rw [h', cond_true] at e
      have q : rmOk x14 := by
        have h'' := eq_of_beq h'
        rcases hok with h4 | h4
        · omega
        · exact h4.2
      and_intros
      all_goals first | assumption | exact True.intro | exact Eq.refl _ | exact bsame _ _ | (rw [e]; first | done | rfl) | (show _ = (stE (ins σ 20)).inTail; rw [e]; first | done | rfl) | decide
    · have h' : (σ.I 20 == 21) = false := h
      have h2' : isM (opd σ 33) = true := h2
      have e := e0
      rw [h', cond_false, h2', cond_true] at e
      have q : rmOk x26 := by
        rcases hok with h4 | h4
        · exact h4.2 (.inr h2')
        · rw [h4.1] at h'; cases h'
      and_intros
      all_goals first | assumption | exact True.intro | exact Eq.refl _ | exact bsame _ _ | (rw [e]; first | done | rfl) | (show _ = (stE (ins σ 20)).inTail; rw [e]; first | done | rfl) | decide
    · have h' : (σ.I 20 == 21) = false := h
      have h2' : isM (opd σ 33) = false := h2
      have h3' : byteN (σ.I 40) = true := h3
      have e := e0
      rw [h', cond_false, h2', cond_false, h3', cond_true] at e
      and_intros
      all_goals first | assumption | exact True.intro | exact Eq.refl _ | exact bsame _ _ | (rw [e]; first | done | rfl) | (show _ = (stE (ins σ 20)).inTail; rw [e]; first | done | rfl) | decide
    · have h' : (σ.I 20 == 21) = false := h
      have h2' : isM (opd σ 33) = false := h2
      have h3' : byteN (σ.I 40) = false := h3
      have e := e0
      rw [h', cond_false, h2', cond_false, h3', cond_false] at e
      and_intros
      all_goals first | assumption | exact True.intro | exact Eq.refl _ | exact bsame _ _ | (rw [e]; first | done | rfl) | (show _ = (stE (ins σ 20)).inTail; rw [e]; first | done | rfl) | decide
  have B : (bif σ.I 20 == 20 then isR (opd σ 33) else false) = false → x42 := fun hA => by
    refine ⟨fun h => ⟨fun h2 => ?_, fun h2 => A hA ?_⟩, fun h => A hA ?_⟩
    · have h' : (σ.I 20 == 21) = true := h
      have h2' : isR (opd σ 23) = true := h2
      have e : stE (ins σ 20) = plusE (σ.I 24) 88 := by
        show (bif (bif σ.I 20 == 20 then isR (opd σ 33) else false) then _ else bif (bif σ.I 20 == 21 then isR (opd σ 23) else false) then _ else _) = _
        rw [hA, h', h2']; rfl
      have q : rmOk (opd σ 23) := by
        have h'' := eq_of_beq h'
        rcases hok with h4 | h4
        · omega
        · exact h4.2
      have wb : x13 = rowsB [88 + (σ.I 24).tmod 8] := plus_byte _ _ (rr _ h2' q).1 (by decide)
      and_intros
      all_goals first | assumption | exact True.intro | exact Eq.refl _ | exact bsame _ _ | (rw [e]; first | done | rfl) | (show _ = (stE (ins σ 20)).inTail; rw [e]; first | done | rfl) | (rw [e]; exact wb) | decide
    · rw [show (σ.I 20 == 21) = true from h, show isR (opd σ 23) = false from h2]; rfl
    · rw [show (σ.I 20 == 21) = false from h]; rfl
  refine ⟨fun h => ⟨fun h2 => ?_, fun h2 => B ?_⟩, fun h => B ?_⟩
  · have h' : (σ.I 20 == 20) = true := h
    have h2' : isR (opd σ 33) = true := h2
    have e : stE (ins σ 20) = plusE (σ.I 34) 80 := by
      show (bif (bif σ.I 20 == 20 then isR (opd σ 33) else false) then _ else _) = _
      rw [h', h2']; rfl
    have q : rmOk (opd σ 33) := by
      have h'' := eq_of_beq h'
      rcases hok with h4 | h4
      · exact h4.2 (.inl h2')
      · omega
    have wb : x5 = rowsB [80 + (σ.I 34).tmod 8] := plus_byte _ _ (rr _ h2' q).1 (by decide)
    and_intros
    all_goals first | assumption | exact True.intro | exact Eq.refl _ | exact bsame _ _ | (rw [e]; first | done | rfl) | (show _ = (stE (ins σ 20)).inTail; rw [e]; first | done | rfl) | (rw [e]; exact wb) | decide
  · rw [show (σ.I 20 == 20) = true from h, show isR (opd σ 33) = false from h2]; rfl
  · rw [show (σ.I 20 == 20) = false from h]; rfl
end Go.Proofs.YthmighgfefjcmaaGreat.Enc
end

section
/- Written by vc.py: what is to be shown, read out. No condition. -/
set_option maxRecDepth 1000000
set_option maxHeartbeats 0
namespace Go.Proofs.YthmighgfefjcmaaGreat.Enc
open Go.RowKit Go.Proofs.YthmighgfefjcmaaGreat.X
theorem sh_goal (σ : Dt) (α : At') : (cSh.goal Tryz.prog Lsum.mk' 2000 Tryz.f13 σ α) = (
let x0 := IntKind.i64.wrap (σ.I 20 - (17 : Int));
let x1 := σ.I 33 == (2 : Int);
let x2 := [(4 : Int), (5 : Int), (7 : Int)].getD x0.toNat (0 : Int);
let x3 := { kind := σ.I 23, r := σ.I 24, base := σ.I 25, index := σ.I 26, scale := σ.I 27, rip := σ.B 28, fs := σ.B 29, n := σ.I 30, name := σ.S 31, mod := σ.I 32 : Opd };
let x4 := True ∧ (0 : Int) ≤ x2 ∧ x2 ≤ (7 : Int) ∧ rmOk x3;
let x5 := rowsB (rmPre x3);
let x6 := x5.length;
let x7 := ((((((((((((((((((((((((((True ∧ σ.I 20 = σ.I 20) ∧ σ.I 21 = σ.I 21) ∧ σ.I 22 = σ.I 22) ∧ σ.I 23 = σ.I 23) ∧ σ.I 24 = σ.I 24) ∧ σ.I 25 = σ.I 25) ∧ σ.I 26 = σ.I 26) ∧ σ.I 27 = σ.I 27) ∧ σ.B 28 = σ.B 28) ∧ σ.B 29 = σ.B 29) ∧ σ.I 30 = σ.I 30) ∧ σ.S 31 = σ.S 31) ∧ σ.I 32 = σ.I 32) ∧ σ.I 33 =
    σ.I 33) ∧ σ.I 34 = σ.I 34) ∧ σ.I 35 = σ.I 35) ∧ σ.I 36 = σ.I 36) ∧ σ.I 37 = σ.I 37) ∧ σ.B 38 = σ.B 38) ∧ σ.B 39 = σ.B 39) ∧ σ.I 40 = σ.I 40) ∧ σ.S 41 = σ.S 41) ∧ σ.I 42 = σ.I 42) ∧ σ.B 43 = σ.B 43) ∧ x6 = x6 ∧ x5 = rowsB (shE (ins σ 20)).pre) ∧ rexOr (rexW (σ.I 21)) (rmRex x3) = (shE (ins σ
    20)).rex) ∧ lowF x3 (σ.I 21) = (shE (ins σ 20)).force;
let x8 := rowsB [szOp (σ.I 21) (192 : Int) (193 : Int)];
let x9 := x8.length;
let x10 := rowsB (rmTail x2 x3);
let x11 := x10.length;
let x12 := x11 = x11 ∧ x10 = rowsB (shE (ins σ 20)).tail;
let x13 := (rowsB (leL (σ.I 40) 1)).length;
let x14 := rowsH (rmHoles x2 x3);
let x15 := x14.length;
let x16 := x15 = x15 ∧ x14 = rowsH (shE (ins σ 20)).holes;
let x17 := (!(rmHoles x2 x3).isEmpty) = (shE (ins σ 20)).inTail;
let x18 := rowsB [szOp (σ.I 21) (210 : Int) (211 : Int)];
let x19 := x18.length;
((0 : Int) ≤ x0 ∧ x0 < (3 : Int)) ∧ (x1 = true → x4 ∧ (True ∧ (0 : Int) ≤ (1 : Int) ∧ (1 : Int) ≤ (8 : Int)) ∧ True ∧ Ex.ret = Ex.ret ∧ true = true ∧ ((((x7 ∧ x9 = x9 ∧ x8 = rowsB (shE (ins σ 20)).op) ∧ x12) ∧ x13 = x13 ∧ rowsB (leL (σ.I 40) 1) = rowsB (shE (ins σ 20)).number) ∧ x16) ∧ x17) ∧ (x1 =
    false → x4 ∧ True ∧ Ex.ret = Ex.ret ∧ true = true ∧ ((((x7 ∧ x19 = x19 ∧ x18 = rowsB (shE (ins σ 20)).op) ∧ x12) ∧ 0 = 0 ∧ [] = rowsB (shE (ins σ 20)).number) ∧ x16) ∧ x17)) := by kernel_rfl

end Go.Proofs.YthmighgfefjcmaaGreat.Enc
end

section
/- Shifts: shown. No condition. -/
set_option maxRecDepth 100000
namespace Go.Proofs.YthmighgfefjcmaaGreat.Enc
open Go.RowKit Go.Proofs.YthmighgfefjcmaaGreat.X Go.IntWalk

theorem shK_le (op : Int) (h : 17 ≤ op ∧ op ≤ 19) : 0 ≤ shK op ∧ shK op ≤ 7 := by
  have : op = 17 ∨ op = 18 ∨ op = 19 := by omega
  rcases this with rfl | rfl | rfl <;> decide
theorem good_sh (hg : Lib.Good Tryz.prog Lsum) : Lib.Good Tryz.prog Lsh := lib_con hg Tryz.func13 cSh 2000 fun σ α hp => by
  have h1 : 17 ≤ σ.I 20 := hp.1
  have h2 : σ.I 20 ≤ 19 := hp.2.1
  have hrm : rmOk (opd σ 23) := hp.2.2
  clear hp
  have hw : IntKind.i64.wrap (σ.I 20 - 17) = σ.I 20 - 17 := i64_in _ (by omega)
  obtain ⟨k0, k1⟩ := shK_le _ ⟨h1, h2⟩
  rw [sh_goal, hw]
  intro x0 x1 x2 x3 x4 x5 x6 x7 x8 x9 x10 x11 x12 x13 x14 x15 x16 x17 x18 x19 
  have q0 : 0 ≤ x0 := show 0 ≤ σ.I 20 - 17 by omega
  have q1 : x0 < 3 := show σ.I 20 - 17 < 3 by omega
  have p0 : 0 ≤ x2 := k0
  have p1 : x2 ≤ 7 := k1
  have pr : rmOk x3 := hrm
  refine ⟨⟨q0, q1⟩, fun h => ?_, fun h => ?_⟩
  · have e : shE (ins σ 20) = groupE (opd σ 23) (σ.I 21) 192 193 (shK (σ.I 20)) (leL (σ.I 40) 1) := by
      show (bif σ.I 33 == 2 then _ else _) = _
      rw [show (σ.I 33 == 2) = true from h]; rfl
    and_intros
    all_goals first | assumption | exact True.intro | exact Eq.refl _ | (rw [e]; rfl) | (show _ = (shE (ins σ 20)).inTail; rw [e]; rfl) | decide
  · have e : shE (ins σ 20) = groupE (opd σ 23) (σ.I 21) 210 211 (shK (σ.I 20)) [] := by
      show (bif σ.I 33 == 2 then _ else _) = _
      rw [show (σ.I 33 == 2) = false from h]; rfl
    and_intros
    all_goals first | assumption | exact True.intro | exact Eq.refl _ | (rw [e]; rfl) | (show _ = (shE (ins σ 20)).inTail; rw [e]; rfl) | decide
end Go.Proofs.YthmighgfefjcmaaGreat.Enc
end

section
/- Written by vc.py: what is to be shown, read out. No condition. -/
set_option maxRecDepth 1000000
set_option maxHeartbeats 0
namespace Go.Proofs.YthmighgfefjcmaaGreat.Enc
open Go.RowKit Go.Proofs.YthmighgfefjcmaaGreat.X
theorem j_goal (σ : Dt) (α : At') : (cJ.goal Tryz.prog Lst.mk' 3000 Tryz.f15 σ α) = (
let x0 := σ.I 23 != (4 : Int);
let x1 := σ.I 20 == (22 : Int);
let x2 := σ.I 20 == (23 : Int);
let x3 := bif x1 then (2 : Int) else bif x2 then (4 : Int) else (0 : Int);
let x4 := { kind := σ.I 23, r := σ.I 24, base := σ.I 25, index := σ.I 26, scale := σ.I 27, rip := σ.B 28, fs := σ.B 29, n := σ.I 30, name := σ.S 31, mod := σ.I 32 : Opd };
let x5 := (((((((((((((((((((((((True ∧ σ.I 20 = σ.I 20) ∧ σ.I 21 = σ.I 21) ∧ σ.I 22 = σ.I 22) ∧ σ.I 23 = σ.I 23) ∧ σ.I 24 = σ.I 24) ∧ σ.I 25 = σ.I 25) ∧ σ.I 26 = σ.I 26) ∧ σ.I 27 = σ.I 27) ∧ σ.B 28 = σ.B 28) ∧ σ.B 29 = σ.B 29) ∧ σ.I 30 = σ.I 30) ∧ σ.S 31 = σ.S 31) ∧ σ.I 32 = σ.I 32) ∧ σ.I 33 = σ.I
    33) ∧ σ.I 34 = σ.I 34) ∧ σ.I 35 = σ.I 35) ∧ σ.I 36 = σ.I 36) ∧ σ.I 37 = σ.I 37) ∧ σ.B 38 = σ.B 38) ∧ σ.B 39 = σ.B 39) ∧ σ.I 40 = σ.I 40) ∧ σ.S 41 = σ.S 41) ∧ σ.I 42 = σ.I 42) ∧ σ.B 43 = σ.B 43;
let x6 := rowsB (rmPre x4);
let x7 := x6.length;
let x8 := [[Value.int IntKind.u8 (255 : Int)]];
let x9 := rowsB (rmTail x3 x4);
let x10 := x9.length;
let x11 := rowsH (rmHoles x3 x4);
let x12 := x11.length;
let x13 := bif σ.B 43 then x2 else false;
let x14 := True ∧ (0 : Int) ≤ (1 : Int) ∧ (1 : Int) ≤ (8 : Int);
let x15 := (σ.S 31).toList == [];
let x16 := x15 = true;
let x17 := ((x5 ∧ 0 = 0 ∧ [] = rowsB (jE (ins σ 20)).pre) ∧ (0 : Int) = (jE (ins σ 20)).rex) ∧ false = (jE (ins σ 20)).force;
let x18 := [[Value.int IntKind.u8 (235 : Int)]];
let x19 := 0 = 0 ∧ [] = rowsB (jE (ins σ 20)).tail;
let x20 := (rowsB (leL (σ.I 30) 1)).length;
let x21 := x20 = x20 ∧ rowsB (leL (σ.I 30) 1) = rowsB (jE (ins σ 20)).number;
let x22 := ((x17 ∧ 1 = x18.length ∧ x18 = rowsB (jE (ins σ 20)).op) ∧ x19) ∧ x21;
let x23 := 0 = 0 ∧ [] = rowsH (jE (ins σ 20)).holes;
let x24 := x15 = false;
let x25 := σ.I 32 == (1 : Int);
let x26 := bif x25 then σ.S 31 else σ.S 31;
let x27 := [[Value.int IntKind.i64 (0 : Int), Value.int IntKind.i64 (1 : Int), Value.int IntKind.i64 (bif σ.B 43 then (0 : Int) else bif x25 then (4 : Int) else (2 : Int)), Value.string (bif σ.B 43 then x26 else x26), Value.int IntKind.i64 (bif σ.B 43 then (-1 : Int) else (-4 : Int))]];
let x28 := 1 = x27.length ∧ x27 = rowsH (jE (ins σ 20)).holes;
let x29 := [[Value.int IntKind.u8 (IntKind.u8.wrap (IntKind.i64.wrap ((112 : Int) + σ.I 22)))]];
let x30 := ((x17 ∧ 1 = x29.length ∧ x29 = rowsB (jE (ins σ 20)).op) ∧ x19) ∧ x21;
let x31 := True ∧ (0 : Int) ≤ (4 : Int) ∧ (4 : Int) ≤ (8 : Int);
let x32 := [[Value.int IntKind.u8 (232 : Int)]];
let x33 := (rowsB (leL (σ.I 30) 4)).length;
let x34 := x33 = x33 ∧ rowsB (leL (σ.I 30) 4) = rowsB (jE (ins σ 20)).number;
let x35 := ((x17 ∧ 1 = x32.length ∧ x32 = rowsB (jE (ins σ 20)).op) ∧ x19) ∧ x34;
let x36 := [[Value.int IntKind.i64 (0 : Int), Value.int IntKind.i64 (4 : Int), Value.int IntKind.i64 (bif σ.B 43 then (0 : Int) else bif x25 then (4 : Int) else (2 : Int)), Value.string (bif σ.B 43 then x26 else x26), Value.int IntKind.i64 (bif σ.B 43 then (-1 : Int) else (-4 : Int))]];
let x37 := 1 = x36.length ∧ x36 = rowsH (jE (ins σ 20)).holes;
let x38 := [[Value.int IntKind.u8 (233 : Int)]];
let x39 := ((x17 ∧ 1 = x38.length ∧ x38 = rowsB (jE (ins σ 20)).op) ∧ x19) ∧ x34;
let x40 := [[Value.int IntKind.u8 (15 : Int)], [Value.int IntKind.u8 (IntKind.u8.wrap (IntKind.i64.wrap ((128 : Int) + σ.I 22)))]];
let x41 := ((x17 ∧ 2 = x40.length ∧ x40 = rowsB (jE (ins σ 20)).op) ∧ x19) ∧ x34;
(x0 = true → ((True ∧ 1 = 1) ∧ (0 : Int) ≤ x3 ∧ x3 ≤ (7 : Int) ∧ rmOk x4 ∧ (0 : Int) ≤ (0 : Int) ∧ (0 : Int) ≤ (15 : Int)) ∧ True ∧ Ex.ret = Ex.ret ∧ true = true ∧ (((((((x5 ∧ x7 = x7 ∧ x6 = rowsB (jE (ins σ 20)).pre) ∧ rexOr (0 : Int) (rmRex x4) = (jE (ins σ 20)).rex) ∧ false = (jE (ins σ
    20)).force) ∧ 1 = x8.length ∧ x8 = rowsB (jE (ins σ 20)).op) ∧ x10 = x10 ∧ x9 = rowsB (jE (ins σ 20)).tail) ∧ 0 = 0 ∧ [] = rowsB (jE (ins σ 20)).number) ∧ x12 = x12 ∧ x11 = rowsH (jE (ins σ 20)).holes) ∧ (!(rmHoles x3 x4).isEmpty) = (jE (ins σ 20)).inTail) ∧ (x0 = false → (x13 = true → x14 ∧
    (x16 → True ∧ Ex.ret = Ex.ret ∧ true = true ∧ (x22 ∧ x23) ∧ false = (jE (ins σ 20)).inTail) ∧ (x24 → True ∧ Ex.ret = Ex.ret ∧ true = true ∧ (x22 ∧ x28) ∧ false = (jE (ins σ 20)).inTail)) ∧ (x13 = false → (σ.B 43 = true → x14 ∧ (x16 → True ∧ Ex.ret = Ex.ret ∧ true = true ∧ (x30 ∧ x23) ∧ false =
    (jE (ins σ 20)).inTail) ∧ (x24 → True ∧ Ex.ret = Ex.ret ∧ true = true ∧ (x30 ∧ x28) ∧ false = (jE (ins σ 20)).inTail)) ∧ (σ.B 43 = false → (x1 = true → x31 ∧ (x16 → True ∧ Ex.ret = Ex.ret ∧ true = true ∧ (x35 ∧ x23) ∧ false = (jE (ins σ 20)).inTail) ∧ (x24 → True ∧ Ex.ret = Ex.ret ∧ true = true
    ∧ (x35 ∧ x37) ∧ false = (jE (ins σ 20)).inTail)) ∧ (x1 = false → (x2 = true → x31 ∧ (x16 → True ∧ Ex.ret = Ex.ret ∧ true = true ∧ (x39 ∧ x23) ∧ false = (jE (ins σ 20)).inTail) ∧ (x24 → True ∧ Ex.ret = Ex.ret ∧ true = true ∧ (x39 ∧ x37) ∧ false = (jE (ins σ 20)).inTail)) ∧ (x2 = false → x31 ∧
    (x16 → True ∧ Ex.ret = Ex.ret ∧ true = true ∧ (x41 ∧ x23) ∧ false = (jE (ins σ 20)).inTail) ∧ (x24 → True ∧ Ex.ret = Ex.ret ∧ true = true ∧ (x41 ∧ x37) ∧ false = (jE (ins σ 20)).inTail))))))) := by kernel_rfl

end Go.Proofs.YthmighgfefjcmaaGreat.Enc
end

section
/- Jumps: shown. No condition. -/
set_option maxRecDepth 100000
namespace Go.Proofs.YthmighgfefjcmaaGreat.Enc
open Go.RowKit Go.Proofs.YthmighgfefjcmaaGreat.X Go.IntWalk

theorem jE_T (i : Ins) (h : isT i.to = true) : jE i = { op := jOp i, number := leL i.to.n (jSize i).toNat, holes := jHole i } := by unfold jE; rw [h]; rfl
theorem jE_R (i : Ins) (h : isT i.to = false) : jE i = rmE i.to (bif i.op == 22 then 2 else 4) false [255] := by unfold jE; rw [h]; rfl
set_option maxHeartbeats 4000000 in
theorem good_j (hg : Lib.Good Tryz.prog Lst) : Lib.Good Tryz.prog Lj := lib_con hg Tryz.func15 cJ 3000 fun σ α hp => by
  have c0 : 0 ≤ σ.I 22 := hp.1
  have c1 : σ.I 22 ≤ 15 := hp.2.1
  have hr : isT (opd σ 23) = false → (σ.I 20 = 22 ∨ σ.I 20 = 23) ∧ rmOk (opd σ 23) := hp.2.2
  clear hp
  have w70 : IntKind.u8.wrap (IntKind.i64.wrap (112 + σ.I 22)) = 112 + σ.I 22 := by rw [i64_in _ (by omega), u8_in _ (by omega)]
  have w80 : IntKind.u8.wrap (IntKind.i64.wrap (128 + σ.I 22)) = 128 + σ.I 22 := by rw [i64_in _ (by omega), u8_in _ (by omega)]
  rw [j_goal]
  intro x0 x1 x2 x3 x4 x5 x6 x7 x8 x9 x10 x11 x12 x13 x14 x15 x16 x17 x18 x19 x20 x21 x22 x23 x24 x25 x26 x27 x28 x29 x30 x31 x32 x33 x34 x35 x36 x37 x38 x39 x40 x41 
  have n27 : x27 = rowsH [⟨0, 1, bif σ.B 43 then 0 else bif σ.I 32 == 1 then 4 else 2, σ.S 31, bif σ.B 43 then -1 else -4⟩] := by
    show [[_, _, _, Value.string (bif σ.B 43 then (bif x25 then σ.S 31 else σ.S 31) else (bif x25 then σ.S 31 else σ.S 31)), _]] = _
    rw [bsame, bsame]; rfl
  have n36 : x36 = rowsH [⟨0, 4, bif σ.B 43 then 0 else bif σ.I 32 == 1 then 4 else 2, σ.S 31, bif σ.B 43 then -1 else -4⟩] := by
    show [[_, _, _, Value.string (bif σ.B 43 then (bif x25 then σ.S 31 else σ.S 31) else (bif x25 then σ.S 31 else σ.S 31)), _]] = _
    rw [bsame, bsame]; rfl
  refine ⟨fun h => ?_, fun h => ?_⟩
  · have hT : isT (opd σ 23) = false := by
      have h : (!(σ.I 23 == 4)) = true := h
      show (σ.I 23 == 4) = false
      cases hh : σ.I 23 == 4 <;> rw [hh] at h <;> first | rfl | cases h
    obtain ⟨ho, hm⟩ := hr hT
    have h3 : x3 = bif σ.I 20 == 22 then 2 else 4 := by
      show (bif σ.I 20 == 22 then 2 else bif σ.I 20 == 23 then 4 else 0) = _
      rcases ho with ho | ho <;> rw [ho] <;> rfl
    have e : jE (ins σ 20) = rmE (opd σ 23) x3 false [255] := by rw [h3]; exact jE_R _ hT
    have q0 : 0 ≤ x3 := by rw [h3]; cases σ.I 20 == 22 <;> decide
    have q1 : x3 ≤ 7 := by rw [h3]; cases σ.I 20 == 22 <;> decide
    have q2 : rmOk x4 := hm
    and_intros
    all_goals first | assumption | exact True.intro | exact Eq.refl _ | exact w70 | exact w80 | (rw [e]; first | done | rfl) | (show _ = (jE (ins σ 20)).inTail; rw [e]; first | done | rfl) | (rw [e]; exact congrArg (fun q => [[Value.int .u8 q]]) w70) | (rw [e]; exact congrArg (fun q => [[Value.int .u8 15], [Value.int .u8 q]]) w80) | (rw [e]; exact n27) | (rw [e]; exact n36) | decide
  have hT : isT (opd σ 23) = true := by
    have h : (!(σ.I 23 == 4)) = false := h
    show (σ.I 23 == 4) = true
    cases hh : σ.I 23 == 4 <;> rw [hh] at h <;> first | rfl | cases h
  have eT := jE_T (ins σ 20) hT
  refine ⟨fun h1 => ?_, fun h1 => ⟨fun hs => ?_, fun hs => ⟨fun h2 => ?_, fun h2 => ⟨fun h3 => ?_, fun h3 => ?_⟩⟩⟩⟩
  · have hb : σ.B 43 = true ∧ (σ.I 20 == 23) = true := by
      have h1 : (bif σ.B 43 then σ.I 20 == 23 else false) = true := h1
      cases hh : σ.B 43 <;> rw [hh] at h1
      · cases h1
      · exact ⟨rfl, h1⟩
    obtain ⟨k1, k2⟩ := hb
    refine ⟨by and_intros <;> first | exact True.intro | decide, fun ha => ?_, fun ha => ?_⟩
    · have a : anon (opd σ 23) = true := ha
      have e : jE (ins σ 20) = { op := [235], number := leL (σ.I 30) 1, holes := [] } := by
        have o : jOp (ins σ 20) = [235] := by show (bif σ.B 43 then (bif σ.I 20 == 23 then [235] else [112 + σ.I 22]) else bif σ.I 20 == 22 then [232] else bif σ.I 20 == 23 then [233] else [15, 128 + σ.I 22]) = _; rw [k1, k2]; rfl
        have n : jSize (ins σ 20) = 1 := by show (bif σ.B 43 then 1 else 4) = _; rw [k1]; rfl
        have hh : jHole (ins σ 20) = [] := by show (bif anon (opd σ 23) then [] else _) = _; rw [a, cond_true]
        rw [eT, o, n, hh]; rfl
      and_intros
      all_goals first | assumption | exact True.intro | exact Eq.refl _ | exact w70 | exact w80 | (rw [e]; first | done | rfl) | (show _ = (jE (ins σ 20)).inTail; rw [e]; first | done | rfl) | (rw [e]; exact congrArg (fun q => [[Value.int .u8 q]]) w70) | (rw [e]; exact congrArg (fun q => [[Value.int .u8 15], [Value.int .u8 q]]) w80) | (rw [e]; exact n27) | (rw [e]; exact n36) | decide
    · have a : anon (opd σ 23) = false := ha
      have e : jE (ins σ 20) = { op := [235], number := leL (σ.I 30) 1, holes := [⟨0, 1, bif σ.B 43 then 0 else bif σ.I 32 == 1 then 4 else 2, σ.S 31, bif σ.B 43 then -1 else -4⟩] } := by
        have o : jOp (ins σ 20) = [235] := by show (bif σ.B 43 then (bif σ.I 20 == 23 then [235] else [112 + σ.I 22]) else bif σ.I 20 == 22 then [232] else bif σ.I 20 == 23 then [233] else [15, 128 + σ.I 22]) = _; rw [k1, k2]; rfl
        have n : jSize (ins σ 20) = 1 := by show (bif σ.B 43 then 1 else 4) = _; rw [k1]; rfl
        have hh : jHole (ins σ 20) = [⟨0, 1, bif σ.B 43 then 0 else bif σ.I 32 == 1 then 4 else 2, σ.S 31, bif σ.B 43 then -1 else -4⟩] := by show (bif anon (opd σ 23) then [] else _) = _; rw [a, cond_false, n]; rfl
        rw [eT, o, n, hh]; rfl
      and_intros
      all_goals first | assumption | exact True.intro | exact Eq.refl _ | exact w70 | exact w80 | (rw [e]; first | done | rfl) | (show _ = (jE (ins σ 20)).inTail; rw [e]; first | done | rfl) | (rw [e]; exact congrArg (fun q => [[Value.int .u8 q]]) w70) | (rw [e]; exact congrArg (fun q => [[Value.int .u8 15], [Value.int .u8 q]]) w80) | (rw [e]; exact n27) | (rw [e]; exact n36) | decide
  · have k1 : σ.B 43 = true := hs
    have k2 : (σ.I 20 == 23) = false := by
      have h1 : (bif σ.B 43 then σ.I 20 == 23 else false) = false := h1
      rw [k1] at h1; exact h1
    refine ⟨by and_intros <;> first | exact True.intro | decide, fun ha => ?_, fun ha => ?_⟩
    · have a : anon (opd σ 23) = true := ha
      have e : jE (ins σ 20) = { op := [112 + σ.I 22], number := leL (σ.I 30) 1, holes := [] } := by
        have o : jOp (ins σ 20) = [112 + σ.I 22] := by show (bif σ.B 43 then (bif σ.I 20 == 23 then [235] else [112 + σ.I 22]) else bif σ.I 20 == 22 then [232] else bif σ.I 20 == 23 then [233] else [15, 128 + σ.I 22]) = _; rw [k1, k2]; rfl
        have n : jSize (ins σ 20) = 1 := by show (bif σ.B 43 then 1 else 4) = _; rw [k1]; rfl
        have hh : jHole (ins σ 20) = [] := by show (bif anon (opd σ 23) then [] else _) = _; rw [a, cond_true]
        rw [eT, o, n, hh]; rfl
      and_intros
      all_goals first | assumption | exact True.intro | exact Eq.refl _ | exact w70 | exact w80 | (rw [e]; first | done | rfl) | (show _ = (jE (ins σ 20)).inTail; rw [e]; first | done | rfl) | (rw [e]; exact congrArg (fun q => [[Value.int .u8 q]]) w70) | (rw [e]; exact congrArg (fun q => [[Value.int .u8 15], [Value.int .u8 q]]) w80) | (rw [e]; exact n27) | (rw [e]; exact n36) | decide
    · have a : anon (opd σ 23) = false := ha
      have e : jE (ins σ 20) = { op := [112 + σ.I 22], number := leL (σ.I 30) 1, holes := [⟨0, 1, bif σ.B 43 then 0 else bif σ.I 32 == 1 then 4 else 2, σ.S 31, bif σ.B 43 then -1 else -4⟩] } := by
        have o : jOp (ins σ 20) = [112 + σ.I 22] := by show (bif σ.B 43 then (bif σ.I 20 == 23 then [235] else [112 + σ.I 22]) else bif σ.I 20 == 22 then [232] else bif σ.I 20 == 23 then [233] else [15, 128 + σ.I 22]) = _; rw [k1, k2]; rfl
        have n : jSize (ins σ 20) = 1 := by show (bif σ.B 43 then 1 else 4) = _; rw [k1]; rfl
        have hh : jHole (ins σ 20) = [⟨0, 1, bif σ.B 43 then 0 else bif σ.I 32 == 1 then 4 else 2, σ.S 31, bif σ.B 43 then -1 else -4⟩] := by show (bif anon (opd σ 23) then [] else _) = _; rw [a, cond_false, n]; rfl
        rw [eT, o, n, hh]; rfl
      and_intros
      all_goals first | assumption | exact True.intro | exact Eq.refl _ | exact w70 | exact w80 | (rw [e]; first | done | rfl) | (show _ = (jE (ins σ 20)).inTail; rw [e]; first | done | rfl) | (rw [e]; exact congrArg (fun q => [[Value.int .u8 q]]) w70) | (rw [e]; exact congrArg (fun q => [[Value.int .u8 15], [Value.int .u8 q]]) w80) | (rw [e]; exact n27) | (rw [e]; exact n36) | decide
  · have k1 : σ.B 43 = false := hs
    have k2 : (σ.I 20 == 22) = true := h2
    refine ⟨by and_intros <;> first | exact True.intro | decide, fun ha => ?_, fun ha => ?_⟩
    · have a : anon (opd σ 23) = true := ha
      have e : jE (ins σ 20) = { op := [232], number := leL (σ.I 30) 4, holes := [] } := by
        have o : jOp (ins σ 20) = [232] := by show (bif σ.B 43 then (bif σ.I 20 == 23 then [235] else [112 + σ.I 22]) else bif σ.I 20 == 22 then [232] else bif σ.I 20 == 23 then [233] else [15, 128 + σ.I 22]) = _; rw [k1, k2]; rfl
        have n : jSize (ins σ 20) = 4 := by show (bif σ.B 43 then 1 else 4) = _; rw [k1]; rfl
        have hh : jHole (ins σ 20) = [] := by show (bif anon (opd σ 23) then [] else _) = _; rw [a, cond_true]
        rw [eT, o, n, hh]; rfl
      and_intros
      all_goals first | assumption | exact True.intro | exact Eq.refl _ | exact w70 | exact w80 | (rw [e]; first | done | rfl) | (show _ = (jE (ins σ 20)).inTail; rw [e]; first | done | rfl) | (rw [e]; exact congrArg (fun q => [[Value.int .u8 q]]) w70) | (rw [e]; exact congrArg (fun q => [[Value.int .u8 15], [Value.int .u8 q]]) w80) | (rw [e]; exact n27) | (rw [e]; exact n36) | decide
    · have a : anon (opd σ 23) = false := ha
      have e : jE (ins σ 20) = { op := [232], number := leL (σ.I 30) 4, holes := [⟨0, 4, bif σ.B 43 then 0 else bif σ.I 32 == 1 then 4 else 2, σ.S 31, bif σ.B 43 then -1 else -4⟩] } := by
        have o : jOp (ins σ 20) = [232] := by show (bif σ.B 43 then (bif σ.I 20 == 23 then [235] else [112 + σ.I 22]) else bif σ.I 20 == 22 then [232] else bif σ.I 20 == 23 then [233] else [15, 128 + σ.I 22]) = _; rw [k1, k2]; rfl
        have n : jSize (ins σ 20) = 4 := by show (bif σ.B 43 then 1 else 4) = _; rw [k1]; rfl
        have hh : jHole (ins σ 20) = [⟨0, 4, bif σ.B 43 then 0 else bif σ.I 32 == 1 then 4 else 2, σ.S 31, bif σ.B 43 then -1 else -4⟩] := by show (bif anon (opd σ 23) then [] else _) = _; rw [a, cond_false, n]; rfl
        rw [eT, o, n, hh]; rfl
      and_intros
      all_goals first | assumption | exact True.intro | exact Eq.refl _ | exact w70 | exact w80 | (rw [e]; first | done | rfl) | (show _ = (jE (ins σ 20)).inTail; rw [e]; first | done | rfl) | (rw [e]; exact congrArg (fun q => [[Value.int .u8 q]]) w70) | (rw [e]; exact congrArg (fun q => [[Value.int .u8 15], [Value.int .u8 q]]) w80) | (rw [e]; exact n27) | (rw [e]; exact n36) | decide
  · have k1 : σ.B 43 = false := hs
    have k2 : (σ.I 20 == 22) = false := h2
    have k3 : (σ.I 20 == 23) = true := h3
    refine ⟨by and_intros <;> first | exact True.intro | decide, fun ha => ?_, fun ha => ?_⟩
    · have a : anon (opd σ 23) = true := ha
      have e : jE (ins σ 20) = { op := [233], number := leL (σ.I 30) 4, holes := [] } := by
        have o : jOp (ins σ 20) = [233] := by show (bif σ.B 43 then (bif σ.I 20 == 23 then [235] else [112 + σ.I 22]) else bif σ.I 20 == 22 then [232] else bif σ.I 20 == 23 then [233] else [15, 128 + σ.I 22]) = _; rw [k1, k2, k3]; rfl
        have n : jSize (ins σ 20) = 4 := by show (bif σ.B 43 then 1 else 4) = _; rw [k1]; rfl
        have hh : jHole (ins σ 20) = [] := by show (bif anon (opd σ 23) then [] else _) = _; rw [a, cond_true]
        rw [eT, o, n, hh]; rfl
      and_intros
      all_goals first | assumption | exact True.intro | exact Eq.refl _ | exact w70 | exact w80 | (rw [e]; first | done | rfl) | (show _ = (jE (ins σ 20)).inTail; rw [e]; first | done | rfl) | (rw [e]; exact congrArg (fun q => [[Value.int .u8 q]]) w70) | (rw [e]; exact congrArg (fun q => [[Value.int .u8 15], [Value.int .u8 q]]) w80) | (rw [e]; exact n27) | (rw [e]; exact n36) | decide
    · have a : anon (opd σ 23) = false := ha
      have e : jE (ins σ 20) = { op := [233], number := leL (σ.I 30) 4, holes := [⟨0, 4, bif σ.B 43 then 0 else bif σ.I 32 == 1 then 4 else 2, σ.S 31, bif σ.B 43 then -1 else -4⟩] } := by
        have o : jOp (ins σ 20) = [233] := by show (bif σ.B 43 then (bif σ.I 20 == 23 then [235] else [112 + σ.I 22]) else bif σ.I 20 == 22 then [232] else bif σ.I 20 == 23 then [233] else [15, 128 + σ.I 22]) = _; rw [k1, k2, k3]; rfl
        have n : jSize (ins σ 20) = 4 := by show (bif σ.B 43 then 1 else 4) = _; rw [k1]; rfl
        have hh : jHole (ins σ 20) = [⟨0, 4, bif σ.B 43 then 0 else bif σ.I 32 == 1 then 4 else 2, σ.S 31, bif σ.B 43 then -1 else -4⟩] := by show (bif anon (opd σ 23) then [] else _) = _; rw [a, cond_false, n]; rfl
        rw [eT, o, n, hh]; rfl
      and_intros
      all_goals first | assumption | exact True.intro | exact Eq.refl _ | exact w70 | exact w80 | (rw [e]; first | done | rfl) | (show _ = (jE (ins σ 20)).inTail; rw [e]; first | done | rfl) | (rw [e]; exact congrArg (fun q => [[Value.int .u8 q]]) w70) | (rw [e]; exact congrArg (fun q => [[Value.int .u8 15], [Value.int .u8 q]]) w80) | (rw [e]; exact n27) | (rw [e]; exact n36) | decide
  · have k1 : σ.B 43 = false := hs
    have k2 : (σ.I 20 == 22) = false := h2
    have k3 : (σ.I 20 == 23) = false := h3
    refine ⟨by and_intros <;> first | exact True.intro | decide, fun ha => ?_, fun ha => ?_⟩
    · have a : anon (opd σ 23) = true := ha
      have e : jE (ins σ 20) = { op := [15, 128 + σ.I 22], number := leL (σ.I 30) 4, holes := [] } := by
        have o : jOp (ins σ 20) = [15, 128 + σ.I 22] := by show (bif σ.B 43 then (bif σ.I 20 == 23 then [235] else [112 + σ.I 22]) else bif σ.I 20 == 22 then [232] else bif σ.I 20 == 23 then [233] else [15, 128 + σ.I 22]) = _; rw [k1, k2, k3]; rfl
        have n : jSize (ins σ 20) = 4 := by show (bif σ.B 43 then 1 else 4) = _; rw [k1]; rfl
        have hh : jHole (ins σ 20) = [] := by show (bif anon (opd σ 23) then [] else _) = _; rw [a, cond_true]
        rw [eT, o, n, hh]; rfl
      and_intros
      all_goals first | assumption | exact True.intro | exact Eq.refl _ | exact w70 | exact w80 | (rw [e]; first | done | rfl) | (show _ = (jE (ins σ 20)).inTail; rw [e]; first | done | rfl) | (rw [e]; exact congrArg (fun q => [[Value.int .u8 q]]) w70) | (rw [e]; exact congrArg (fun q => [[Value.int .u8 15], [Value.int .u8 q]]) w80) | (rw [e]; exact n27) | (rw [e]; exact n36) | decide
    · have a : anon (opd σ 23) = false := ha
      have e : jE (ins σ 20) = { op := [15, 128 + σ.I 22], number := leL (σ.I 30) 4, holes := [⟨0, 4, bif σ.B 43 then 0 else bif σ.I 32 == 1 then 4 else 2, σ.S 31, bif σ.B 43 then -1 else -4⟩] } := by
        have o : jOp (ins σ 20) = [15, 128 + σ.I 22] := by show (bif σ.B 43 then (bif σ.I 20 == 23 then [235] else [112 + σ.I 22]) else bif σ.I 20 == 22 then [232] else bif σ.I 20 == 23 then [233] else [15, 128 + σ.I 22]) = _; rw [k1, k2, k3]; rfl
        have n : jSize (ins σ 20) = 4 := by show (bif σ.B 43 then 1 else 4) = _; rw [k1]; rfl
        have hh : jHole (ins σ 20) = [⟨0, 4, bif σ.B 43 then 0 else bif σ.I 32 == 1 then 4 else 2, σ.S 31, bif σ.B 43 then -1 else -4⟩] := by show (bif anon (opd σ 23) then [] else _) = _; rw [a, cond_false, n]; rfl
        rw [eT, o, n, hh]; rfl
      and_intros
      all_goals first | assumption | exact True.intro | exact Eq.refl _ | exact w70 | exact w80 | (rw [e]; first | done | rfl) | (show _ = (jE (ins σ 20)).inTail; rw [e]; first | done | rfl) | (rw [e]; exact congrArg (fun q => [[Value.int .u8 q]]) w70) | (rw [e]; exact congrArg (fun q => [[Value.int .u8 15], [Value.int .u8 q]]) w80) | (rw [e]; exact n27) | (rw [e]; exact n36) | decide
end Go.Proofs.YthmighgfefjcmaaGreat.Enc
end

section
/- Written by vc.py: what is to be shown, read out. No condition. -/
set_option maxRecDepth 1000000
set_option maxHeartbeats 0
namespace Go.Proofs.YthmighgfefjcmaaGreat.Enc
open Go.RowKit Go.Proofs.YthmighgfefjcmaaGreat.X
theorem ot_goal (σ : Dt) (α : At') : (cOt.goal Tryz.prog Lj.mk' 3000 Tryz.f11 σ α) = (
let x0 := σ.I 20 == (2 : Int);
let x1 := σ.I 21 == (8 : Int);
let x2 := bif x1 then σ.I 24 else σ.I 24;
let x3 := x2.tmod (8 : Int);
let x6 := decide (x2 ≥ (8 : Int));
let x7 := bif x1 then σ.I 33 else σ.I 33;
let x8 := bif x6 then x7 else x7;
let x9 := bif x1 then σ.I 34 else σ.I 34;
let x10 := bif x6 then x9 else x9;
let x11 := bif x1 then σ.I 35 else σ.I 35;
let x12 := bif x6 then x11 else x11;
let x13 := bif x1 then σ.I 36 else σ.I 36;
let x14 := bif x6 then x13 else x13;
let x15 := bif x1 then σ.I 37 else σ.I 37;
let x16 := bif x6 then x15 else x15;
let x17 := bif x1 then σ.B 38 else σ.B 38;
let x18 := bif x6 then x17 else x17;
let x19 := bif x1 then σ.B 39 else σ.B 39;
let x20 := bif x6 then x19 else x19;
let x21 := bif x1 then σ.I 40 else σ.I 40;
let x22 := bif x6 then x21 else x21;
let x23 := bif x1 then σ.S 41 else σ.S 41;
let x24 := bif x6 then x23 else x23;
let x25 := bif x1 then σ.I 42 else σ.I 42;
let x26 := bif x6 then x25 else x25;
let x27 := { kind := x8, r := x10, base := x12, index := x14, scale := x16, rip := x18, fs := x20, n := x22, name := x24, mod := x26 : Opd };
let x28 := bif x1 then (8 : Int) else (0 : Int);
let x29 := bif x6 then IntKind.i64.wrap (↑(BitVec.ofInt 64 x28 ||| BitVec.ofInt 64 (4 : Int)).toNat : Int) else x28;
let x30 := (0 : Int) ≤ x3 ∧ x3 ≤ (7 : Int) ∧ rmOk x27 ∧ (0 : Int) ≤ x29 ∧ x29 ≤ (15 : Int);
let x31 := V.a [V.v (Value.int IntKind.i64 x7), V.v (Value.int IntKind.i64 x9), V.v (Value.int IntKind.i64 x11), V.v (Value.int IntKind.i64 x13), V.v (Value.int IntKind.i64 x15), V.v (Value.bool x17), V.v (Value.bool x19), V.v (Value.int IntKind.i64 x21), V.v (Value.string x23), V.v (Value.int
    IntKind.i64 x25)] = V.a [V.v (Value.int IntKind.i64 x8), V.v (Value.int IntKind.i64 x10), V.v (Value.int IntKind.i64 x12), V.v (Value.int IntKind.i64 x14), V.v (Value.int IntKind.i64 x16), V.v (Value.bool x18), V.v (Value.bool x20), V.v (Value.int IntKind.i64 x22), V.v (Value.string x24), V.v
    (Value.int IntKind.i64 x26)];
let x32 := V.a [V.v (Value.int IntKind.i64 x8), V.v (Value.int IntKind.i64 x10), V.v (Value.int IntKind.i64 x12), V.v (Value.int IntKind.i64 x14), V.v (Value.int IntKind.i64 x16), V.v (Value.bool x18), V.v (Value.bool x20), V.v (Value.int IntKind.i64 x22), V.v (Value.string x24), V.v (Value.int
    IntKind.i64 x26)] = V.a [V.v (Value.int IntKind.i64 x8), V.v (Value.int IntKind.i64 x10), V.v (Value.int IntKind.i64 x12), V.v (Value.int IntKind.i64 x14), V.v (Value.int IntKind.i64 x16), V.v (Value.bool x18), V.v (Value.bool x20), V.v (Value.int IntKind.i64 x22), V.v (Value.string x24), V.v
    (Value.int IntKind.i64 x26)];
let x33 := bif x1 then σ.I 20 else σ.I 20;
let x34 := bif x1 then σ.I 21 else σ.I 21;
let x35 := bif x1 then σ.I 22 else σ.I 22;
let x36 := bif x1 then σ.I 23 else σ.I 23;
let x37 := bif x1 then σ.I 25 else σ.I 25;
let x38 := bif x1 then σ.I 26 else σ.I 26;
let x39 := bif x1 then σ.I 27 else σ.I 27;
let x40 := bif x1 then σ.B 28 else σ.B 28;
let x41 := bif x1 then σ.B 29 else σ.B 29;
let x42 := bif x1 then σ.I 30 else σ.I 30;
let x43 := bif x1 then σ.S 31 else σ.S 31;
let x44 := bif x1 then σ.I 32 else σ.I 32;
let x45 := bif x1 then σ.B 43 else σ.B 43;
let x46 := rowsB (rmPre x27);
let x47 := x46.length;
let x48 := ((((((((((((((((((((((((((True ∧ (bif x6 then x33 else x33) = σ.I 20) ∧ (bif x6 then x34 else x34) = σ.I 21) ∧ (bif x6 then x35 else x35) = σ.I 22) ∧ (bif x6 then x36 else x36) = σ.I 23) ∧ (bif x6 then x2 else x2) = σ.I 24) ∧ (bif x6 then x37 else x37) = σ.I 25) ∧ (bif x6 then x38 else
    x38) = σ.I 26) ∧ (bif x6 then x39 else x39) = σ.I 27) ∧ (bif x6 then x40 else x40) = σ.B 28) ∧ (bif x6 then x41 else x41) = σ.B 29) ∧ (bif x6 then x42 else x42) = σ.I 30) ∧ (bif x6 then x43 else x43) = σ.S 31) ∧ (bif x6 then x44 else x44) = σ.I 32) ∧ x8 = σ.I 33) ∧ x10 = σ.I 34) ∧ x12 = σ.I 35)
    ∧ x14 = σ.I 36) ∧ x16 = σ.I 37) ∧ x18 = σ.B 38) ∧ x20 = σ.B 39) ∧ x22 = σ.I 40) ∧ x24 = σ.S 41) ∧ x26 = σ.I 42) ∧ (bif x6 then x45 else x45) = σ.B 43) ∧ x47 = x47 ∧ x46 = rowsB (otE (ins σ 20)).pre) ∧ rexOr x29 (rmRex x27) = (otE (ins σ 20)).rex) ∧ false = (otE (ins σ 20)).force;
let x49 := [[Value.int IntKind.u8 (141 : Int)]];
let x50 := rowsB (rmTail x3 x27);
let x51 := x50.length;
let x52 := x51 = x51 ∧ x50 = rowsB (otE (ins σ 20)).tail;
let x53 := 0 = 0 ∧ [] = rowsB (otE (ins σ 20)).number;
let x54 := rowsH (rmHoles x3 x27);
let x55 := x54.length;
let x56 := x55 = x55 ∧ x54 = rowsH (otE (ins σ 20)).holes;
let x57 := (!(rmHoles x3 x27).isEmpty) = (otE (ins σ 20)).inTail;
let x58 := σ.I 20 == (12 : Int);
let x59 := [[Value.int IntKind.u8 (15 : Int)], [Value.int IntKind.u8 (175 : Int)]];
let x60 := σ.I 20 == (28 : Int);
let x61 := [[Value.int IntKind.u8 (15 : Int)], [Value.int IntKind.u8 (IntKind.u8.wrap (IntKind.i64.wrap ((64 : Int) + σ.I 22)))]];
let x62 := x61.length;
let x63 := σ.I 20 == (29 : Int);
let x64 := σ.I 33 == (1 : Int);
let x67 := decide (σ.I 34 ≥ (4 : Int));
let x68 := decide (σ.I 34 ≤ (7 : Int));
let x69 := bif x64 then bif x67 then bif x68 then σ.I 21 else σ.I 21 else σ.I 21 else σ.I 21;
let x70 := x69 == (8 : Int);
let x71 := bif x64 then bif x67 then bif x68 then σ.I 24 else σ.I 24 else σ.I 24 else σ.I 24;
let x72 := bif x70 then x71 else x71;
let x73 := x72.tmod (8 : Int);
let x78 := decide (x72 ≥ (8 : Int));
let x79 := bif x64 then bif x67 then bif x68 then σ.I 33 else σ.I 33 else σ.I 33 else σ.I 33;
let x80 := bif x70 then x79 else x79;
let x81 := bif x78 then x80 else x80;
let x82 := bif x64 then bif x67 then bif x68 then σ.I 34 else σ.I 34 else σ.I 34 else σ.I 34;
let x83 := bif x70 then x82 else x82;
let x84 := bif x78 then x83 else x83;
let x85 := bif x64 then bif x67 then bif x68 then σ.I 35 else σ.I 35 else σ.I 35 else σ.I 35;
let x86 := bif x70 then x85 else x85;
let x87 := bif x78 then x86 else x86;
let x88 := bif x64 then bif x67 then bif x68 then σ.I 36 else σ.I 36 else σ.I 36 else σ.I 36;
let x89 := bif x70 then x88 else x88;
let x90 := bif x78 then x89 else x89;
let x91 := bif x64 then bif x67 then bif x68 then σ.I 37 else σ.I 37 else σ.I 37 else σ.I 37;
let x92 := bif x70 then x91 else x91;
let x93 := bif x78 then x92 else x92;
let x94 := bif x64 then bif x67 then bif x68 then σ.B 38 else σ.B 38 else σ.B 38 else σ.B 38;
let x95 := bif x70 then x94 else x94;
let x96 := bif x78 then x95 else x95;
let x97 := bif x64 then bif x67 then bif x68 then σ.B 39 else σ.B 39 else σ.B 39 else σ.B 39;
let x98 := bif x70 then x97 else x97;
let x99 := bif x78 then x98 else x98;
let x100 := bif x64 then bif x67 then bif x68 then σ.I 40 else σ.I 40 else σ.I 40 else σ.I 40;
let x101 := bif x70 then x100 else x100;
let x102 := bif x78 then x101 else x101;
let x103 := bif x64 then bif x67 then bif x68 then σ.S 41 else σ.S 41 else σ.S 41 else σ.S 41;
let x104 := bif x70 then x103 else x103;
let x105 := bif x78 then x104 else x104;
let x106 := bif x64 then bif x67 then bif x68 then σ.I 42 else σ.I 42 else σ.I 42 else σ.I 42;
let x107 := bif x70 then x106 else x106;
let x108 := bif x78 then x107 else x107;
let x109 := { kind := x81, r := x84, base := x87, index := x90, scale := x93, rip := x96, fs := x99, n := x102, name := x105, mod := x108 : Opd };
let x110 := bif x70 then (8 : Int) else (0 : Int);
let x111 := bif x78 then IntKind.i64.wrap (↑(BitVec.ofInt 64 x110 ||| BitVec.ofInt 64 (4 : Int)).toNat : Int) else x110;
let x112 := (True ∧ 2 = 2) ∧ (0 : Int) ≤ x73 ∧ x73 ≤ (7 : Int) ∧ rmOk x109 ∧ (0 : Int) ≤ x111 ∧ x111 ≤ (15 : Int);
let x113 := V.a [V.v (Value.int IntKind.i64 x80), V.v (Value.int IntKind.i64 x83), V.v (Value.int IntKind.i64 x86), V.v (Value.int IntKind.i64 x89), V.v (Value.int IntKind.i64 x92), V.v (Value.bool x95), V.v (Value.bool x98), V.v (Value.int IntKind.i64 x101), V.v (Value.string x104), V.v (Value.int
    IntKind.i64 x107)] = V.a [V.v (Value.int IntKind.i64 x81), V.v (Value.int IntKind.i64 x84), V.v (Value.int IntKind.i64 x87), V.v (Value.int IntKind.i64 x90), V.v (Value.int IntKind.i64 x93), V.v (Value.bool x96), V.v (Value.bool x99), V.v (Value.int IntKind.i64 x102), V.v (Value.string x105),
    V.v (Value.int IntKind.i64 x108)];
let x114 := V.a [V.v (Value.int IntKind.i64 x81), V.v (Value.int IntKind.i64 x84), V.v (Value.int IntKind.i64 x87), V.v (Value.int IntKind.i64 x90), V.v (Value.int IntKind.i64 x93), V.v (Value.bool x96), V.v (Value.bool x99), V.v (Value.int IntKind.i64 x102), V.v (Value.string x105), V.v (Value.int
    IntKind.i64 x108)] = V.a [V.v (Value.int IntKind.i64 x81), V.v (Value.int IntKind.i64 x84), V.v (Value.int IntKind.i64 x87), V.v (Value.int IntKind.i64 x90), V.v (Value.int IntKind.i64 x93), V.v (Value.bool x96), V.v (Value.bool x99), V.v (Value.int IntKind.i64 x102), V.v (Value.string x105),
    V.v (Value.int IntKind.i64 x108)];
let x115 := bif x64 then bif x67 then bif x68 then σ.I 20 else σ.I 20 else σ.I 20 else σ.I 20;
let x116 := bif x70 then x115 else x115;
let x117 := bif x70 then x69 else x69;
let x118 := bif x64 then bif x67 then bif x68 then σ.I 22 else σ.I 22 else σ.I 22 else σ.I 22;
let x119 := bif x70 then x118 else x118;
let x120 := bif x64 then bif x67 then bif x68 then σ.I 23 else σ.I 23 else σ.I 23 else σ.I 23;
let x121 := bif x70 then x120 else x120;
let x122 := bif x64 then bif x67 then bif x68 then σ.I 25 else σ.I 25 else σ.I 25 else σ.I 25;
let x123 := bif x70 then x122 else x122;
let x124 := bif x64 then bif x67 then bif x68 then σ.I 26 else σ.I 26 else σ.I 26 else σ.I 26;
let x125 := bif x70 then x124 else x124;
let x126 := bif x64 then bif x67 then bif x68 then σ.I 27 else σ.I 27 else σ.I 27 else σ.I 27;
let x127 := bif x70 then x126 else x126;
let x128 := bif x64 then bif x67 then bif x68 then σ.B 28 else σ.B 28 else σ.B 28 else σ.B 28;
let x129 := bif x70 then x128 else x128;
let x130 := bif x64 then bif x67 then bif x68 then σ.B 29 else σ.B 29 else σ.B 29 else σ.B 29;
let x131 := bif x70 then x130 else x130;
let x132 := bif x64 then bif x67 then bif x68 then σ.I 30 else σ.I 30 else σ.I 30 else σ.I 30;
let x133 := bif x70 then x132 else x132;
let x134 := bif x64 then bif x67 then bif x68 then σ.S 31 else σ.S 31 else σ.S 31 else σ.S 31;
let x135 := bif x70 then x134 else x134;
let x136 := bif x64 then bif x67 then bif x68 then σ.I 32 else σ.I 32 else σ.I 32 else σ.I 32;
let x137 := bif x70 then x136 else x136;
let x138 := bif x64 then bif x67 then bif x68 then σ.B 43 else σ.B 43 else σ.B 43 else σ.B 43;
let x139 := bif x70 then x138 else x138;
let x140 := rowsB (rmPre x109);
let x141 := x140.length;
let x142 := bif x64 then bif x67 then bif x68 then true else false else false else false;
let x143 := bif x70 then x142 else x142;
let x144 := ((((((((((((((((((((((((((True ∧ (bif x78 then x116 else x116) = σ.I 20) ∧ (bif x78 then x117 else x117) = σ.I 21) ∧ (bif x78 then x119 else x119) = σ.I 22) ∧ (bif x78 then x121 else x121) = σ.I 23) ∧ (bif x78 then x72 else x72) = σ.I 24) ∧ (bif x78 then x123 else x123) = σ.I 25) ∧ (bif
    x78 then x125 else x125) = σ.I 26) ∧ (bif x78 then x127 else x127) = σ.I 27) ∧ (bif x78 then x129 else x129) = σ.B 28) ∧ (bif x78 then x131 else x131) = σ.B 29) ∧ (bif x78 then x133 else x133) = σ.I 30) ∧ (bif x78 then x135 else x135) = σ.S 31) ∧ (bif x78 then x137 else x137) = σ.I 32) ∧ x81 =
    σ.I 33) ∧ x84 = σ.I 34) ∧ x87 = σ.I 35) ∧ x90 = σ.I 36) ∧ x93 = σ.I 37) ∧ x96 = σ.B 38) ∧ x99 = σ.B 39) ∧ x102 = σ.I 40) ∧ x105 = σ.S 41) ∧ x108 = σ.I 42) ∧ (bif x78 then x139 else x139) = σ.B 43) ∧ x141 = x141 ∧ x140 = rowsB (otE (ins σ 20)).pre) ∧ rexOr x111 (rmRex x109) = (otE (ins σ
    20)).rex) ∧ (bif x78 then x143 else x143) = (otE (ins σ 20)).force;
let x145 := [[Value.int IntKind.u8 (15 : Int)], [Value.int IntKind.u8 (182 : Int)]];
let x146 := rowsB (rmTail x73 x109);
let x147 := x146.length;
let x148 := x147 = x147 ∧ x146 = rowsB (otE (ins σ 20)).tail;
let x149 := rowsH (rmHoles x73 x109);
let x150 := x149.length;
let x151 := x150 = x150 ∧ x149 = rowsH (otE (ins σ 20)).holes;
let x152 := (!(rmHoles x73 x109).isEmpty) = (otE (ins σ 20)).inTail;
let x153 := σ.I 20 == (30 : Int);
let x154 := [[Value.int IntKind.u8 (15 : Int)], [Value.int IntKind.u8 (190 : Int)]];
let x155 := σ.I 20 == (14 : Int);
let x156 := { kind := σ.I 23, r := σ.I 24, base := σ.I 25, index := σ.I 26, scale := σ.I 27, rip := σ.B 28, fs := σ.B 29, n := σ.I 30, name := σ.S 31, mod := σ.I 32 : Opd };
let x157 := rmOk x156;
let x158 := (((((((((((((((((((((((True ∧ σ.I 20 = σ.I 20) ∧ σ.I 21 = σ.I 21) ∧ σ.I 22 = σ.I 22) ∧ σ.I 23 = σ.I 23) ∧ σ.I 24 = σ.I 24) ∧ σ.I 25 = σ.I 25) ∧ σ.I 26 = σ.I 26) ∧ σ.I 27 = σ.I 27) ∧ σ.B 28 = σ.B 28) ∧ σ.B 29 = σ.B 29) ∧ σ.I 30 = σ.I 30) ∧ σ.S 31 = σ.S 31) ∧ σ.I 32 = σ.I 32) ∧ σ.I 33 =
    σ.I 33) ∧ σ.I 34 = σ.I 34) ∧ σ.I 35 = σ.I 35) ∧ σ.I 36 = σ.I 36) ∧ σ.I 37 = σ.I 37) ∧ σ.B 38 = σ.B 38) ∧ σ.B 39 = σ.B 39) ∧ σ.I 40 = σ.I 40) ∧ σ.S 41 = σ.S 41) ∧ σ.I 42 = σ.I 42) ∧ σ.B 43 = σ.B 43;
let x159 := rowsB (rmPre x156);
let x160 := x159.length;
let x161 := x160 = x160 ∧ x159 = rowsB (otE (ins σ 20)).pre;
let x162 := rmRex x156;
let x163 := ((x158 ∧ x161) ∧ rexOr (rexW (σ.I 21)) x162 = (otE (ins σ 20)).rex) ∧ lowF x156 (σ.I 21) = (otE (ins σ 20)).force;
let x164 := rowsB [szOp (σ.I 21) (246 : Int) (247 : Int)];
let x165 := x164.length;
let x166 := x163 ∧ x165 = x165 ∧ x164 = rowsB (otE (ins σ 20)).op;
let x167 := rowsB (rmTail (2 : Int) x156);
let x168 := x167.length;
let x169 := rowsH (rmHoles (2 : Int) x156);
let x170 := x169.length;
let x171 := σ.I 20 == (13 : Int);
let x172 := rowsB (rmTail (3 : Int) x156);
let x173 := x172.length;
let x174 := rowsH (rmHoles (3 : Int) x156);
let x175 := x174.length;
let x176 := σ.I 20 == (15 : Int);
let x177 := rowsB [szOp (σ.I 21) (254 : Int) (255 : Int)];
let x178 := x177.length;
let x179 := x163 ∧ x178 = x178 ∧ x177 = rowsB (otE (ins σ 20)).op;
let x180 := rowsB (rmTail (0 : Int) x156);
let x181 := x180.length;
let x182 := x181 = x181 ∧ x180 = rowsB (otE (ins σ 20)).tail;
let x183 := rowsH (rmHoles (0 : Int) x156);
let x184 := x183.length;
let x185 := x184 = x184 ∧ x183 = rowsH (otE (ins σ 20)).holes;
let x186 := (!(rmHoles (0 : Int) x156).isEmpty) = (otE (ins σ 20)).inTail;
let x187 := σ.I 20 == (16 : Int);
let x188 := rowsB (rmTail (1 : Int) x156);
let x189 := x188.length;
let x190 := rowsH (rmHoles (1 : Int) x156);
let x191 := x190.length;
let x192 := σ.I 20 == (27 : Int);
let x193 := [[Value.int IntKind.u8 (15 : Int)], [Value.int IntKind.u8 (IntKind.u8.wrap (IntKind.i64.wrap ((144 : Int) + σ.I 22)))]];
let x194 := x193.length;
let x195 := σ.I 23 == (1 : Int);
let x196 := decide (σ.I 24 ≥ (4 : Int));
let x197 := decide (σ.I 24 ≤ (7 : Int));
let x198 := σ.I 20 == (25 : Int);
let x199 := ((x158 ∧ 0 = 0 ∧ [] = rowsB (otE (ins σ 20)).pre) ∧ (0 : Int) = (otE (ins σ 20)).rex) ∧ false = (otE (ins σ 20)).force;
let x200 := [[Value.int IntKind.u8 (195 : Int)]];
let x201 := 0 = 0 ∧ [] = rowsB (otE (ins σ 20)).tail;
let x202 := 0 = 0 ∧ [] = rowsH (otE (ins σ 20)).holes;
let x203 := σ.I 20 == (26 : Int);
let x204 := [[Value.int IntKind.u8 (201 : Int)]];
let x205 := σ.I 20 == (33 : Int);
let x206 := [[Value.int IntKind.u8 (144 : Int)]];
let x207 := σ.I 20 == (32 : Int);
let x208 := [[Value.int IntKind.u8 (72 : Int)], [Value.int IntKind.u8 (153 : Int)]];
let x209 := σ.I 20 == (34 : Int);
let x210 := [[Value.int IntKind.u8 (15 : Int)], [Value.int IntKind.u8 (11 : Int)]];
let x211 := σ.I 20 == (35 : Int);
let x212 := [[Value.int IntKind.u8 (15 : Int)], [Value.int IntKind.u8 (5 : Int)]];
(x0 = true → ((True ∧ 1 = 1) ∧ x30) ∧ x31 ∧ x32 ∧ True ∧ Ex.ret = Ex.ret ∧ true = true ∧ ((((x48 ∧ 1 = x49.length ∧ x49 = rowsB (otE (ins σ 20)).op) ∧ x52) ∧ x53) ∧ x56) ∧ x57) ∧ (x0 = false → (x58 = true → ((True ∧ 2 = 2) ∧ x30) ∧ x31 ∧ x32 ∧ True ∧ Ex.ret = Ex.ret ∧ true = true ∧ ((((x48 ∧ 2 =
    x59.length ∧ x59 = rowsB (otE (ins σ 20)).op) ∧ x52) ∧ x53) ∧ x56) ∧ x57) ∧ (x58 = false → (x60 = true → ((True ∧ 2 = x62) ∧ x30) ∧ x31 ∧ x32 ∧ True ∧ Ex.ret = Ex.ret ∧ true = true ∧ ((((x48 ∧ x62 = x62 ∧ x61 = rowsB (otE (ins σ 20)).op) ∧ x52) ∧ x53) ∧ x56) ∧ x57) ∧ (x60 = false → (x63 = true →
    x112 ∧ x113 ∧ x114 ∧ True ∧ Ex.ret = Ex.ret ∧ true = true ∧ ((((x144 ∧ 2 = x145.length ∧ x145 = rowsB (otE (ins σ 20)).op) ∧ x148) ∧ x53) ∧ x151) ∧ x152) ∧ (x63 = false → (x153 = true → x112 ∧ x113 ∧ x114 ∧ True ∧ Ex.ret = Ex.ret ∧ true = true ∧ ((((x144 ∧ 2 = x154.length ∧ x154 = rowsB (otE
    (ins σ 20)).op) ∧ x148) ∧ x53) ∧ x151) ∧ x152) ∧ (x153 = false → (x155 = true → (True ∧ (0 : Int) ≤ (2 : Int) ∧ (2 : Int) ≤ (7 : Int) ∧ x157) ∧ True ∧ Ex.ret = Ex.ret ∧ true = true ∧ (((x166 ∧ x168 = x168 ∧ x167 = rowsB (otE (ins σ 20)).tail) ∧ x53) ∧ x170 = x170 ∧ x169 = rowsH (otE (ins σ
    20)).holes) ∧ (!(rmHoles (2 : Int) x156).isEmpty) = (otE (ins σ 20)).inTail) ∧ (x155 = false → (x171 = true → (True ∧ (0 : Int) ≤ (3 : Int) ∧ (3 : Int) ≤ (7 : Int) ∧ x157) ∧ True ∧ Ex.ret = Ex.ret ∧ true = true ∧ (((x166 ∧ x173 = x173 ∧ x172 = rowsB (otE (ins σ 20)).tail) ∧ x53) ∧ x175 = x175 ∧
    x174 = rowsH (otE (ins σ 20)).holes) ∧ (!(rmHoles (3 : Int) x156).isEmpty) = (otE (ins σ 20)).inTail) ∧ (x171 = false → (x176 = true → (True ∧ (0 : Int) ≤ (0 : Int) ∧ (0 : Int) ≤ (7 : Int) ∧ x157) ∧ True ∧ Ex.ret = Ex.ret ∧ true = true ∧ (((x179 ∧ x182) ∧ x53) ∧ x185) ∧ x186) ∧ (x176 = false →
    (x187 = true → (True ∧ (0 : Int) ≤ (1 : Int) ∧ (1 : Int) ≤ (7 : Int) ∧ x157) ∧ True ∧ Ex.ret = Ex.ret ∧ true = true ∧ (((x179 ∧ x189 = x189 ∧ x188 = rowsB (otE (ins σ 20)).tail) ∧ x53) ∧ x191 = x191 ∧ x190 = rowsH (otE (ins σ 20)).holes) ∧ (!(rmHoles (1 : Int) x156).isEmpty) = (otE (ins σ
    20)).inTail) ∧ (x187 = false → (x192 = true → ((True ∧ 2 = x194) ∧ (0 : Int) ≤ (0 : Int) ∧ (0 : Int) ≤ (7 : Int) ∧ x157 ∧ (0 : Int) ≤ (0 : Int) ∧ (0 : Int) ≤ (15 : Int)) ∧ True ∧ Ex.ret = Ex.ret ∧ true = true ∧ (((((((((((((((((((((((((((((((True ∧ (bif x195 then bif x196 then bif x197 then σ.I
    (20 : Nat) else σ.I (20 : Nat) else σ.I (20 : Nat) else σ.I (20 : Nat)) = σ.I (20 : Nat)) ∧ (bif x195 then bif x196 then bif x197 then σ.I (21 : Nat) else σ.I (21 : Nat) else σ.I (21 : Nat) else σ.I (21 : Nat)) = σ.I (21 : Nat)) ∧ (bif x195 then bif x196 then bif x197 then σ.I (22 : Nat) else
    σ.I (22 : Nat) else σ.I (22 : Nat) else σ.I (22 : Nat)) = σ.I (22 : Nat)) ∧ (bif x195 then bif x196 then bif x197 then σ.I (23 : Nat) else σ.I (23 : Nat) else σ.I (23 : Nat) else σ.I (23 : Nat)) = σ.I (23 : Nat)) ∧ (bif x195 then bif x196 then bif x197 then σ.I (24 : Nat) else σ.I (24 : Nat)
    else σ.I (24 : Nat) else σ.I (24 : Nat)) = σ.I (24 : Nat)) ∧ (bif x195 then bif x196 then bif x197 then σ.I (25 : Nat) else σ.I (25 : Nat) else σ.I 25 else σ.I (25 : Nat)) = σ.I 25) ∧ (bif x195 then bif x196 then bif x197 then σ.I 26 else σ.I 26 else σ.I 26 else σ.I 26) = σ.I 26) ∧ (bif x195
    then bif x196 then bif x197 then σ.I 27 else σ.I 27 else σ.I 27 else σ.I 27) = σ.I 27) ∧ (bif x195 then bif x196 then bif x197 then σ.B 28 else σ.B 28 else σ.B 28 else σ.B 28) = σ.B 28) ∧ (bif x195 then bif x196 then bif x197 then σ.B 29 else σ.B 29 else σ.B 29 else σ.B 29) = σ.B 29) ∧ (bif x195
    then bif x196 then bif x197 then σ.I 30 else σ.I 30 else σ.I 30 else σ.I 30) = σ.I 30) ∧ (bif x195 then bif x196 then bif x197 then σ.S 31 else σ.S 31 else σ.S 31 else σ.S 31) = σ.S 31) ∧ (bif x195 then bif x196 then bif x197 then σ.I 32 else σ.I 32 else σ.I 32 else σ.I 32) = σ.I 32) ∧ (bif x195
    then bif x196 then bif x197 then σ.I 33 else σ.I 33 else σ.I 33 else σ.I 33) = σ.I 33) ∧ (bif x195 then bif x196 then bif x197 then σ.I 34 else σ.I 34 else σ.I 34 else σ.I 34) = σ.I 34) ∧ (bif x195 then bif x196 then bif x197 then σ.I 35 else σ.I 35 else σ.I 35 else σ.I 35) = σ.I 35) ∧ (bif x195
    then bif x196 then bif x197 then σ.I 36 else σ.I 36 else σ.I 36 else σ.I 36) = σ.I 36) ∧ (bif x195 then bif x196 then bif x197 then σ.I 37 else σ.I 37 else σ.I 37 else σ.I 37) = σ.I 37) ∧ (bif x195 then bif x196 then bif x197 then σ.B 38 else σ.B 38 else σ.B 38 else σ.B 38) = σ.B 38) ∧ (bif x195
    then bif x196 then bif x197 then σ.B 39 else σ.B 39 else σ.B 39 else σ.B 39) = σ.B 39) ∧ (bif x195 then bif x196 then bif x197 then σ.I 40 else σ.I 40 else σ.I 40 else σ.I 40) = σ.I 40) ∧ (bif x195 then bif x196 then bif x197 then σ.S 41 else σ.S 41 else σ.S 41 else σ.S 41) = σ.S 41) ∧ (bif x195
    then bif x196 then bif x197 then σ.I 42 else σ.I 42 else σ.I 42 else σ.I 42) = σ.I 42) ∧ (bif x195 then bif x196 then bif x197 then σ.B 43 else σ.B 43 else σ.B 43 else σ.B 43) = σ.B 43) ∧ x161) ∧ rexOr (0 : Int) x162 = (otE (ins σ 20)).rex) ∧ (bif x195 then bif x196 then bif x197 then true else
    false else false else false) = (otE (ins σ 20)).force) ∧ x194 = x194 ∧ x193 = rowsB (otE (ins σ 20)).op) ∧ x182) ∧ x53) ∧ x185) ∧ x186) ∧ (x192 = false → (x198 = true → True ∧ Ex.ret = Ex.ret ∧ true = true ∧ ((((x199 ∧ 1 = x200.length ∧ x200 = rowsB (otE (ins σ 20)).op) ∧ x201) ∧ x53) ∧ x202) ∧
    false = (otE (ins σ 20)).inTail) ∧ (x198 = false → (x203 = true → True ∧ Ex.ret = Ex.ret ∧ true = true ∧ ((((x199 ∧ 1 = x204.length ∧ x204 = rowsB (otE (ins σ 20)).op) ∧ x201) ∧ x53) ∧ x202) ∧ false = (otE (ins σ 20)).inTail) ∧ (x203 = false → (x205 = true → True ∧ Ex.ret = Ex.ret ∧ true = true
    ∧ ((((x199 ∧ 1 = x206.length ∧ x206 = rowsB (otE (ins σ 20)).op) ∧ x201) ∧ x53) ∧ x202) ∧ false = (otE (ins σ 20)).inTail) ∧ (x205 = false → (x207 = true → True ∧ Ex.ret = Ex.ret ∧ true = true ∧ ((((x199 ∧ 2 = x208.length ∧ x208 = rowsB (otE (ins σ 20)).op) ∧ x201) ∧ x53) ∧ x202) ∧ false = (otE
    (ins σ 20)).inTail) ∧ (x207 = false → (x209 = true → True ∧ Ex.ret = Ex.ret ∧ true = true ∧ ((((x199 ∧ 2 = x210.length ∧ x210 = rowsB (otE (ins σ 20)).op) ∧ x201) ∧ x53) ∧ x202) ∧ false = (otE (ins σ 20)).inTail) ∧ (x209 = false → (x211 = true → True ∧ Ex.ret = Ex.ret ∧ true = true ∧ ((((x199 ∧
    2 = x212.length ∧ x212 = rowsB (otE (ins σ 20)).op) ∧ x201) ∧ x53) ∧ x202) ∧ false = (otE (ins σ 20)).inTail) ∧ (x211 = false → True ∧ Ex.ret = Ex.ret ∧ true = true ∧ ((((x199 ∧ 0 = 0 ∧ [] = rowsB (otE (ins σ 20)).op) ∧ x201) ∧ x53) ∧ x202) ∧ false = (otE (ins σ 20)).inTail))))))))))))))))) := by kernel_rfl

end Go.Proofs.YthmighgfefjcmaaGreat.Enc
end

section
/- Written by vc.py: what is to be shown, read out. No condition. -/
set_option maxRecDepth 1000000
set_option maxHeartbeats 0
namespace Go.Proofs.YthmighgfefjcmaaGreat.Enc
open Go.RowKit Go.Proofs.YthmighgfefjcmaaGreat.X
theorem sum_goal (σ : Dt) (α : At') : (cSum.goal Tryz.prog Limm.mk' 3000 Tryz.f12 σ α) = (
let x0 := σ.I 33 == (2 : Int);
let x1 := { kind := σ.I 23, r := σ.I 24, base := σ.I 25, index := σ.I 26, scale := σ.I 27, rip := σ.B 28, fs := σ.B 29, n := σ.I 30, name := σ.S 31, mod := σ.I 32 : Opd };
let x2 := { kind := σ.I 33, r := σ.I 34, base := σ.I 35, index := σ.I 36, scale := σ.I 37, rip := σ.B 38, fs := σ.B 39, n := σ.I 40, name := σ.S 41, mod := σ.I 42 : Opd };
let x3 := { op := σ.I 20, size := σ.I 21, cond := σ.I 22, to := x1, src := x2, short := σ.B 43 : Ins };
let x4 := immE x3;
let x5 := rowsB x4.pre;
let x6 := x5.length;
let x7 := rowsB x4.op;
let x8 := x7.length;
let x9 := rowsB x4.tail;
let x10 := x9.length;
let x11 := rowsB x4.number;
let x12 := x11.length;
let x13 := rowsH x4.holes;
let x14 := x13.length;
let x15 := σ.I 33 == (1 : Int);
let x16 := σ.I 21 == (1 : Int);
let x18 := decide (σ.I 34 ≥ (4 : Int));
let x19 := decide (σ.I 34 ≤ (7 : Int));
let x20 := σ.I 23 == (1 : Int);
let x22 := decide (σ.I 24 ≥ (4 : Int));
let x23 := decide (σ.I 24 ≤ (7 : Int));
let x24 := [false, true, false, true, true, true, true, true, true, true, true, true, false, false, false, false, false, false, false, false, false, false, false, false, false, false, false, false, false, false, false, true, false, false, false, false].getD (σ.I 20).toNat false;
let x25 := σ.I 21 == (8 : Int);
let x26 := bif x24 then bif x25 then σ.I 21 else σ.I 21 else σ.I 21;
let x27 := bif x16 then bif x20 then bif x22 then bif x23 then x26 else x26 else x26 else x26 else x26;
let x28 := bif x16 then bif x15 then bif x18 then bif x19 then x27 else x27 else x27 else x27 else x27;
let x29 := [(0 : Int), (0 : Int), (0 : Int), (0 : Int), (0 : Int), (0 : Int), (0 : Int), (0 : Int), (0 : Int), (0 : Int), (0 : Int), (0 : Int), (0 : Int), (0 : Int), (0 : Int), (0 : Int), (0 : Int), (0 : Int), (0 : Int), (135 : Int), (0 : Int), (0 : Int), (0 : Int), (0 : Int)];
let x30 := bif x28 == (1 : Int) then ((0 : Int) :: (136 : Int) :: (0 : Int) :: (0 : Int) :: (8 : Int) :: (16 : Int) :: (24 : Int) :: (32 : Int) :: (40 : Int) :: (48 : Int) :: (56 : Int) :: (132 : Int) :: x29).getD (σ.I 20).toNat (0 : Int) else ((0 : Int) :: (137 : Int) :: (0 : Int) :: (1 : Int) ::
    (9 : Int) :: (17 : Int) :: (25 : Int) :: (33 : Int) :: (41 : Int) :: (49 : Int) :: (57 : Int) :: (133 : Int) :: x29).getD (σ.I 20).toNat (0 : Int);
let x31 := [[Value.int IntKind.u8 x30]];
let x32 := x31.length;
let x33 := decide (σ.I 34 ≥ (8 : Int));
let x34 := bif x24 then bif x25 then (8 : Int) else (0 : Int) else (0 : Int);
let x35 := bif x16 then bif x20 then bif x22 then bif x23 then x34 else x34 else x34 else x34 else x34;
let x36 := bif x16 then bif x15 then bif x18 then bif x19 then x35 else x35 else x35 else x35 else x35;
let x37 := IntKind.i64.wrap (↑(BitVec.ofInt 64 x36 ||| BitVec.ofInt 64 (4 : Int)).toNat : Int);
let x38 := bif x33 then x37 else x36;
let x39 := bif x24 then bif x25 then σ.I 20 else σ.I 20 else σ.I 20;
let x40 := bif x16 then bif x20 then bif x22 then bif x23 then x39 else x39 else x39 else x39 else x39;
let x41 := bif x16 then bif x15 then bif x18 then bif x19 then x40 else x40 else x40 else x40 else x40;
let x42 := bif x24 then bif x25 then σ.I 22 else σ.I 22 else σ.I 22;
let x43 := bif x16 then bif x20 then bif x22 then bif x23 then x42 else x42 else x42 else x42 else x42;
let x44 := bif x16 then bif x15 then bif x18 then bif x19 then x43 else x43 else x43 else x43 else x43;
let x45 := bif x24 then bif x25 then σ.I 23 else σ.I 23 else σ.I 23;
let x46 := bif x16 then bif x20 then bif x22 then bif x23 then x45 else x45 else x45 else x45 else x45;
let x47 := bif x16 then bif x15 then bif x18 then bif x19 then x46 else x46 else x46 else x46 else x46;
let x48 := bif x24 then bif x25 then σ.I 24 else σ.I 24 else σ.I 24;
let x49 := bif x16 then bif x20 then bif x22 then bif x23 then x48 else x48 else x48 else x48 else x48;
let x50 := bif x16 then bif x15 then bif x18 then bif x19 then x49 else x49 else x49 else x49 else x49;
let x51 := bif x24 then bif x25 then σ.I 25 else σ.I 25 else σ.I 25;
let x52 := bif x16 then bif x20 then bif x22 then bif x23 then x51 else x51 else x51 else x51 else x51;
let x53 := bif x16 then bif x15 then bif x18 then bif x19 then x52 else x52 else x52 else x52 else x52;
let x54 := bif x24 then bif x25 then σ.I 26 else σ.I 26 else σ.I 26;
let x55 := bif x16 then bif x20 then bif x22 then bif x23 then x54 else x54 else x54 else x54 else x54;
let x56 := bif x16 then bif x15 then bif x18 then bif x19 then x55 else x55 else x55 else x55 else x55;
let x57 := bif x24 then bif x25 then σ.I 27 else σ.I 27 else σ.I 27;
let x58 := bif x16 then bif x20 then bif x22 then bif x23 then x57 else x57 else x57 else x57 else x57;
let x59 := bif x16 then bif x15 then bif x18 then bif x19 then x58 else x58 else x58 else x58 else x58;
let x60 := bif x24 then bif x25 then σ.B 28 else σ.B 28 else σ.B 28;
let x61 := bif x16 then bif x20 then bif x22 then bif x23 then x60 else x60 else x60 else x60 else x60;
let x62 := bif x16 then bif x15 then bif x18 then bif x19 then x61 else x61 else x61 else x61 else x61;
let x63 := bif x24 then bif x25 then σ.B 29 else σ.B 29 else σ.B 29;
let x64 := bif x16 then bif x20 then bif x22 then bif x23 then x63 else x63 else x63 else x63 else x63;
let x65 := bif x16 then bif x15 then bif x18 then bif x19 then x64 else x64 else x64 else x64 else x64;
let x66 := bif x24 then bif x25 then σ.I 30 else σ.I 30 else σ.I 30;
let x67 := bif x16 then bif x20 then bif x22 then bif x23 then x66 else x66 else x66 else x66 else x66;
let x68 := bif x16 then bif x15 then bif x18 then bif x19 then x67 else x67 else x67 else x67 else x67;
let x69 := bif x24 then bif x25 then σ.S 31 else σ.S 31 else σ.S 31;
let x70 := bif x16 then bif x20 then bif x22 then bif x23 then x69 else x69 else x69 else x69 else x69;
let x71 := bif x16 then bif x15 then bif x18 then bif x19 then x70 else x70 else x70 else x70 else x70;
let x72 := bif x24 then bif x25 then σ.I 32 else σ.I 32 else σ.I 32;
let x73 := bif x16 then bif x20 then bif x22 then bif x23 then x72 else x72 else x72 else x72 else x72;
let x74 := bif x16 then bif x15 then bif x18 then bif x19 then x73 else x73 else x73 else x73 else x73;
let x75 := bif x24 then bif x25 then σ.I 33 else σ.I 33 else σ.I 33;
let x76 := bif x16 then bif x20 then bif x22 then bif x23 then x75 else x75 else x75 else x75 else x75;
let x77 := bif x16 then bif x15 then bif x18 then bif x19 then x76 else x76 else x76 else x76 else x76;
let x78 := bif x24 then bif x25 then σ.I 34 else σ.I 34 else σ.I 34;
let x79 := bif x16 then bif x20 then bif x22 then bif x23 then x78 else x78 else x78 else x78 else x78;
let x80 := bif x16 then bif x15 then bif x18 then bif x19 then x79 else x79 else x79 else x79 else x79;
let x81 := bif x24 then bif x25 then σ.I 35 else σ.I 35 else σ.I 35;
let x82 := bif x16 then bif x20 then bif x22 then bif x23 then x81 else x81 else x81 else x81 else x81;
let x83 := bif x16 then bif x15 then bif x18 then bif x19 then x82 else x82 else x82 else x82 else x82;
let x84 := bif x24 then bif x25 then σ.I 36 else σ.I 36 else σ.I 36;
let x85 := bif x16 then bif x20 then bif x22 then bif x23 then x84 else x84 else x84 else x84 else x84;
let x86 := bif x16 then bif x15 then bif x18 then bif x19 then x85 else x85 else x85 else x85 else x85;
let x87 := bif x24 then bif x25 then σ.I 37 else σ.I 37 else σ.I 37;
let x88 := bif x16 then bif x20 then bif x22 then bif x23 then x87 else x87 else x87 else x87 else x87;
let x89 := bif x16 then bif x15 then bif x18 then bif x19 then x88 else x88 else x88 else x88 else x88;
let x90 := bif x24 then bif x25 then σ.B 38 else σ.B 38 else σ.B 38;
let x91 := bif x16 then bif x20 then bif x22 then bif x23 then x90 else x90 else x90 else x90 else x90;
let x92 := bif x16 then bif x15 then bif x18 then bif x19 then x91 else x91 else x91 else x91 else x91;
let x93 := bif x24 then bif x25 then σ.B 39 else σ.B 39 else σ.B 39;
let x94 := bif x16 then bif x20 then bif x22 then bif x23 then x93 else x93 else x93 else x93 else x93;
let x95 := bif x16 then bif x15 then bif x18 then bif x19 then x94 else x94 else x94 else x94 else x94;
let x96 := bif x24 then bif x25 then σ.I 40 else σ.I 40 else σ.I 40;
let x97 := bif x16 then bif x20 then bif x22 then bif x23 then x96 else x96 else x96 else x96 else x96;
let x98 := bif x16 then bif x15 then bif x18 then bif x19 then x97 else x97 else x97 else x97 else x97;
let x99 := bif x24 then bif x25 then σ.S 41 else σ.S 41 else σ.S 41;
let x100 := bif x16 then bif x20 then bif x22 then bif x23 then x99 else x99 else x99 else x99 else x99;
let x101 := bif x16 then bif x15 then bif x18 then bif x19 then x100 else x100 else x100 else x100 else x100;
let x102 := bif x24 then bif x25 then σ.I 42 else σ.I 42 else σ.I 42;
let x103 := bif x16 then bif x20 then bif x22 then bif x23 then x102 else x102 else x102 else x102 else x102;
let x104 := bif x16 then bif x15 then bif x18 then bif x19 then x103 else x103 else x103 else x103 else x103;
let x105 := bif x24 then bif x25 then σ.B 43 else σ.B 43 else σ.B 43;
let x106 := bif x16 then bif x20 then bif x22 then bif x23 then x105 else x105 else x105 else x105 else x105;
let x107 := bif x16 then bif x15 then bif x18 then bif x19 then x106 else x106 else x106 else x106 else x106;
let x108 := rowsB (rmPre x1);
let x109 := x108.length;
let x110 := bif x16 then bif x20 then bif x22 then bif x23 then true else false else false else false else false;
let x111 := bif x16 then bif x15 then bif x18 then bif x19 then true else x110 else x110 else x110 else x110;
let x112 := rowsB (rmTail ((σ.I 34).tmod (8 : Int)) x1);
let x113 := x112.length;
let x114 := 0 = 0 ∧ [] = rowsB (sumE (ins σ 20)).number;
let x115 := rowsH (rmHoles ((σ.I 34).tmod (8 : Int)) x1);
let x116 := x115.length;
let x117 := [[Value.int IntKind.u8 (IntKind.u8.wrap (x30 + (2 : Int)))]];
let x118 := x117.length;
let x119 := decide (σ.I 24 ≥ (8 : Int));
let x120 := bif x119 then x37 else x36;
let x121 := rowsB (rmPre x2);
let x122 := x121.length;
let x123 := rowsB (rmTail ((σ.I 24).tmod (8 : Int)) x2);
let x124 := x123.length;
let x125 := rowsH (rmHoles ((σ.I 24).tmod (8 : Int)) x2);
let x126 := x125.length;
(x0 = true → (True ∧ immOk x3) ∧ True ∧ Ex.ret = Ex.ret ∧ true = true ∧ (((((((((((((((((((((((((((((((True ∧ σ.I 20 = σ.I 20) ∧ σ.I 21 = σ.I 21) ∧ σ.I 22 = σ.I 22) ∧ σ.I 23 = σ.I 23) ∧ σ.I 24 = σ.I 24) ∧ σ.I 25 = σ.I 25) ∧ σ.I 26 = σ.I 26) ∧ σ.I 27 = σ.I 27) ∧ σ.B 28 = σ.B 28) ∧ σ.B 29 = σ.B 29) ∧
    σ.I 30 = σ.I 30) ∧ σ.S 31 = σ.S 31) ∧ σ.I 32 = σ.I 32) ∧ σ.I 33 = σ.I 33) ∧ σ.I 34 = σ.I 34) ∧ σ.I 35 = σ.I 35) ∧ σ.I 36 = σ.I 36) ∧ σ.I 37 = σ.I 37) ∧ σ.B 38 = σ.B 38) ∧ σ.B 39 = σ.B 39) ∧ σ.I 40 = σ.I 40) ∧ σ.S 41 = σ.S 41) ∧ σ.I 42 = σ.I 42) ∧ σ.B 43 = σ.B 43) ∧ x6 = x6 ∧ x5 = rowsB (sumE
    (ins σ 20)).pre) ∧ x4.rex = (sumE (ins σ 20)).rex) ∧ x4.force = (sumE (ins σ 20)).force) ∧ x8 = x8 ∧ x7 = rowsB (sumE (ins σ 20)).op) ∧ x10 = x10 ∧ x9 = rowsB (sumE (ins σ 20)).tail) ∧ x12 = x12 ∧ x11 = rowsB (sumE (ins σ 20)).number) ∧ x14 = x14 ∧ x13 = rowsH (sumE (ins σ 20)).holes) ∧
    x4.inTail = (sumE (ins σ 20)).inTail) ∧ (x0 = false → ((0 : Int) ≤ σ.I 20 ∧ σ.I 20 < (36 : Int)) ∧ (x15 = true → ((True ∧ 1 = x32) ∧ (0 : Int) ≤ (σ.I 34).tmod (8 : Int) ∧ (σ.I 34).tmod (8 : Int) ≤ (7 : Int) ∧ rmOk x1 ∧ (0 : Int) ≤ x38 ∧ x38 ≤ (15 : Int)) ∧ True ∧ Ex.ret = Ex.ret ∧ true = true ∧
    (((((((((((((((((((((((((((((((True ∧ (bif x33 then x41 else x41) = σ.I 20) ∧ (bif x33 then x28 else x28) = σ.I 21) ∧ (bif x33 then x44 else x44) = σ.I 22) ∧ (bif x33 then x47 else x47) = σ.I 23) ∧ (bif x33 then x50 else x50) = σ.I 24) ∧ (bif x33 then x53 else x53) = σ.I 25) ∧ (bif x33 then x56
    else x56) = σ.I 26) ∧ (bif x33 then x59 else x59) = σ.I 27) ∧ (bif x33 then x62 else x62) = σ.B 28) ∧ (bif x33 then x65 else x65) = σ.B 29) ∧ (bif x33 then x68 else x68) = σ.I 30) ∧ (bif x33 then x71 else x71) = σ.S 31) ∧ (bif x33 then x74 else x74) = σ.I 32) ∧ (bif x33 then x77 else x77) = σ.I
    33) ∧ (bif x33 then x80 else x80) = σ.I 34) ∧ (bif x33 then x83 else x83) = σ.I 35) ∧ (bif x33 then x86 else x86) = σ.I 36) ∧ (bif x33 then x89 else x89) = σ.I 37) ∧ (bif x33 then x92 else x92) = σ.B 38) ∧ (bif x33 then x95 else x95) = σ.B 39) ∧ (bif x33 then x98 else x98) = σ.I 40) ∧ (bif x33
    then x101 else x101) = σ.S 41) ∧ (bif x33 then x104 else x104) = σ.I 42) ∧ (bif x33 then x107 else x107) = σ.B 43) ∧ x109 = x109 ∧ x108 = rowsB (sumE (ins σ 20)).pre) ∧ rexOr x38 (rmRex x1) = (sumE (ins σ 20)).rex) ∧ (bif x33 then x111 else x111) = (sumE (ins σ 20)).force) ∧ x32 = x32 ∧ x31 =
    rowsB (sumE (ins σ 20)).op) ∧ x113 = x113 ∧ x112 = rowsB (sumE (ins σ 20)).tail) ∧ x114) ∧ x116 = x116 ∧ x115 = rowsH (sumE (ins σ 20)).holes) ∧ (!(rmHoles ((σ.I 34).tmod (8 : Int)) x1).isEmpty) = (sumE (ins σ 20)).inTail) ∧ (x15 = false → ((True ∧ 1 = x118) ∧ (0 : Int) ≤ (σ.I 24).tmod (8 : Int)
    ∧ (σ.I 24).tmod (8 : Int) ≤ (7 : Int) ∧ rmOk x2 ∧ (0 : Int) ≤ x120 ∧ x120 ≤ (15 : Int)) ∧ True ∧ Ex.ret = Ex.ret ∧ true = true ∧ (((((((((((((((((((((((((((((((True ∧ (bif x119 then x41 else x41) = σ.I 20) ∧ (bif x119 then x28 else x28) = σ.I 21) ∧ (bif x119 then x44 else x44) = σ.I 22) ∧ (bif
    x119 then x47 else x47) = σ.I 23) ∧ (bif x119 then x50 else x50) = σ.I 24) ∧ (bif x119 then x53 else x53) = σ.I 25) ∧ (bif x119 then x56 else x56) = σ.I 26) ∧ (bif x119 then x59 else x59) = σ.I 27) ∧ (bif x119 then x62 else x62) = σ.B 28) ∧ (bif x119 then x65 else x65) = σ.B 29) ∧ (bif x119 then
    x68 else x68) = σ.I 30) ∧ (bif x119 then x71 else x71) = σ.S 31) ∧ (bif x119 then x74 else x74) = σ.I 32) ∧ (bif x119 then x77 else x77) = σ.I 33) ∧ (bif x119 then x80 else x80) = σ.I 34) ∧ (bif x119 then x83 else x83) = σ.I 35) ∧ (bif x119 then x86 else x86) = σ.I 36) ∧ (bif x119 then x89 else
    x89) = σ.I 37) ∧ (bif x119 then x92 else x92) = σ.B 38) ∧ (bif x119 then x95 else x95) = σ.B 39) ∧ (bif x119 then x98 else x98) = σ.I 40) ∧ (bif x119 then x101 else x101) = σ.S 41) ∧ (bif x119 then x104 else x104) = σ.I 42) ∧ (bif x119 then x107 else x107) = σ.B 43) ∧ x122 = x122 ∧ x121 = rowsB
    (sumE (ins σ 20)).pre) ∧ rexOr x120 (rmRex x2) = (sumE (ins σ 20)).rex) ∧ (bif x119 then x111 else x111) = (sumE (ins σ 20)).force) ∧ x118 = x118 ∧ x117 = rowsB (sumE (ins σ 20)).op) ∧ x124 = x124 ∧ x123 = rowsB (sumE (ins σ 20)).tail) ∧ x114) ∧ x126 = x126 ∧ x125 = rowsH (sumE (ins σ
    20)).holes) ∧ (!(rmHoles ((σ.I 24).tmod (8 : Int)) x2).isEmpty) = (sumE (ins σ 20)).inTail))) := by kernel_rfl

end Go.Proofs.YthmighgfefjcmaaGreat.Enc
end

section
/- Sums: shown. No condition. -/
set_option maxRecDepth 100000
namespace Go.Proofs.YthmighgfefjcmaaGreat.Enc
open Go.RowKit Go.Proofs.YthmighgfefjcmaaGreat.X Go.IntWalk

theorem code_cases {P : Int → Prop} (op : Int) (h : op = 1 ∨ op = 11 ∨ op = 31 ∨ (3 ≤ op ∧ op ≤ 10)) (h1 : P 1) (h2 : P 11) (h3 : P 31) (h4 : P 3) (h5 : P 4) (h6 : P 5) (h7 : P 6) (h8 : P 7) (h9 : P 8) (h10 : P 9) (h11 : P 10) : P op := by
  have : op = 1 ∨ op = 11 ∨ op = 31 ∨ op = 3 ∨ op = 4 ∨ op = 5 ∨ op = 6 ∨ op = 7 ∨ op = 8 ∨ op = 9 ∨ op = 10 := by omega
  rcases this with rfl | rfl | rfl | rfl | rfl | rfl | rfl | rfl | rfl | rfl | rfl <;> assumption
def wideL : List Bool := [false, true, false, true, true, true, true, true, true, true, true, true, false, false, false, false, false, false, false, false, false, false, false, false, false, false, false, false, false, false, false, true, false, false, false, false]
def zerosL : List Int := [0, 0, 0, 0, 0, 0, 0, 0, 0, 0, 0, 0, 0, 0, 0, 0, 0, 0, 0, 135, 0, 0, 0, 0]
theorem wide_eq (op : Int) (h : op = 1 ∨ op = 11 ∨ op = 31 ∨ (3 ≤ op ∧ op ≤ 10)) : wideL.getD op.toNat false = true := by
  refine code_cases (P := fun op => wideL.getD op.toNat false = true) op h ?_ ?_ ?_ ?_ ?_ ?_ ?_ ?_ ?_ ?_ ?_ <;> rfl
theorem small_eq (op : Int) (h : op = 1 ∨ op = 11 ∨ op = 31 ∨ (3 ≤ op ∧ op ≤ 10)) : (0 :: 136 :: 0 :: 0 :: 8 :: 16 :: 24 :: 32 :: 40 :: 48 :: 56 :: 132 :: zerosL).getD op.toNat 0 = codeS op := by
  refine code_cases (P := fun op => (0 :: 136 :: 0 :: 0 :: 8 :: 16 :: 24 :: 32 :: 40 :: 48 :: 56 :: 132 :: zerosL).getD op.toNat 0 = codeS op) op h ?_ ?_ ?_ ?_ ?_ ?_ ?_ ?_ ?_ ?_ ?_ <;> rfl
theorem great_eq (op : Int) (h : op = 1 ∨ op = 11 ∨ op = 31 ∨ (3 ≤ op ∧ op ≤ 10)) : (0 :: 137 :: 0 :: 1 :: 9 :: 17 :: 25 :: 33 :: 41 :: 49 :: 57 :: 133 :: zerosL).getD op.toNat 0 = codeG op := by
  refine code_cases (P := fun op => (0 :: 137 :: 0 :: 1 :: 9 :: 17 :: 25 :: 33 :: 41 :: 49 :: 57 :: 133 :: zerosL).getD op.toNat 0 = codeG op) op h ?_ ?_ ?_ ?_ ?_ ?_ ?_ ?_ ?_ ?_ ?_ <;> rfl
theorem code_le (op : Int) (h : op = 1 ∨ op = 11 ∨ op = 31 ∨ (3 ≤ op ∧ op ≤ 10)) : 0 ≤ codeS op ∧ codeS op ≤ 200 ∧ 0 ≤ codeG op ∧ codeG op ≤ 200 := by
  refine code_cases (P := fun op => 0 ≤ codeS op ∧ codeS op ≤ 200 ∧ 0 ≤ codeG op ∧ codeG op ≤ 200) op h ?_ ?_ ?_ ?_ ?_ ?_ ?_ ?_ ?_ ?_ ?_ <;> decide
theorem rexWR (s r : Int) : (bif decide (r ≥ 8) then IntKind.i64.wrap (((BitVec.ofInt 64 (bif s == 8 then 8 else 0) ||| BitVec.ofInt 64 4).toNat : Nat) : Int) else (bif s == 8 then 8 else 0)) = rexW s + rexR r := by
  unfold rexW rexR
  cases s == 8 <;> cases decide (r ≥ 8) <;> rfl
theorem rexWR_le (s r : Int) : 0 ≤ rexW s + rexR r ∧ rexW s + rexR r ≤ 15 := by
  unfold rexW rexR
  cases s == 8 <;> cases decide (r ≥ 8) <;> decide

theorem force_eq (a b c d e f g : Bool) : (bif a then bif b then bif c then bif d then true else (bif a then bif e then bif f then bif g then true else false else false else false else false) else (bif a then bif e then bif f then bif g then true else false else false else false else false) else (bif a then bif e then bif f then bif g then true else false else false else false else false) else (bif a then bif e then bif f then bif g then true else false else false else false else false)) = ((bif a then bif e then bif f then bif g then true else false else false else false else false) || (bif a then bif b then bif c then bif d then true else false else false else false else false)) := by
  cases a <;> cases b <;> cases c <;> cases d <;> cases e <;> cases f <;> cases g <;> rfl
theorem szOp_le (s op : Int) (h : op = 1 ∨ op = 11 ∨ op = 31 ∨ (3 ≤ op ∧ op ≤ 10)) : 0 ≤ szOp s (codeS op) (codeG op) ∧ szOp s (codeS op) (codeG op) ≤ 200 := by
  obtain ⟨h1, h2, h3, h4⟩ := code_le op h
  unfold szOp
  cases s == 1
  · exact ⟨h3, h4⟩
  · exact ⟨h1, h2⟩

set_option maxHeartbeats 4000000 in
theorem good_sum : Lib.Good Tryz.prog Lsum := lib_con good_imm Tryz.func12 cSum 3000 fun σ α hp => by
  have hop : σ.I 20 = 1 ∨ σ.I 20 = 11 ∨ σ.I 20 = 31 ∨ (3 ≤ σ.I 20 ∧ σ.I 20 ≤ 10) := hp.1
  have hrest : (bif isI (ins σ 20).src then immOk (ins σ 20) else bif isR (ins σ 20).src then 0 ≤ σ.I 34 ∧ σ.I 34 ≤ 15 ∧ rmOk (opd σ 23) else 0 ≤ σ.I 24 ∧ σ.I 24 ≤ 15 ∧ rmOk (opd σ 33)) := hp.2.2
  clear hp
  have hw : [false, true, false, true, true, true, true, true, true, true, true, true, false, false, false, false, false, false, false, false, false, false, false, false, false, false, false, false, false, false, false, true, false, false, false, false].getD (σ.I 20).toNat false = true := wide_eq _ hop
  have hs : (0 :: 136 :: 0 :: 0 :: 8 :: 16 :: 24 :: 32 :: 40 :: 48 :: 56 :: 132 :: [0, 0, 0, 0, 0, 0, 0, 0, 0, 0, 0, 0, 0, 0, 0, 0, 0, 0, 0, 135, 0, 0, 0, 0]).getD (σ.I 20).toNat 0 = codeS (σ.I 20) := small_eq _ hop
  have hg : (0 :: 137 :: 0 :: 1 :: 9 :: 17 :: 25 :: 33 :: 41 :: 49 :: 57 :: 133 :: [0, 0, 0, 0, 0, 0, 0, 0, 0, 0, 0, 0, 0, 0, 0, 0, 0, 0, 0, 135, 0, 0, 0, 0]).getD (σ.I 20).toNat 0 = codeG (σ.I 20) := great_eq _ hop
  rw [sum_goal]
  simp only [hw, hs, hg, cond_true, bsame, rexWR]
  refine ⟨fun h => ?_, fun h => ⟨by omega, fun h1 => ?_, fun h1 => ?_⟩⟩
  · have hI : isI (ins σ 20).src = true := h
    have e : sumE (ins σ 20) = immE (ins σ 20) := by unfold sumE; rw [hI]; rfl
    have q : immOk (ins σ 20) := by rw [hI] at hrest; exact hrest
    rw [e]
    refine ⟨⟨trivial, q⟩, ?_⟩
    and_intros
    all_goals first | assumption | exact True.intro | exact Eq.refl _
  · have hI : isI (ins σ 20).src = false := h
    have hR : isR (ins σ 20).src = true := h1
    rw [hI, hR] at hrest
    obtain ⟨r0, r1, r2⟩ := hrest
    have e : sumE (ins σ 20) = regE (σ.I 34) (opd σ 23) (σ.I 21) (lowF (opd σ 23) (σ.I 21) || lowF (opd σ 33) (σ.I 21)) [szOp (σ.I 21) (codeS (σ.I 20)) (codeG (σ.I 20))] := by unfold sumE; rw [hI, hR]; rfl
    rw [e]
    and_intros
    all_goals first | assumption | exact True.intro | exact Eq.refl _ | exact (rexWR_le _ _).1 | exact (rexWR_le _ _).2 | (rw [tmod8 _ r0]; omega) | exact force_eq _ _ _ _ _ _ _
  · have hI : isI (ins σ 20).src = false := h
    have hR : isR (ins σ 20).src = false := h1
    rw [hI, hR] at hrest
    obtain ⟨r0, r1, r2⟩ := hrest
    have e : sumE (ins σ 20) = regE (σ.I 24) (opd σ 33) (σ.I 21) (lowF (opd σ 23) (σ.I 21) || lowF (opd σ 33) (σ.I 21)) [szOp (σ.I 21) (codeS (σ.I 20)) (codeG (σ.I 20)) + 2] := by unfold sumE; rw [hI, hR]; rfl
    have q := szOp_le (σ.I 21) _ hop
    have hb : [[Value.int .u8 (IntKind.u8.wrap ((bif σ.I 21 == 1 then codeS (σ.I 20) else codeG (σ.I 20)) + 2))]] = rowsB [szOp (σ.I 21) (codeS (σ.I 20)) (codeG (σ.I 20)) + 2] := by
      show [[Value.int .u8 (IntKind.u8.wrap (szOp (σ.I 21) (codeS (σ.I 20)) (codeG (σ.I 20)) + 2))]] = _
      rw [u8_in _ (by omega)]; rfl
    rw [e]
    and_intros
    all_goals first | assumption | exact True.intro | exact Eq.refl _ | exact (rexWR_le _ _).1 | exact (rexWR_le _ _).2 | (rw [tmod8 _ r0]; omega) | exact force_eq _ _ _ _ _ _ _ | exact hb
end Go.Proofs.YthmighgfefjcmaaGreat.Enc
end

section
/- Ops with one way: shown. No condition. -/
set_option maxRecDepth 100000
namespace Go.Proofs.YthmighgfefjcmaaGreat.Enc
open Go.RowKit Go.Proofs.YthmighgfefjcmaaGreat.X Go.IntWalk

set_option maxHeartbeats 8000000 in
theorem good_ot (hg : Lib.Good Tryz.prog Lj) : Lib.Good Tryz.prog Lot := lib_con hg Tryz.func11 cOt 3000 fun σ α hp => by
  have c0 : 0 ≤ σ.I 22 := hp.1
  have c1 : σ.I 22 ≤ 15 := hp.2.1
  have hA : (σ.I 20 = 2 ∨ σ.I 20 = 12 ∨ σ.I 20 = 28 ∨ σ.I 20 = 29 ∨ σ.I 20 = 30) → 0 ≤ σ.I 24 ∧ σ.I 24 ≤ 15 ∧ rmOk (opd σ 33) := hp.2.2.1
  have hB : (σ.I 20 = 14 ∨ σ.I 20 = 13 ∨ σ.I 20 = 15 ∨ σ.I 20 = 16 ∨ σ.I 20 = 27) → rmOk (opd σ 23) := hp.2.2.2
  clear hp
  have w64 : IntKind.u8.wrap (IntKind.i64.wrap (64 + σ.I 22)) = 64 + σ.I 22 := by rw [i64_in _ (by omega), u8_in _ (by omega)]
  have w144 : IntKind.u8.wrap (IntKind.i64.wrap (144 + σ.I 22)) = 144 + σ.I 22 := by rw [i64_in _ (by omega), u8_in _ (by omega)]
  rw [ot_goal]
  simp only [bsame, rexWR]
  refine ⟨fun h2 => ?_, fun h2 => ?_⟩
  · have hk : σ.I 20 = 2 := eq_of_beq h2
    obtain ⟨r0, r1, r2⟩ := hA (by omega)
    have tm : 0 ≤ (σ.I 24).tmod 8 ∧ (σ.I 24).tmod 8 ≤ 7 := by rw [tmod8 _ r0]; omega
    have e : otE (ins σ 20) = regE (σ.I 24) (opd σ 33) (σ.I 21) (false) [141] := by unfold otE; rw [show (ins σ 20).op = 2 from hk]; rfl
    and_intros
    all_goals first | assumption | exact True.intro | exact Eq.refl _ | exact (rexWR_le _ _).1 | exact (rexWR_le _ _).2 | exact tm.1 | exact tm.2 | (rw [e]; first | done | rfl) | decide
  refine ⟨fun h12 => ?_, fun h12 => ?_⟩
  · have hk : σ.I 20 = 12 := eq_of_beq h12
    obtain ⟨r0, r1, r2⟩ := hA (by omega)
    have tm : 0 ≤ (σ.I 24).tmod 8 ∧ (σ.I 24).tmod 8 ≤ 7 := by rw [tmod8 _ r0]; omega
    have e : otE (ins σ 20) = regE (σ.I 24) (opd σ 33) (σ.I 21) (false) [15, 175] := by unfold otE; rw [show (ins σ 20).op = 12 from hk]; rfl
    and_intros
    all_goals first | assumption | exact True.intro | exact Eq.refl _ | exact (rexWR_le _ _).1 | exact (rexWR_le _ _).2 | exact tm.1 | exact tm.2 | (rw [e]; first | done | rfl) | decide
  refine ⟨fun h28 => ?_, fun h28 => ?_⟩
  · have hk : σ.I 20 = 28 := eq_of_beq h28
    obtain ⟨r0, r1, r2⟩ := hA (by omega)
    have tm : 0 ≤ (σ.I 24).tmod 8 ∧ (σ.I 24).tmod 8 ≤ 7 := by rw [tmod8 _ r0]; omega
    have e : otE (ins σ 20) = regE (σ.I 24) (opd σ 33) (σ.I 21) (false) [15, 64 + σ.I 22] := by unfold otE; rw [show (ins σ 20).op = 28 from hk]; rfl
    and_intros
    all_goals first | assumption | exact True.intro | exact Eq.refl _ | exact (rexWR_le _ _).1 | exact (rexWR_le _ _).2 | exact tm.1 | exact tm.2 | (rw [e]; first | done | rfl) | (rw [e, w64]; rfl) | decide
  refine ⟨fun h29 => ?_, fun h29 => ?_⟩
  · have hk : σ.I 20 = 29 := eq_of_beq h29
    obtain ⟨r0, r1, r2⟩ := hA (by omega)
    have tm : 0 ≤ (σ.I 24).tmod 8 ∧ (σ.I 24).tmod 8 ≤ 7 := by rw [tmod8 _ r0]; omega
    have e : otE (ins σ 20) = regE (σ.I 24) (opd σ 33) (σ.I 21) (lowF (opd σ 33) 1) [15, 182] := by unfold otE; rw [show (ins σ 20).op = 29 from hk]; rfl
    and_intros
    all_goals first | assumption | exact True.intro | exact Eq.refl _ | exact (rexWR_le _ _).1 | exact (rexWR_le _ _).2 | exact tm.1 | exact tm.2 | (rw [e]; first | done | rfl) | decide
  refine ⟨fun h30 => ?_, fun h30 => ?_⟩
  · have hk : σ.I 20 = 30 := eq_of_beq h30
    obtain ⟨r0, r1, r2⟩ := hA (by omega)
    have tm : 0 ≤ (σ.I 24).tmod 8 ∧ (σ.I 24).tmod 8 ≤ 7 := by rw [tmod8 _ r0]; omega
    have e : otE (ins σ 20) = regE (σ.I 24) (opd σ 33) (σ.I 21) (lowF (opd σ 33) 1) [15, 190] := by unfold otE; rw [show (ins σ 20).op = 30 from hk]; rfl
    and_intros
    all_goals first | assumption | exact True.intro | exact Eq.refl _ | exact (rexWR_le _ _).1 | exact (rexWR_le _ _).2 | exact tm.1 | exact tm.2 | (rw [e]; first | done | rfl) | decide
  refine ⟨fun h14 => ?_, fun h14 => ?_⟩
  · have hk : σ.I 20 = 14 := eq_of_beq h14
    have r2 := hB (by omega)
    have e : otE (ins σ 20) = groupE (opd σ 23) (σ.I 21) 246 247 2 [] := by unfold otE; rw [show (ins σ 20).op = 14 from hk]; rfl
    and_intros
    all_goals first | assumption | exact True.intro | exact Eq.refl _ | (rw [e]; first | done | rfl) | decide
  refine ⟨fun h13 => ?_, fun h13 => ?_⟩
  · have hk : σ.I 20 = 13 := eq_of_beq h13
    have r2 := hB (by omega)
    have e : otE (ins σ 20) = groupE (opd σ 23) (σ.I 21) 246 247 3 [] := by unfold otE; rw [show (ins σ 20).op = 13 from hk]; rfl
    and_intros
    all_goals first | assumption | exact True.intro | exact Eq.refl _ | (rw [e]; first | done | rfl) | decide
  refine ⟨fun h15 => ?_, fun h15 => ?_⟩
  · have hk : σ.I 20 = 15 := eq_of_beq h15
    have r2 := hB (by omega)
    have e : otE (ins σ 20) = groupE (opd σ 23) (σ.I 21) 254 255 0 [] := by unfold otE; rw [show (ins σ 20).op = 15 from hk]; rfl
    and_intros
    all_goals first | assumption | exact True.intro | exact Eq.refl _ | (rw [e]; first | done | rfl) | decide
  refine ⟨fun h16 => ?_, fun h16 => ?_⟩
  · have hk : σ.I 20 = 16 := eq_of_beq h16
    have r2 := hB (by omega)
    have e : otE (ins σ 20) = groupE (opd σ 23) (σ.I 21) 254 255 1 [] := by unfold otE; rw [show (ins σ 20).op = 16 from hk]; rfl
    and_intros
    all_goals first | assumption | exact True.intro | exact Eq.refl _ | (rw [e]; first | done | rfl) | decide
  refine ⟨fun h27 => ?_, fun h27 => ?_⟩
  · have hk : σ.I 20 = 27 := eq_of_beq h27
    have r2 := hB (by omega)
    have e : otE (ins σ 20) = rmE (opd σ 23) 0 (lowF (opd σ 23) 1) [15, 144 + σ.I 22] := by unfold otE; rw [show (ins σ 20).op = 27 from hk]; rfl
    and_intros
    all_goals first | assumption | exact True.intro | exact Eq.refl _ | (rw [e]; first | done | rfl) | (rw [e, w144]; rfl) | decide
  refine ⟨fun h25 => ?_, fun h25 => ?_⟩
  · have hk : σ.I 20 = 25 := eq_of_beq h25
    have e : otE (ins σ 20) = { op := [195] } := by unfold otE; rw [show (ins σ 20).op = 25 from hk]; rfl
    and_intros
    all_goals first | assumption | exact True.intro | exact Eq.refl _ | (rw [e]; first | done | rfl) | decide
  refine ⟨fun h26 => ?_, fun h26 => ?_⟩
  · have hk : σ.I 20 = 26 := eq_of_beq h26
    have e : otE (ins σ 20) = { op := [201] } := by unfold otE; rw [show (ins σ 20).op = 26 from hk]; rfl
    and_intros
    all_goals first | assumption | exact True.intro | exact Eq.refl _ | (rw [e]; first | done | rfl) | decide
  refine ⟨fun h33 => ?_, fun h33 => ?_⟩
  · have hk : σ.I 20 = 33 := eq_of_beq h33
    have e : otE (ins σ 20) = { op := [144] } := by unfold otE; rw [show (ins σ 20).op = 33 from hk]; rfl
    and_intros
    all_goals first | assumption | exact True.intro | exact Eq.refl _ | (rw [e]; first | done | rfl) | decide
  refine ⟨fun h32 => ?_, fun h32 => ?_⟩
  · have hk : σ.I 20 = 32 := eq_of_beq h32
    have e : otE (ins σ 20) = { op := [72, 153] } := by unfold otE; rw [show (ins σ 20).op = 32 from hk]; rfl
    and_intros
    all_goals first | assumption | exact True.intro | exact Eq.refl _ | (rw [e]; first | done | rfl) | decide
  refine ⟨fun h34 => ?_, fun h34 => ?_⟩
  · have hk : σ.I 20 = 34 := eq_of_beq h34
    have e : otE (ins σ 20) = { op := [15, 11] } := by unfold otE; rw [show (ins σ 20).op = 34 from hk]; rfl
    and_intros
    all_goals first | assumption | exact True.intro | exact Eq.refl _ | (rw [e]; first | done | rfl) | decide
  refine ⟨fun h35 => ?_, fun h35 => ?_⟩
  · have hk : σ.I 20 = 35 := eq_of_beq h35
    have e : otE (ins σ 20) = { op := [15, 5] } := by unfold otE; rw [show (ins σ 20).op = 35 from hk]; rfl
    and_intros
    all_goals first | assumption | exact True.intro | exact Eq.refl _ | (rw [e]; first | done | rfl) | decide
  have e : otE (ins σ 20) = {} := by
    unfold otE
    rw [show ((ins σ 20).op == 2) = false from h2, cond_false]
    rw [show ((ins σ 20).op == 12) = false from h12, cond_false]
    rw [show ((ins σ 20).op == 28) = false from h28, cond_false]
    rw [show ((ins σ 20).op == 29) = false from h29, cond_false]
    rw [show ((ins σ 20).op == 30) = false from h30, cond_false]
    rw [show ((ins σ 20).op == 14) = false from h14, cond_false]
    rw [show ((ins σ 20).op == 13) = false from h13, cond_false]
    rw [show ((ins σ 20).op == 15) = false from h15, cond_false]
    rw [show ((ins σ 20).op == 16) = false from h16, cond_false]
    rw [show ((ins σ 20).op == 27) = false from h27, cond_false]
    rw [show ((ins σ 20).op == 25) = false from h25, cond_false]
    rw [show ((ins σ 20).op == 26) = false from h26, cond_false]
    rw [show ((ins σ 20).op == 33) = false from h33, cond_false]
    rw [show ((ins σ 20).op == 32) = false from h32, cond_false]
    rw [show ((ins σ 20).op == 34) = false from h34, cond_false]
    rw [show ((ins σ 20).op == 35) = false from h35, cond_false]
  and_intros
  all_goals first | assumption | exact True.intro | exact Eq.refl _ | (rw [e]; first | done | rfl) | decide
end Go.Proofs.YthmighgfefjcmaaGreat.Enc
end

section
/- All, one behind the other: the spec, and contracts. No condition. -/
namespace Go.Proofs.YthmighgfefjcmaaGreat.Enc
open Go.RowKit Go.Proofs.YthmighgfefjcmaaGreat.X

noncomputable def bFin : Code := loopAt Tryz.prog 11 "encode.go:157"
/-- One hole, moved: behind at; n bytes in all. -/
def relT (t : Int) : Bool := bif t == 2 then t == 2 else bif t == 9 then t == 9 else t == 22
def movH (inTail : Bool) (at_ n : Int) (h : Hol) : Hol :=
  { h with at_ := h.at_ + at_, add := bif relT h.type then (bif inTail then IntKind.i64.wrap (h.add - (n - (h.at_ + at_))) else h.add) else h.add }
def holR (r : List Value) : Hol := ⟨asI (r.getD 0 undef), asI (r.getD 1 undef), asI (r.getD 2 undef), asS (r.getD 3 undef), asI (r.getD 4 undef)⟩
/-- Rows from i on moved. -/
def movRs (inTail : Bool) (at_ n : Int) (i : Nat) (xs : List (List Value)) : List (List Value) := xs.take i ++ rowsH ((xs.drop i).map fun r => movH inTail at_ n (holR r))
def finPre (at_ n i : Int) (hs b : List (List Value)) : Prop := n = hs.length ∧ 0 ≤ i ∧ i ≤ hs.length ∧ 0 ≤ at_ ∧ at_ ≤ 100 ∧ b.length ≤ 100 ∧ ∃ l : List Hol, hs = rowsH l ∧ l.length ≤ 1 ∧ (i = 0 → ∀ h ∈ l, 0 ≤ h.at_ ∧ h.at_ ≤ 100)
def cFinL : Con where
  ps := [.p 0 0, .r 24 5 byteK, .i .i64 5, .i .i64 64, .i .i64 65]
  bl := [(0, 42, instP 70 ++ [.r 4 5 byteK, .i .i64 95, .b 96, .r 8 5 byteK, .r 12 5 byteK, .r 16 5 byteK, .r 20 54 holeK, .b 97])]
  top := 28
  pre := fun σ => finPre (σ.I 5) (σ.I 64) (σ.I 65) (σ.R 20) (σ.R 24)
  post := fun σ => .leaf (.exit 0) [(0, .p 0 0), (4, .k 24 (σ.R 24).length), (5, .gi .i64 (σ.I 5)), (64, .gi .i64 (σ.I 64))] [(0, [(30, .gr 28 54 holeK (movRs (σ.B 97) (σ.I 5) (σ.R 24).length (σ.I 65).toNat (σ.R 20)))])] [20]
noncomputable def lFin : LCon := { c := cFinL, sl := [0, 4, 5, 64, 65], nt := Tryz.f16.ntmps, hv := nubN (writes bFin) [], meas := fun σ => (σ.I 64 - σ.I 65).toNat, mvr := [20], mvc := [(0, [30])] }
noncomputable def Lfin1 : Lib := { Lot with ls := (11, "encode.go:157", lFin) :: Lot.ls }
end Go.Proofs.YthmighgfefjcmaaGreat.Enc
end

section
/- Written by vc.py: what is to be shown, read out. No condition. -/
set_option maxRecDepth 1000000
set_option maxHeartbeats 0
namespace Go.Proofs.YthmighgfefjcmaaGreat.Enc
open Go.RowKit Go.Proofs.YthmighgfefjcmaaGreat.X
theorem fin_round (σ : Dt) (α : At') (rest : Nat → Value) : (lFin.goal Tryz.prog Lot.mk' 2000 bFin σ α rest) = (
let x0 := decide (σ.I 65 < σ.I 64);
let x1 := (σ.I 65).toNat < (σ.R 20).length;
let x2 := (σ.R 20).set (σ.I 65).toNat (setRow ((σ.R 20).getD (σ.I 65).toNat []) 0 [Value.int IntKind.i64 (IntKind.i64.wrap (asI (((σ.R 20).getD (σ.I 65).toNat []).getD 0 (Value.tuple #[])) + σ.I 5))]);
let x3 := (σ.I 65).toNat < x2.length;
let x4 := asI ((x2.getD (σ.I 65).toNat []).getD 2 (Value.tuple #[]));
let x5 := x4 == (2 : Int);
let x6 := x4 == (9 : Int);
let x7 := bif x5 then x5 else bif x6 then x6 else x4 == (22 : Int);
let x8 := (σ.R 24).length = (σ.R 24).length;
let x9 := True ∧ x8;
let x10 := (σ.R 4).length = (σ.R 4).length;
let x11 := (σ.R 8).length = (σ.R 8).length;
let x12 := (σ.R 12).length = (σ.R 12).length;
let x13 := (σ.R 16).length = (σ.R 16).length;
let x14 := bif x7 then bif σ.B 97 then x2.set (σ.I 65).toNat (setRow (x2.getD (σ.I 65).toNat []) 4 [Value.int IntKind.i64 (IntKind.i64.wrap (asI ((x2.getD (σ.I 65).toNat []).getD 4 (Value.tuple #[])) - IntKind.i64.wrap ((↑(σ.R 24).length : Int) - asI ((x2.getD (σ.I 65).toNat []).getD 0 (Value.tuple
    #[])))))]) else x2 else x2;
let x15 := IntKind.i64.wrap (σ.I 65 + (1 : Int));
let x16 := movRs (σ.B 97) (σ.I 5) (↑(σ.R 24).length : Int) (σ.I 65).toNat (σ.R 20);
true = true ∧ (x0 = true → ((0 : Int) ≤ σ.I 65 ∧ σ.I 65 < (↑(σ.R 20).length : Int) ∧ (σ.R 20).length ≤ (σ.R 20).length) ∧ x1 ∧ x1 ∧ x3 ∧ (x7 = true → σ.B 97 = true → x3 ∧ x3 ∧ x3) ∧ true = true ∧ true = true ∧ (((((x9 ∧ x10) ∧ x11) ∧ x12) ∧ x13) ∧ (σ.R 20).length = x14.length) ∧ finPre (σ.I 5) (σ.I
    64) x15 x14 (σ.R 24) ∧ (σ.I 64 - x15).toNat < (σ.I 64 - σ.I 65).toNat ∧ Po.leaf (Ex.exit 0) [(0, Pt.p 0 0), (4, Pt.k 24 (σ.R 24).length), (5, Pt.gi IntKind.i64 (σ.I 5)), (64, Pt.gi IntKind.i64 (σ.I 64))] [(0, [(30, Pt.gr 28 (54 : TypeId) [PK.int IntKind.i64, PK.int IntKind.i64, PK.int
    IntKind.i64, PK.str, PK.int IntKind.i64] (movRs (σ.B 97) (σ.I 5) (↑(σ.R 24).length : Int) x15.toNat x14))])] [20] = Po.leaf (Ex.exit 0) [(0, Pt.p 0 0), (4, Pt.k 24 (σ.R 24).length), (5, Pt.gi IntKind.i64 (σ.I 5)), (64, Pt.gi IntKind.i64 (σ.I 64))] [(0, [(30, Pt.gr 28 (54 : TypeId) [PK.int
    IntKind.i64, PK.int IntKind.i64, PK.int IntKind.i64, PK.str, PK.int IntKind.i64] x16)])] [20] ∧ asSt ([[Pt.gi IntKind.i64 (σ.I 70), Pt.gi IntKind.i64 (σ.I 71), Pt.gi IntKind.i64 (σ.I 72), Pt.gi IntKind.i64 (σ.I 73), Pt.gi IntKind.i64 (σ.I 74), Pt.gi IntKind.i64 (σ.I 75), Pt.gi IntKind.i64 (σ.I
    76), Pt.gi IntKind.i64 (σ.I 77), Pt.gb (σ.B 78), Pt.gb (σ.B 79), Pt.gi IntKind.i64 (σ.I 80), Pt.gs (σ.S 81), Pt.gi IntKind.i64 (σ.I 82), Pt.gi IntKind.i64 (σ.I 83), Pt.gi IntKind.i64 (σ.I 84), Pt.gi IntKind.i64 (σ.I 85), Pt.gi IntKind.i64 (σ.I 86), Pt.gi IntKind.i64 (σ.I 87), Pt.gb (σ.B 88),
    Pt.gb (σ.B 89), Pt.gi IntKind.i64 (σ.I 90), Pt.gs (σ.S 91), Pt.gi IntKind.i64 (σ.I 92), Pt.gb (σ.B 93), Pt.k 4 (σ.R 4).length, Pt.gi IntKind.i64 (σ.I 95), Pt.gb (σ.B 96), Pt.k 8 (σ.R 8).length, Pt.k 12 (σ.R 12).length, Pt.k 16 (σ.R 16).length, Pt.gb (σ.B 97)]], [(24, (5 : TypeId), [PK.int
    IntKind.u8], σ.R 24), (4, (5 : TypeId), [PK.int IntKind.u8], σ.R 4), (8, (5 : TypeId), [PK.int IntKind.u8], σ.R 8), (12, (5 : TypeId), [PK.int IntKind.u8], σ.R 12), (16, (5 : TypeId), [PK.int IntKind.u8], σ.R 16)]) = ([[Pt.gi IntKind.i64 (σ.I 70), Pt.gi IntKind.i64 (σ.I 71), Pt.gi IntKind.i64
    (σ.I 72), Pt.gi IntKind.i64 (σ.I 73), Pt.gi IntKind.i64 (σ.I 74), Pt.gi IntKind.i64 (σ.I 75), Pt.gi IntKind.i64 (σ.I 76), Pt.gi IntKind.i64 (σ.I 77), Pt.gb (σ.B 78), Pt.gb (σ.B 79), Pt.gi IntKind.i64 (σ.I 80), Pt.gs (σ.S 81), Pt.gi IntKind.i64 (σ.I 82), Pt.gi IntKind.i64 (σ.I 83), Pt.gi
    IntKind.i64 (σ.I 84), Pt.gi IntKind.i64 (σ.I 85), Pt.gi IntKind.i64 (σ.I 86), Pt.gi IntKind.i64 (σ.I 87), Pt.gb (σ.B 88), Pt.gb (σ.B 89), Pt.gi IntKind.i64 (σ.I 90), Pt.gs (σ.S 91), Pt.gi IntKind.i64 (σ.I 92), Pt.gb (σ.B 93), Pt.k 4 (σ.R 4).length, Pt.gi IntKind.i64 (σ.I 95), Pt.gb (σ.B 96),
    Pt.k 8 (σ.R 8).length, Pt.k 12 (σ.R 12).length, Pt.k 16 (σ.R 16).length, Pt.gb (σ.B 97)]], [(24, (5 : TypeId), [PK.int IntKind.u8], σ.R 24), (4, (5 : TypeId), [PK.int IntKind.u8], σ.R 4), (8, (5 : TypeId), [PK.int IntKind.u8], σ.R 8), (12, (5 : TypeId), [PK.int IntKind.u8], σ.R 12), (16, (5 :
    TypeId), [PK.int IntKind.u8], σ.R 16)])) ∧ (x0 = false → true = true ∧ Ex.exit 0 = Ex.exit 0 ∧ true = true ∧ ((((((((((((((((((((((((((((((((((((((x9 ∧ σ.I 5 = σ.I 5) ∧ σ.I 64 = σ.I 64) ∧ x8 ∧ σ.R 24 = σ.R 24) ∧ x10 ∧ σ.R 4 = σ.R 4) ∧ x11 ∧ σ.R 8 = σ.R 8) ∧ x12 ∧ σ.R 12 = σ.R 12) ∧ x13 ∧ σ.R 16
    = σ.R 16) ∧ σ.I 70 = σ.I 70) ∧ σ.I 71 = σ.I 71) ∧ σ.I 72 = σ.I 72) ∧ σ.I 73 = σ.I 73) ∧ σ.I 74 = σ.I 74) ∧ σ.I 75 = σ.I 75) ∧ σ.I 76 = σ.I 76) ∧ σ.I 77 = σ.I 77) ∧ σ.B 78 = σ.B 78) ∧ σ.B 79 = σ.B 79) ∧ σ.I 80 = σ.I 80) ∧ σ.S 81 = σ.S 81) ∧ σ.I 82 = σ.I 82) ∧ σ.I 83 = σ.I 83) ∧ σ.I 84 = σ.I 84) ∧
    σ.I 85 = σ.I 85) ∧ σ.I 86 = σ.I 86) ∧ σ.I 87 = σ.I 87) ∧ σ.B 88 = σ.B 88) ∧ σ.B 89 = σ.B 89) ∧ σ.I 90 = σ.I 90) ∧ σ.S 91 = σ.S 91) ∧ σ.I 92 = σ.I 92) ∧ σ.B 93 = σ.B 93) ∧ x10) ∧ σ.I 95 = σ.I 95) ∧ σ.B 96 = σ.B 96) ∧ x11) ∧ x12) ∧ x13) ∧ (σ.R 20).length = (σ.R 20).length ∧ σ.R 20 = x16) ∧ σ.B 97
    = σ.B 97)) := by kernel_rfl

end Go.Proofs.YthmighgfefjcmaaGreat.Enc
end

section
/- The loop over holes: shown. No condition. -/
set_option maxRecDepth 100000
namespace Go.Proofs.YthmighgfefjcmaaGreat.Enc
open Go.RowKit Go.Proofs.YthmighgfefjcmaaGreat.X Go.IntWalk

set_option maxHeartbeats 4000000 in
theorem good_fin1 (hg : Lib.Good Tryz.prog Lot) : Lib.Good Tryz.prog Lfin1 := lib_loop hg 11 "encode.go:157" (by kernel_rfl) lFin 2000 fun σ α rest hp => by
  obtain ⟨hn, h0, h1, ha0, ha1, hb, l, hl, hl1, hat⟩ := (show finPre (σ.I 5) (σ.I 64) (σ.I 65) (σ.R 20) (σ.R 24) from hp)
  refine (fin_round σ α rest).mpr ?_
  have hlen : (rowsH l).length = l.length := List.length_map _
  by_cases hlt : σ.I 65 < σ.I 64
  · have hl2 : l.length = 1 := by rw [hl, hlen] at hn; omega
    have h65 : σ.I 65 = 0 := by rw [hl, hlen] at hn; omega
    obtain ⟨h, rfl⟩ := List.length_eq_one_iff.1 hl2
    have hh := hat h65 h List.mem_cons_self
    have hw : IntKind.i64.wrap (h.at_ + σ.I 5) = h.at_ + σ.I 5 := i64_in _ (by omega)
    have h64 : σ.I 64 = 1 := by rw [hn, hl]; rfl
    rw [hl, h65, h64]
    have hset : (rowsH [h]).set (0 : Int).toNat (setRow ((rowsH [h]).getD (0 : Int).toNat []) 0 [Value.int IntKind.i64 (IntKind.i64.wrap (asI (((rowsH [h]).getD (0 : Int).toNat []).getD 0 (Value.tuple #[])) + σ.I 5))]) = rowsH [{ h with at_ := h.at_ + σ.I 5 }] := by
      show (rowsH [h]).set 0 (setRow _ 0 [Value.int .i64 (IntKind.i64.wrap (h.at_ + σ.I 5))]) = _
      rw [hw]; rfl
    rw [hset]
    intro x0 x1 x2 x3 x4 x5 x6 x7 x8 x9 x10 x11 x12 x13 x14 x15 x16 
    have w2 : IntKind.i64.wrap (((σ.R 24).length : Int) - (h.at_ + σ.I 5)) = ((σ.R 24).length : Int) - (h.at_ + σ.I 5) := i64_in _ (by omega)
    have h14 : x14 = rowsH [movH (σ.B 97) (σ.I 5) (σ.R 24).length h] := by
      show (bif relT h.type then bif σ.B 97 then rowsH [{ h with at_ := h.at_ + σ.I 5, add := IntKind.i64.wrap (h.add - IntKind.i64.wrap (((σ.R 24).length : Int) - (h.at_ + σ.I 5))) }] else rowsH [{ h with at_ := h.at_ + σ.I 5 }] else rowsH [{ h with at_ := h.at_ + σ.I 5 }]) = _
      rw [w2]
      unfold movH
      cases relT h.type <;> cases σ.B 97 <;> rfl

    have hm : movRs (σ.B 97) (σ.I 5) (σ.R 24).length x15.toNat x14 = x16 := by rw [h14]; rfl
    have l14 : x14.length = 1 := by rw [h14]; rfl
    have p0 : x1 := Nat.zero_lt_one
    have p3 : x3 := Nat.zero_lt_one
    have hi : (0 : Int) < ((rowsH [h]).length : Int) := (show (0 : Int) < ((1 : Nat) : Int) by decide)
    refine ⟨rfl, fun _ => ⟨⟨by decide, hi, Nat.le_refl _⟩, p0, p0, p3, fun _ _ => ⟨p3, p3, p3⟩, rfl, rfl, ⟨by and_intros <;> first | exact True.intro | exact Eq.refl _, l14.symm⟩, ?_, by decide, ?_, rfl⟩, fun hc => absurd (show (true : Bool) = false from hc) (by decide)⟩
    · exact ⟨by rw [l14]; rfl, by decide, by rw [l14]; decide, ha0, ha1, hb, _, h14, Nat.le_refl _, fun hz => absurd (show (1 : Int) = 0 from hz) (by decide)⟩
    · rw [hm]
  · refine ⟨rfl, fun h => absurd (of_decide_eq_true h) hlt, fun _ => ?_⟩
    have he : movRs (σ.B 97) (σ.I 5) (σ.R 24).length (σ.I 65).toNat (σ.R 20) = σ.R 20 := by
      unfold movRs
      rw [List.take_of_length_le (by omega), List.drop_of_length_le (by omega)]
      simp [rowsH]
    rw [he]
    refine ⟨rfl, rfl, rfl, ?_⟩
    and_intros
    all_goals first | assumption | exact True.intro | exact Eq.refl _
end Go.Proofs.YthmighgfefjcmaaGreat.Enc
end

section
/- All, one behind the other: finish's contract. No condition. -/
namespace Go.Proofs.YthmighgfefjcmaaGreat.Enc
open Go.RowKit Go.Proofs.YthmighgfefjcmaaGreat.X

/-- The REX byte, if there is one. -/
def rexL (rex : Int) (force : Bool) : List Int := bif (bif rex != 0 then true else force) then [64 + rex] else []
def finAt (inTail : Bool) (a b : Nat) : Int := bif !inTail then (b : Int) else (a : Int)
def cFin : Con where
  ps := [.p 0 0]
  bl := [(0, 42, instP 70 ++ [.r 4 5 byteK, .i .i64 95, .b 96, .r 8 5 byteK, .r 12 5 byteK, .r 16 5 byteK, .r 20 54 holeK, .b 97])]
  top := 24
  pre := fun σ => 0 ≤ σ.I 95 ∧ σ.I 95 ≤ 15 ∧ (σ.R 4).length ≤ 10 ∧ (σ.R 8).length ≤ 10 ∧ (σ.R 12).length ≤ 10 ∧ (σ.R 16).length ≤ 10 ∧ ∃ l : List Hol, σ.R 20 = rowsH l ∧ l.length ≤ 1 ∧ ∀ h ∈ l, 0 ≤ h.at_ ∧ h.at_ ≤ 100
  post := fun σ =>
    let op := σ.R 4 ++ rowsB (rexL (σ.I 95) (σ.B 96)) ++ σ.R 8
    let tl := op ++ σ.R 12
    let all := tl ++ σ.R 16
    .leaf .ret [(0, .t [.gr 24 5 byteK all, .k 28 (σ.R 20).length])] [(0, [(30, .gr 28 54 holeK (movRs (σ.B 97) (finAt (σ.B 97) op.length tl.length) all.length 0 (σ.R 20)))])] [20]
noncomputable def Lfin : Lib := { Lfin1 with cs := (16, cFin) :: Lfin1.cs }
end Go.Proofs.YthmighgfefjcmaaGreat.Enc
end

section
/- Written by vc.py: what is to be shown, read out. No condition. -/
set_option maxRecDepth 1000000
set_option maxHeartbeats 0
namespace Go.Proofs.YthmighgfefjcmaaGreat.Enc
open Go.RowKit Go.Proofs.YthmighgfefjcmaaGreat.X
theorem fin_goal (σ : Dt) (α : At') : (cFin.goal Tryz.prog Lfin1.mk' 2000 Tryz.f16 σ α) = (
let x0 := [] ++ List.take (σ.R 4).length (σ.R 4);
let x1 := x0.length;
let x2 := bif σ.I 95 != (0 : Int) then true else σ.B 96;
let x3 := x1 = x1;
let x4 := x0 ++ [[Value.int IntKind.u8 (IntKind.u8.wrap (IntKind.i64.wrap (↑(BitVec.ofInt 64 (64 : Int) ||| BitVec.ofInt 64 (σ.I 95)).toNat : Int)))]];
let x5 := x4.length;
let x6 := (σ.R 8).length ≤ (σ.R 8).length;
let x7 := List.take (σ.R 8).length (σ.R 8);
let x8 := x4 ++ x7;
let x9 := x8.length;
let x10 := (σ.R 12).length ≤ (σ.R 12).length;
let x11 := List.take (σ.R 12).length (σ.R 12);
let x12 := x8 ++ x11;
let x13 := x12.length;
let x14 := (σ.R 16).length ≤ (σ.R 16).length;
let x15 := List.take (σ.R 16).length (σ.R 16);
let x16 := x12 ++ x15;
let x17 := x16.length;
let x18 := x17 = x17;
let x19 := (σ.R 4).length = (σ.R 4).length;
let x20 := (σ.R 8).length = (σ.R 8).length;
let x21 := (σ.R 12).length = (σ.R 12).length;
let x22 := (σ.R 16).length = (σ.R 16).length;
let x23 := (σ.R 20).length = (σ.R 20).length;
let x24 := bif !σ.B 97 then (↑x13 : Int) else (↑x9 : Int);
let x25 := σ.R 4 ++ rowsB (rexL (σ.I 95) (σ.B 96)) ++ σ.R 8;
let x26 := x25 ++ σ.R 12;
let x27 := x26 ++ σ.R 16;
let x28 := movRs (σ.B 97) x24 (↑x17 : Int) 0 (σ.R 20);
let x29 := x28.length;
let x30 := x19 ∧ σ.R 4 = σ.R 4;
let x31 := x20 ∧ σ.R 8 = σ.R 8;
let x32 := x21 ∧ σ.R 12 = σ.R 12;
let x33 := x22 ∧ σ.R 16 = σ.R 16;
let x34 := σ.I 70 = σ.I 70;
let x35 := σ.I 71 = σ.I 71;
let x36 := σ.I 72 = σ.I 72;
let x37 := σ.I 73 = σ.I 73;
let x38 := σ.I 74 = σ.I 74;
let x39 := σ.I 75 = σ.I 75;
let x40 := σ.I 76 = σ.I 76;
let x41 := σ.I 77 = σ.I 77;
let x42 := σ.B 78 = σ.B 78;
let x43 := σ.B 79 = σ.B 79;
let x44 := σ.I 80 = σ.I 80;
let x45 := σ.S 81 = σ.S 81;
let x46 := σ.I 82 = σ.I 82;
let x47 := σ.I 83 = σ.I 83;
let x48 := σ.I 84 = σ.I 84;
let x49 := σ.I 85 = σ.I 85;
let x50 := σ.I 86 = σ.I 86;
let x51 := σ.I 87 = σ.I 87;
let x52 := σ.B 88 = σ.B 88;
let x53 := σ.B 89 = σ.B 89;
let x54 := σ.I 90 = σ.I 90;
let x55 := σ.S 91 = σ.S 91;
let x56 := σ.I 92 = σ.I 92;
let x57 := σ.B 93 = σ.B 93;
let x58 := σ.I 95 = σ.I 95;
let x59 := σ.B 96 = σ.B 96;
let x60 := movRs (σ.B 97) (finAt (σ.B 97) x25.length x26.length) (↑x27.length : Int) 0 (σ.R 20);
let x61 := σ.B 97 = σ.B 97;
let x62 := x0 ++ x7;
let x63 := x62.length;
let x64 := x62 ++ x11;
let x65 := x64.length;
let x66 := x64 ++ x15;
let x67 := x66.length;
let x68 := x67 = x67;
let x69 := bif !σ.B 97 then (↑x65 : Int) else (↑x63 : Int);
let x70 := movRs (σ.B 97) x69 (↑x67 : Int) 0 (σ.R 20);
let x71 := x70.length;
(True ∧ (σ.R 4).length ≤ (σ.R 4).length ∧ x1 ≤ 9223372036854775807 ∧ x1 * 1 ≤ 140737488355328) ∧ (x2 = true → (x3 ∧ True ∧ x5 ≤ 9223372036854775807 ∧ x5 * 1 ≤ 140737488355328) ∧ (x5 = x5 ∧ x6 ∧ x9 ≤ 9223372036854775807 ∧ x9 * 1 ≤ 140737488355328) ∧ (x9 = x9 ∧ x10 ∧ x13 ≤ 9223372036854775807 ∧ x13 *
    1 ≤ 140737488355328) ∧ (x13 = x13 ∧ x14 ∧ x17 ≤ 9223372036854775807 ∧ x17 * 1 ≤ 140737488355328) ∧ (((((((True ∧ x18) ∧ x19) ∧ x20) ∧ x21) ∧ x22) ∧ x23) ∧ finPre x24 (↑(σ.R 20).length : Int) (0 : Int) (σ.R 20) x16) ∧ True ∧ Ex.ret = Ex.ret ∧ true = true ∧
    (((((((((((((((((((((((((((((((((((((True ∧ x18 ∧ x16 = x27) ∧ x29 = (σ.R 20).length) ∧ x30) ∧ x31) ∧ x32) ∧ x33) ∧ x34) ∧ x35) ∧ x36) ∧ x37) ∧ x38) ∧ x39) ∧ x40) ∧ x41) ∧ x42) ∧ x43) ∧ x44) ∧ x45) ∧ x46) ∧ x47) ∧ x48) ∧ x49) ∧ x50) ∧ x51) ∧ x52) ∧ x53) ∧ x54) ∧ x55) ∧ x56) ∧ x57) ∧ x19) ∧ x58)
    ∧ x59) ∧ x20) ∧ x21) ∧ x22) ∧ x29 = x29 ∧ x28 = x60) ∧ x61) ∧ (x2 = false → (x3 ∧ x6 ∧ x63 ≤ 9223372036854775807 ∧ x63 * 1 ≤ 140737488355328) ∧ (x63 = x63 ∧ x10 ∧ x65 ≤ 9223372036854775807 ∧ x65 * 1 ≤ 140737488355328) ∧ (x65 = x65 ∧ x14 ∧ x67 ≤ 9223372036854775807 ∧ x67 * 1 ≤ 140737488355328) ∧
    (((((((True ∧ x68) ∧ x19) ∧ x20) ∧ x21) ∧ x22) ∧ x23) ∧ finPre x69 (↑(σ.R 20).length : Int) (0 : Int) (σ.R 20) x66) ∧ True ∧ Ex.ret = Ex.ret ∧ true = true ∧ (((((((((((((((((((((((((((((((((((((True ∧ x68 ∧ x66 = x27) ∧ x71 = (σ.R 20).length) ∧ x30) ∧ x31) ∧ x32) ∧ x33) ∧ x34) ∧ x35) ∧ x36) ∧
    x37) ∧ x38) ∧ x39) ∧ x40) ∧ x41) ∧ x42) ∧ x43) ∧ x44) ∧ x45) ∧ x46) ∧ x47) ∧ x48) ∧ x49) ∧ x50) ∧ x51) ∧ x52) ∧ x53) ∧ x54) ∧ x55) ∧ x56) ∧ x57) ∧ x19) ∧ x58) ∧ x59) ∧ x20) ∧ x21) ∧ x22) ∧ x71 = x71 ∧ x70 = x60) ∧ x61)) := by kernel_rfl

end Go.Proofs.YthmighgfefjcmaaGreat.Enc
end

section
/- All, one behind the other: finish, shown. No condition. -/
set_option maxRecDepth 100000
namespace Go.Proofs.YthmighgfefjcmaaGreat.Enc
open Go.RowKit Go.Proofs.YthmighgfefjcmaaGreat.X Go.IntWalk

theorem rex_byte16 : ∀ n : Fin 16, IntKind.u8.wrap (IntKind.i64.wrap (((BitVec.ofInt 64 64 ||| BitVec.ofInt 64 ((n.val : Nat) : Int)).toNat : Nat) : Int)) = 64 + ((n.val : Nat) : Int) := by decide
theorem rex_byte (r : Int) (h0 : 0 ≤ r) (h1 : r ≤ 15) : IntKind.u8.wrap (IntKind.i64.wrap (((BitVec.ofInt 64 64 ||| BitVec.ofInt 64 r).toNat : Nat) : Int)) = 64 + r := by
  obtain ⟨n, rfl⟩ := Int.eq_ofNat_of_zero_le h0
  exact rex_byte16 ⟨n, by omega⟩
theorem movRs0_len (t : Bool) (a n : Int) (xs : List (List Value)) : (movRs t a n 0 xs).length = xs.length := by simp [movRs, rowsH]

set_option maxHeartbeats 4000000 in
theorem good_fin (hg : Lib.Good Tryz.prog Lfin1) : Lib.Good Tryz.prog Lfin := lib_con hg Tryz.func16 cFin 2000 fun σ α hp => by
  obtain ⟨h0, h1, l4, l8, l12, l16, l, hl, hl1, hh⟩ := (show 0 ≤ σ.I 95 ∧ σ.I 95 ≤ 15 ∧ (σ.R 4).length ≤ 10 ∧ (σ.R 8).length ≤ 10 ∧ (σ.R 12).length ≤ 10 ∧ (σ.R 16).length ≤ 10 ∧ ∃ l : List Hol, σ.R 20 = rowsH l ∧ l.length ≤ 1 ∧ ∀ h ∈ l, 0 ≤ h.at_ ∧ h.at_ ≤ 100 from hp)
  clear hp
  rw [fin_goal]
  intro x0 x1 x2 x3 x4 x5 x6 x7 x8 x9 x10 x11 x12 x13 x14 x15 x16 x17 x18 x19 x20 x21 x22 x23 x24 x25 x26 x27 x28 x29 x30 x31 x32 x33 x34 x35 x36 x37 x38 x39 x40 x41 x42 x43 x44 x45 x46 x47 x48 x49 x50 x51 x52 x53 x54 x55 x56 x57 x58 x59 x60 x61 x62 x63 x64 x65 x66 x67 x68 x69 x70 x71
  have e0 : x0 = σ.R 4 := by show [] ++ List.take _ (σ.R 4) = _; rw [List.take_length, List.nil_append]
  have e7 : x7 = σ.R 8 := List.take_length
  have e11 : x11 = σ.R 12 := List.take_length
  have e15 : x15 = σ.R 16 := List.take_length
  have n1 : x1 = (σ.R 4).length := congrArg List.length e0
  have c1 : x1 ≤ 9223372036854775807 := by omega
  have c1' : x1 * 1 ≤ 140737488355328 := by omega
  have c6 : x6 := Nat.le_refl _
  have c10 : x10 := Nat.le_refl _
  have c14 : x14 := Nat.le_refl _
  have pin : ∀ (x : Nat) (a : Int) (b : List (List Value)), 0 ≤ a → a ≤ 100 → b.length ≤ 100 → finPre a ((σ.R 20).length : Int) 0 (σ.R 20) b := fun x a b ha ha1 hb => ⟨rfl, Int.le_refl _, by omega, ha, ha1, hb, l, hl, hl1, fun _ => hh⟩
  refine ⟨⟨trivial, Nat.le_refl _, c1, c1'⟩, fun h2 => ?_, fun h2 => ?_⟩
  · have hr : rexL (σ.I 95) (σ.B 96) = [64 + σ.I 95] := by
      show (bif x2 then _ else _) = _
      rw [h2]; rfl
    have e4 : x4 = σ.R 4 ++ rowsB (rexL (σ.I 95) (σ.B 96)) := by
      show x0 ++ _ = _
      rw [e0, hr, rex_byte _ h0 h1]; rfl
    have e8 : x8 = x25 := by show x4 ++ x7 = _; rw [e4, e7]
    have e12 : x12 = x26 := by show x8 ++ x11 = _; rw [e8, e11]
    have e16 : x16 = x27 := by show x12 ++ x15 = _; rw [e12, e15]
    have n4 : x5 = (σ.R 4).length + 1 := by show x4.length = _; rw [e4, hr]; simp [rowsB]
    have n8 : x9 = (σ.R 4).length + 1 + (σ.R 8).length := by show (x4 ++ x7).length = _; rw [List.length_append, e7]; omega
    have n12 : x13 = (σ.R 4).length + 1 + (σ.R 8).length + (σ.R 12).length := by show (x8 ++ x11).length = _; rw [List.length_append, e11]; omega
    have n16 : x17 = (σ.R 4).length + 1 + (σ.R 8).length + (σ.R 12).length + (σ.R 16).length := by show (x12 ++ x15).length = _; rw [List.length_append, e15]; omega
    have e28 : x28 = x60 := by
      show movRs _ (bif !σ.B 97 then (x12.length : Int) else (x8.length : Int)) (x16.length : Int) 0 _ = movRs _ (bif !σ.B 97 then (x26.length : Int) else (x25.length : Int)) (x27.length : Int) 0 _
      rw [e8, e12, e16]
    have e29 : x29 = (σ.R 20).length := movRs0_len _ _ _ _
    have c5 : x5 ≤ 9223372036854775807 := by omega
    have c5' : x5 * 1 ≤ 140737488355328 := by omega
    have c9 : x9 ≤ 9223372036854775807 := by omega
    have c9' : x9 * 1 ≤ 140737488355328 := by omega
    have c13 : x13 ≤ 9223372036854775807 := by omega
    have c13' : x13 * 1 ≤ 140737488355328 := by omega
    have c17 : x17 ≤ 9223372036854775807 := by omega
    have c17' : x17 * 1 ≤ 140737488355328 := by omega
    have hfp : finPre x24 ((σ.R 20).length : Int) 0 (σ.R 20) x16 := by
      refine pin 0 _ _ ?_ ?_ (by omega)
      · show (0 : Int) ≤ bif !σ.B 97 then (x13 : Int) else (x9 : Int)
        cases σ.B 97 <;> simp only [Bool.not_false, Bool.not_true, cond_true, cond_false] <;> omega
      · show (bif !σ.B 97 then (x13 : Int) else (x9 : Int)) ≤ 100
        cases σ.B 97 <;> simp only [Bool.not_false, Bool.not_true, cond_true, cond_false] <;> omega
    obtain ⟨p1, p2, p3, p4, p5, p6, p7⟩ := hfp
    and_intros
    all_goals first | assumption | exact True.intro | exact Eq.refl _
  · have hr : rexL (σ.I 95) (σ.B 96) = [] := by
      show (bif x2 then _ else _) = _
      rw [h2]; rfl
    have e62 : x62 = x25 := by show x0 ++ x7 = σ.R 4 ++ rowsB (rexL (σ.I 95) (σ.B 96)) ++ σ.R 8; rw [e0, e7, hr]; simp [rowsB]
    have e64 : x64 = x26 := by show x62 ++ x11 = _; rw [e62, e11]
    have e66 : x66 = x27 := by show x64 ++ x15 = _; rw [e64, e15]
    have n62 : x63 = (σ.R 4).length + (σ.R 8).length := by show (x0 ++ x7).length = _; rw [List.length_append, e7, e0]
    have n64 : x65 = (σ.R 4).length + (σ.R 8).length + (σ.R 12).length := by show (x62 ++ x11).length = _; rw [List.length_append, e11]; omega
    have n66 : x67 = (σ.R 4).length + (σ.R 8).length + (σ.R 12).length + (σ.R 16).length := by show (x64 ++ x15).length = _; rw [List.length_append, e15]; omega
    have e70 : x70 = x60 := by
      show movRs _ (bif !σ.B 97 then (x64.length : Int) else (x62.length : Int)) (x66.length : Int) 0 _ = movRs _ (bif !σ.B 97 then (x26.length : Int) else (x25.length : Int)) (x27.length : Int) 0 _
      rw [e62, e64, e66]
    have e71 : x71 = (σ.R 20).length := movRs0_len _ _ _ _
    have c9 : x63 ≤ 9223372036854775807 := by omega
    have c9' : x63 * 1 ≤ 140737488355328 := by omega
    have c13 : x65 ≤ 9223372036854775807 := by omega
    have c13' : x65 * 1 ≤ 140737488355328 := by omega
    have c17 : x67 ≤ 9223372036854775807 := by omega
    have c17' : x67 * 1 ≤ 140737488355328 := by omega
    have hfp : finPre x69 ((σ.R 20).length : Int) 0 (σ.R 20) x66 := by
      refine pin 0 _ _ ?_ ?_ (by omega)
      · show (0 : Int) ≤ bif !σ.B 97 then (x65 : Int) else (x63 : Int)
        cases σ.B 97 <;> simp only [Bool.not_false, Bool.not_true, cond_true, cond_false] <;> omega
      · show (bif !σ.B 97 then (x65 : Int) else (x63 : Int)) ≤ 100
        cases σ.B 97 <;> simp only [Bool.not_false, Bool.not_true, cond_true, cond_false] <;> omega
    obtain ⟨p1, p2, p3, p4, p5, p6, p7⟩ := hfp
    and_intros
    all_goals first | assumption | exact True.intro | exact Eq.refl _
end Go.Proofs.YthmighgfefjcmaaGreat.Enc
end

section
/- Which instructions there are: the spec, and contracts. No condition. -/
namespace Go.Proofs.YthmighgfefjcmaaGreat.Enc
open Go.RowKit Go.Proofs.YthmighgfefjcmaaGreat.X

def eqO (o p : Opd) (nm : Bool) : Bool := o.kind == p.kind && (o.r == p.r && (o.base == p.base && (o.index == p.index && (o.scale == p.scale && (o.rip == p.rip && (o.fs == p.fs && (o.n == p.n && (nm && (o.mod == p.mod && true)))))))))
def noO : Opd := ⟨0, 0, 0, 0, 0, false, false, 0, ⟨#[]⟩, 0⟩
def regB (o : Opd) : Bool := bif eqO o { noO with kind := 1, r := o.r } (anon o) then bif decide (o.r ≥ 0) then decide (o.r ≤ 15) else false else false
def immB (o : Opd) : Bool := eqO o { noO with kind := 2, n := o.n } (anon o)
def noneB (o : Opd) : Bool := eqO o noO (anon o)
def wideB (n : Int) : Bool := bif decide (n ≥ -2147483648) then decide (n < 2147483648) else false
def modB (o : Opd) : List Int → Bool
  | [] => false
  | m :: ms => bif o.mod == m then nameOk o.name else modB o ms
def namedB (o : Opd) (ms : List Int) : Bool := bif anon o then o.mod == 0 else modB o ms
def bareM (o : Opd) : Bool := bif o.base == -1 then bif o.index == -1 then o.scale == 0 else false else false
def memB (o : Opd) : Bool :=
  bif o.kind != 3 then false else bif !wideB o.n then false else bif o.r != 0 then false
  else bif o.rip then (bif bif !anon o then bif o.mod != 0 then o.n != 0 else false else false then false else bif bareM o then bif !o.fs then namedB o [0, 2, 3] else false else false)
  else bif o.fs then (bif bareM o then namedB o [4] else false)
  else bif decide (o.base < 0) then false else bif decide (o.base > 15) then false else bif !namedB o [4, 5] then false
  else bif o.index == -1 then o.scale == 0
  else bif decide (o.index ≥ 0) then bif decide (o.index ≤ 15) then bif o.index != 4 then bif o.scale == 1 then true else bif o.scale == 2 then true else bif o.scale == 4 then true else o.scale == 8 else false else false else false
def tgtB (o : Opd) : Bool :=
  bif !eqO o { noO with kind := 4, name := o.name, mod := o.mod, n := o.n } (o.name.toList == o.name.toList) then false
  else bif anon o then (bif o.mod == 0 then wideB o.n else false) else bif o.n == 0 then namedB o [0, 1] else false
def cO (f : Opd → Bool) : Con where
  ps := [.a (opdP 0)]
  bl := []
  top := 0
  pre := fun _ => True
  post := fun σ => .leaf .ret [(0, .gb (f (opd σ 0)))] [] []
noncomputable def Lreg : Lib := { Lfin with cs := (60, cO regB) :: Lfin.cs }
noncomputable def Limmo : Lib := { Lreg with cs := (68, cO immB) :: Lreg.cs }
noncomputable def Lnone : Lib := { Limmo with cs := (67, cO noneB) :: Limmo.cs }
noncomputable def Lmem : Lib := { Lnone with cs := (61, cO memB) :: Lnone.cs }
noncomputable def Ltgt : Lib := { Lmem with cs := (97, cO tgtB) :: Lmem.cs }

def rmB (o : Opd) : Bool := bif regB o then true else memB o
def fitsB (n size : Int) : Bool := bif size == 1 then (bif decide (n ≥ -128) then decide (n ≤ 255) else false) else bif size == 4 then (bif decide (n ≥ -2147483648) then decide (n < 4294967296) else false) else wideB n
def givenB (i : Ins) : Bool := bif immB i.src then fitsB i.src.n i.size else false
def loadB (i : Ins) : Bool := bif regB i.to then memB i.src else false
def sumB (i : Ins) : Bool := bif rmB i.to then bif regB i.src then true else bif givenB i then true else loadB i else loadB i
def movB (i : Ins) : Bool := bif sumB i then true else bif i.size == 8 then bif regB i.to then immB i.src else false else false
def leaB (i : Ins) : Bool := bif regB i.to then bif memB i.src then !i.src.fs else false else false
def testB (i : Ins) : Bool := bif rmB i.to then bif regB i.src then true else givenB i else false
def ldB (i : Ins) : Bool := bif regB i.to then rmB i.src else false
def pushB (i : Ins) : Bool := bif noneB i.to then bif rmB i.src then true else bif immB i.src then wideB i.src.n else false else false
def byB (i : Ins) (m : Int) : Bool := bif immB i.src then bif decide (i.src.n ≥ 0) then decide (i.src.n ≤ m) else false else false
def shiftM (i : Ins) (m : Int) : Bool := bif rmB i.to then bif regB i.src then bif i.src.r == 1 then true else byB i m else byB i m else false
def shiftB (i : Ins) : Bool := bif i.size == 8 then shiftM i 63 else shiftM i 31
def nearB (i : Ins) : Bool := bif noneB i.src then bif tgtB i.to then bif !i.short then true else bif !anon i.to then true else bif decide (i.to.n ≥ -128) then decide (i.to.n ≤ 127) else false else false else false
def oneB (i : Ins) : Bool := bif rmB i.to then noneB i.src else false
def bareB (i : Ins) : Bool := bif noneB i.to then noneB i.src else false
def callB (i : Ins) : Bool := bif !i.short then bif nearB i then true else oneB i else false
def jmpB (i : Ins) : Bool := bif nearB i then true else bif !i.short then oneB i else false
def xchgB (i : Ins) : Bool := bif rmB i.to then regB i.src else false
def isOne (op : Int) : Bool := bif op == 13 then op == 13 else bif op == 14 then op == 14 else bif op == 15 then op == 15 else op == 16
def isSh (op : Int) : Bool := bif op == 17 then op == 17 else bif op == 18 then op == 18 else op == 19
def isBare (op : Int) : Bool := bif op == 25 then op == 25 else bif op == 26 then op == 26 else bif op == 32 then op == 32 else bif op == 33 then op == 33 else bif op == 34 then op == 34 else op == 35
def isLd (op : Int) : Bool := bif op == 12 then op == 12 else bif op == 29 then op == 29 else op == 30
def sel (c1 c2 c3 c4 c5 c6 c7 c8 c9 c10 c11 c12 c13 c14 c15 : Bool) (one sh bare mov lea test ld push pop call jmp jcc setcc cmov xchg sum : Bool) : Bool :=
  bif c1 then one else bif c2 then sh else bif c3 then bare else bif c4 then mov else bif c5 then lea else bif c6 then test else bif c7 then ld else bif c8 then push else bif c9 then pop else bif c10 then call else bif c11 then jmp else bif c12 then jcc else bif c13 then setcc else bif c14 then cmov else bif c15 then xchg else sum
def byOp (op : Int) : (one sh bare mov lea test ld push pop call jmp jcc setcc cmov xchg sum : Bool) → Bool :=
  sel (isOne op) (isSh op) (isBare op) (op == 1) (op == 2) (op == 11) (isLd op) (op == 20) (op == 21) (op == 22) (op == 23) (op == 24) (op == 27) (op == 28) (op == 31)
def s9 (a b c : Bool) : Bool := bif a then true else bif b then true else c
def s4 (a b c : Bool) : Bool := bif a then false else bif b then true else c
def s8 (a b c : Bool) : Bool := bif a then false else bif b then false else c
def sizeB (op size : Int) : Bool :=
  let a := size == 1
  let b := size == 4
  let c := size == 8
  byOp op (s9 a b c) (s9 a b c) (!(!(size == 0))) (s9 a b c) (s4 a b c) (s9 a b c) (s4 a b c) (s8 a b c) (s8 a b c) (!(!c)) (!(!c)) (!(!c)) (!(!a)) (s4 a b c) (s4 a b c) (s9 a b c)
def opsB (i : Ins) : Bool :=
  byOp i.op (!(!oneB i)) (!(!shiftB i)) (!(!bareB i)) (!(!movB i)) (!(!leaB i)) (!(!testB i)) (!(!ldB i)) (!(!pushB i)) (!(!oneB i)) (!(!callB i)) (!(!jmpB i)) (!(!nearB i)) (!(!oneB i)) (!(!ldB i)) (!(!xchgB i)) (!(!sumB i))
def condB (op cond : Int) : Bool :=
  let n := !(cond != 0)
  byOp op n n n n n n n n n n n true true true n n
def chkB (i : Ins) : Bool :=
  (((((!(bif decide (i.op < 1) then true else decide (i.op > 35)) && sizeB i.op i.size) && !decide (i.cond < 0)) && !decide (i.cond > 15)) && condB i.op i.cond) && !((!bif i.op == 23 then true else i.op == 24) && i.short)) && opsB i
def cChk : Con where
  ps := [.a (instP 0)]
  bl := []
  top := 0
  pre := fun _ => True
  post := fun σ => .leaf .ret [(0, .gi .i64 (bif chkB (ins σ 0) then 0 else 30))] [] []
noncomputable def Lchk : Lib := { Ltgt with cs := (10, cChk) :: Ltgt.cs }
end Go.Proofs.YthmighgfefjcmaaGreat.Enc
end

section
/- Written by vc.py: what is to be shown, read out. No condition. -/
set_option maxRecDepth 1000000
set_option maxHeartbeats 0
namespace Go.Proofs.YthmighgfefjcmaaGreat.Enc
open Go.RowKit Go.Proofs.YthmighgfefjcmaaGreat.X
theorem reg_goal (σ : Dt) (α : At') : ((cO regB).goal Tryz.prog Lfin.mk' 1000 Tryz.f60 σ α) = (
True ∧ Ex.ret = Ex.ret ∧ true = true ∧ True ∧ (bif σ.I 0 == (1 : Int) && (σ.I 1 == σ.I 1 && (σ.I 2 == (0 : Int) && (σ.I 3 == (0 : Int) && (σ.I 4 == (0 : Int) && (σ.B 5 == false && (σ.B 6 == false && (σ.I 7 == (0 : Int) && ((σ.S 8).toList == [] && (σ.I 9 == (0 : Int) && true))))))))) then bif decide
    (σ.I 1 ≥ (0 : Int)) then decide (σ.I 1 ≤ (15 : Int)) else false else false) = regB (opd σ 0)) := by kernel_rfl

theorem immo_goal (σ : Dt) (α : At') : ((cO immB).goal Tryz.prog Lreg.mk' 1000 Tryz.f68 σ α) = (
True ∧ Ex.ret = Ex.ret ∧ true = true ∧ True ∧ (σ.I 0 == (2 : Int) && (σ.I 1 == (0 : Int) && (σ.I 2 == (0 : Int) && (σ.I 3 == (0 : Int) && (σ.I 4 == (0 : Int) && (σ.B 5 == false && (σ.B 6 == false && (σ.I 7 == σ.I 7 && ((σ.S 8).toList == [] && (σ.I 9 == (0 : Int) && true)))))))))) = immB (opd σ 0)) := by kernel_rfl

theorem none_goal (σ : Dt) (α : At') : ((cO noneB).goal Tryz.prog Limmo.mk' 1000 Tryz.f67 σ α) = (
True ∧ Ex.ret = Ex.ret ∧ true = true ∧ True ∧ (σ.I 0 == (0 : Int) && (σ.I 1 == (0 : Int) && (σ.I 2 == (0 : Int) && (σ.I 3 == (0 : Int) && (σ.I 4 == (0 : Int) && (σ.B 5 == false && (σ.B 6 == false && (σ.I 7 == (0 : Int) && ((σ.S 8).toList == [] && (σ.I 9 == (0 : Int) && true)))))))))) = noneB (opd σ
    0)) := by kernel_rfl

theorem mem_goal (σ : Dt) (α : At') : ((cO memB).goal Tryz.prog Lnone.mk' 2000 Tryz.f61 σ α) = (
let x1 := (σ.S 8).toList == [];
let x2 := σ.I 3 == (-1 : Int);
let x3 := σ.I 4 == (0 : Int);
let x4 := bif σ.I 2 == (-1 : Int) then bif x2 then x3 else false else false;
let x5 := σ.I 9 == (0 : Int);
let x6 := σ.I 9 == (4 : Int);
True ∧ Ex.ret = Ex.ret ∧ true = true ∧ True ∧ (bif σ.I 0 != (3 : Int) then false else bif !bif decide (σ.I 7 ≥ (-2147483648 : Int)) then decide (σ.I 7 < (2147483648 : Int)) else false then false else bif σ.I 1 != (0 : Int) then false else bif σ.B 5 then bif bif !x1 then bif σ.I 9 != (0 : Int) then
    σ.I 7 != (0 : Int) else false else false then false else bif x4 then bif !σ.B 6 then bif x1 then x5 else bif x5 then nameOk (σ.S 8) else bif σ.I 9 == (2 : Int) then nameOk (σ.S 8) else bif σ.I 9 == (3 : Int) then nameOk (σ.S 8) else false else false else false else bif σ.B 6 then bif x4 then bif
    x1 then x5 else bif x6 then nameOk (σ.S 8) else false else false else bif decide (σ.I 2 < (0 : Int)) then false else bif decide (σ.I 2 > (15 : Int)) then false else bif !bif x1 then x5 else bif x6 then nameOk (σ.S 8) else bif σ.I 9 == (5 : Int) then nameOk (σ.S 8) else false then false else bif
    x2 then x3 else bif decide (σ.I 3 ≥ (0 : Int)) then bif decide (σ.I 3 ≤ (15 : Int)) then bif σ.I 3 != (4 : Int) then bif σ.I 4 == (1 : Int) then true else bif σ.I 4 == (2 : Int) then true else bif σ.I 4 == (4 : Int) then true else σ.I 4 == (8 : Int) else false else false else false) = memB (opd
    σ 0)) := by kernel_rfl

theorem tgt_goal (σ : Dt) (α : At') : ((cO tgtB).goal Tryz.prog Lmem.mk' 2000 Tryz.f97 σ α) = (
let x0 := (σ.S 8).toList == [];
let x1 := σ.I 9 == (0 : Int);
True ∧ Ex.ret = Ex.ret ∧ true = true ∧ True ∧ (bif !(σ.I 0 == (4 : Int) && (σ.I 1 == (0 : Int) && (σ.I 2 == (0 : Int) && (σ.I 3 == (0 : Int) && (σ.I 4 == (0 : Int) && (σ.B 5 == false && (σ.B 6 == false && (σ.I 7 == σ.I 7 && ((σ.S 8).toList == (σ.S 8).toList && (σ.I 9 == σ.I 9 && true)))))))))) then
    false else bif x0 then bif x1 then bif decide (σ.I 7 ≥ (-2147483648 : Int)) then decide (σ.I 7 < (2147483648 : Int)) else false else false else bif σ.I 7 == (0 : Int) then bif x0 then x1 else bif x1 then nameOk (σ.S 8) else bif σ.I 9 == (1 : Int) then nameOk (σ.S 8) else false else false) = tgtB
    (opd σ 0)) := by kernel_rfl

end Go.Proofs.YthmighgfefjcmaaGreat.Enc
end

section
/- Written by vc.py: what is to be shown, read out. No condition. -/
set_option maxRecDepth 1000000
set_option maxHeartbeats 0
namespace Go.Proofs.YthmighgfefjcmaaGreat.Enc
open Go.RowKit Go.Proofs.YthmighgfefjcmaaGreat.X
theorem chk_goal (σ : Dt) (α : At') : (cChk.goal Tryz.prog Ltgt.mk' 4000 Tryz.f10 σ α) = (
let x0 := bif decide (σ.I 0 < (1 : Int)) then true else decide (σ.I 0 > (35 : Int));
let x1 := bif chkB (ins σ 0) then (0 : Int) else (30 : Int);
let x2 := True ∧ Ex.ret = Ex.ret ∧ true = true ∧ True ∧ (30 : Int) = x1;
let x3 := σ.I 0 == (13 : Int);
let x4 := σ.I 0 == (14 : Int);
let x5 := σ.I 0 == (15 : Int);
let x6 := bif x3 then x3 else bif x4 then x4 else bif x5 then x5 else σ.I 0 == (16 : Int);
let x7 := σ.I 1 == (1 : Int);
let x10 := decide (σ.I 2 < (0 : Int));
let x12 := decide (σ.I 2 > (15 : Int));
let x14 := σ.I 2 != (0 : Int);
let x16 := σ.I 0 == (23 : Int);
let x17 := σ.I 0 == (24 : Int);
let x18 := !bif x16 then true else x17;
let x20 := { kind := σ.I 3, r := σ.I 4, base := σ.I 5, index := σ.I 6, scale := σ.I 7, rip := σ.B 8, fs := σ.B 9, n := σ.I 10, name := σ.S 11, mod := σ.I 12 : Opd };
let x21 := regB x20;
let x22 := bif x21 then true else memB x20;
let x24 := { kind := σ.I 13, r := σ.I 14, base := σ.I 15, index := σ.I 16, scale := σ.I 17, rip := σ.B 18, fs := σ.B 19, n := σ.I 20, name := σ.S 21, mod := σ.I 22 : Opd };
let x25 := noneB x24;
let x26 := bif x22 then x25 else false;
let x27 := !x26;
let x28 := True ∧ Ex.ret = Ex.ret ∧ true = true ∧ True ∧ (0 : Int) = x1;
let x29 := (True ∧ True) ∧ (x21 = false → True ∧ True) ∧ (x22 = true → True ∧ True) ∧ (x27 = true → x2) ∧ (x27 = false → x28);
let x31 := (x18 = true → (σ.B 23 = true → x2) ∧ (σ.B 23 = false → x29)) ∧ (x18 = false → x29);
let x32 := (x10 = true → x2) ∧ (x10 = false → (x12 = true → x2) ∧ (x12 = false → (x14 = true → x2) ∧ (x14 = false → x31)));
let x34 := σ.I 1 == (4 : Int);
let x37 := σ.I 1 == (8 : Int);
let x40 := σ.I 0 == (17 : Int);
let x41 := σ.I 0 == (18 : Int);
let x42 := bif x40 then x40 else bif x41 then x41 else σ.I 0 == (19 : Int);
let x43 := regB x24;
let x44 := σ.I 14 == (1 : Int);
let x46 := (True ∧ True) ∧ (x21 = false → True ∧ True) ∧ (x22 = true → (True ∧ True) ∧ (x43 = true → x44 = false → True ∧ True) ∧ (x43 = false → True ∧ True));
let x47 := immB x24;
let x49 := decide (σ.I 20 ≥ (0 : Int));
let x50 := bif x47 then bif x49 then decide (σ.I 20 ≤ (63 : Int)) else false else false;
let x51 := bif x47 then bif x49 then decide (σ.I 20 ≤ (31 : Int)) else false else false;
let x52 := !bif x37 then bif x22 then bif x43 then bif x44 then true else x50 else x50 else false else bif x22 then bif x43 then bif x44 then true else x51 else x51 else false;
let x53 := ((x37 = true → x46) ∧ (x37 = false → x46)) ∧ (x52 = true → x2) ∧ (x52 = false → x28);
let x54 := (x10 = true → x2) ∧ (x10 = false → (x12 = true → x2) ∧ (x12 = false → (x14 = true → x2) ∧ (x14 = false → (x18 = true → (σ.B 23 = true → x2) ∧ (σ.B 23 = false → x53)) ∧ (x18 = false → x53))));
let x55 := σ.I 0 == (25 : Int);
let x56 := σ.I 0 == (26 : Int);
let x57 := σ.I 0 == (32 : Int);
let x58 := σ.I 0 == (33 : Int);
let x59 := σ.I 0 == (34 : Int);
let x60 := bif x55 then x55 else bif x56 then x56 else bif x57 then x57 else bif x58 then x58 else bif x59 then x59 else σ.I 0 == (35 : Int);
let x61 := !σ.I 1 == (0 : Int);
let x62 := noneB x20;
let x64 := !bif x62 then x25 else false;
let x65 := (True ∧ True) ∧ (x62 = true → True ∧ True) ∧ (x64 = true → x2) ∧ (x64 = false → x28);
let x66 := σ.I 0 == (1 : Int);
let x67 := decide (σ.I 20 ≥ (-2147483648 : Int));
let x68 := bif x67 then decide (σ.I 20 < (2147483648 : Int)) else false;
let x69 := bif x47 then bif x7 then bif decide (σ.I 20 ≥ (-128 : Int)) then decide (σ.I 20 ≤ (255 : Int)) else false else bif x34 then bif x67 then decide (σ.I 20 < (4294967296 : Int)) else false else x68 else false;
let x71 := (True ∧ True) ∧ (x21 = true → True ∧ True);
let x72 := (x22 = true → (True ∧ True) ∧ (x43 = false → (True ∧ True) ∧ (x69 = false → x71))) ∧ (x22 = false → x71);
let x73 := memB x24;
let x74 := bif x21 then x73 else false;
let x75 := bif x22 then bif x43 then true else bif x69 then true else x74 else x74;
let x76 := !bif x75 then true else bif x37 then bif x21 then x47 else false else false;
let x77 := (True ∧ True) ∧ (x21 = false → True ∧ True) ∧ x72 ∧ (x75 = false → x37 = true → x71) ∧ (x76 = true → x2) ∧ (x76 = false → x28);
let x78 := (x10 = true → x2) ∧ (x10 = false → (x12 = true → x2) ∧ (x12 = false → (x14 = true → x2) ∧ (x14 = false → (x18 = true → (σ.B 23 = true → x2) ∧ (σ.B 23 = false → x77)) ∧ (x18 = false → x77))));
let x79 := σ.I 0 == (2 : Int);
let x80 := !bif x21 then bif x73 then !σ.B 19 else false else false;
let x81 := (True ∧ True) ∧ (x21 = true → True ∧ True) ∧ (x80 = true → x2) ∧ (x80 = false → x28);
let x82 := (x10 = true → x2) ∧ (x10 = false → (x12 = true → x2) ∧ (x12 = false → (x14 = true → x2) ∧ (x14 = false → (x18 = true → (σ.B 23 = true → x2) ∧ (σ.B 23 = false → x81)) ∧ (x18 = false → x81))));
let x83 := σ.I 0 == (11 : Int);
let x84 := (True ∧ True) ∧ (x43 = false → True ∧ True);
let x85 := !bif x22 then bif x43 then true else x69 else false;
let x86 := (True ∧ True) ∧ (x21 = false → True ∧ True) ∧ (x22 = true → x84) ∧ (x85 = true → x2) ∧ (x85 = false → x28);
let x87 := (x10 = true → x2) ∧ (x10 = false → (x12 = true → x2) ∧ (x12 = false → (x14 = true → x2) ∧ (x14 = false → (x18 = true → (σ.B 23 = true → x2) ∧ (σ.B 23 = false → x86)) ∧ (x18 = false → x86))));
let x88 := σ.I 0 == (12 : Int);
let x89 := σ.I 0 == (29 : Int);
let x90 := bif x88 then x88 else bif x89 then x89 else σ.I 0 == (30 : Int);
let x91 := bif x43 then true else x73;
let x92 := !bif x21 then x91 else false;
let x93 := (True ∧ True) ∧ (x21 = true → x84) ∧ (x92 = true → x2) ∧ (x92 = false → x28);
let x94 := (x18 = true → (σ.B 23 = true → x2) ∧ (σ.B 23 = false → x93)) ∧ (x18 = false → x93);
let x95 := (x10 = true → x2) ∧ (x10 = false → (x12 = true → x2) ∧ (x12 = false → (x14 = true → x2) ∧ (x14 = false → x94)));
let x96 := σ.I 0 == (20 : Int);
let x97 := !bif x62 then bif x91 then true else bif x47 then x68 else false else false;
let x98 := (True ∧ True) ∧ (x62 = true → (True ∧ True) ∧ (x43 = false → True ∧ True) ∧ (x91 = false → True ∧ True)) ∧ (x97 = true → x2) ∧ (x97 = false → x28);
let x99 := σ.I 0 == (21 : Int);
let x100 := σ.I 0 == (22 : Int);
let x101 := !x37;
let x104 := bif x25 then bif tgtB x20 then bif !σ.B 23 then true else bif !(σ.S 11).toList == [] then true else bif decide (σ.I 10 ≥ (-128 : Int)) then decide (σ.I 10 ≤ (127 : Int)) else false else false else false;
let x106 := (True ∧ True) ∧ (x21 = false → True ∧ True) ∧ (x22 = true → True ∧ True);
let x107 := !bif !σ.B 23 then bif x104 then true else x26 else false;
let x108 := ((!σ.B 23) = true → (True ∧ True) ∧ (x25 = true → True ∧ True) ∧ (x104 = false → x106)) ∧ (x107 = true → x2) ∧ (x107 = false → x28);
let x109 := !bif x104 then true else bif !σ.B 23 then x26 else false;
let x110 := (True ∧ True) ∧ (x25 = true → True ∧ True) ∧ (x104 = false → (!σ.B 23) = true → x106) ∧ (x109 = true → x2) ∧ (x109 = false → x28);
let x111 := !x104;
let x112 := (True ∧ True) ∧ (x25 = true → True ∧ True) ∧ (x111 = true → x2) ∧ (x111 = false → x28);
let x113 := σ.I 0 == (27 : Int);
let x114 := !x7;
let x115 := σ.I 0 == (28 : Int);
let x116 := (x10 = true → x2) ∧ (x10 = false → (x12 = true → x2) ∧ (x12 = false → x94));
let x117 := σ.I 0 == (31 : Int);
let x118 := !bif x22 then x43 else false;
let x119 := (True ∧ True) ∧ (x21 = false → True ∧ True) ∧ (x22 = true → True ∧ True) ∧ (x118 = true → x2) ∧ (x118 = false → x28);
let x120 := (x10 = true → x2) ∧ (x10 = false → (x12 = true → x2) ∧ (x12 = false → (x14 = true → x2) ∧ (x14 = false → (x18 = true → (σ.B 23 = true → x2) ∧ (σ.B 23 = false → x119)) ∧ (x18 = false → x119))));
let x121 := !x75;
let x122 := (True ∧ True) ∧ (x21 = false → True ∧ True) ∧ x72 ∧ (x121 = true → x2) ∧ (x121 = false → x28);
let x123 := (x10 = true → x2) ∧ (x10 = false → (x12 = true → x2) ∧ (x12 = false → (x14 = true → x2) ∧ (x14 = false → (x18 = true → (σ.B 23 = true → x2) ∧ (σ.B 23 = false → x122)) ∧ (x18 = false → x122))));
(x0 = true → x2) ∧ (x0 = false → ((0 : Int) ≤ σ.I 0 ∧ σ.I 0 < (36 : Int)) ∧ (x6 = true → (x7 = true → x32) ∧ (x7 = false → (x34 = true → x32) ∧ (x34 = false → (x37 = true → x32) ∧ (x37 = false → x2)))) ∧ (x6 = false → (x42 = true → (x7 = true → x54) ∧ (x7 = false → (x34 = true → x54) ∧ (x34 = false → (x37 = true → x54) ∧ (x37 = false → x2)))) ∧ (x42 = false → (x60 = true → (x61 = true
    → x2) ∧ (x61 = false → (x10 = true → x2) ∧ (x10 = false → (x12 = true → x2) ∧ (x12 = false → (x14 = true → x2) ∧ (x14 = false → (x18 = true → (σ.B 23 = true → x2) ∧ (σ.B 23 = false → x65)) ∧ (x18 = false → x65)))))) ∧ (x60 = false → (x66 = true → (x7 = true → x78) ∧ (x7 = false → (x34 = true → x78) ∧ (x34 = false → (x37 = true → x78) ∧ (x37 = false → x2)))) ∧ (x66 = false →
    (x79 = true → (x7 = true → x2) ∧ (x7 = false → (x34 = true → x82) ∧ (x34 = false → (x37 = true → x82) ∧ (x37 = false → x2)))) ∧ (x79 = false → (x83 = true → (x7 = true → x87) ∧ (x7 = false → (x34 = true → x87) ∧ (x34 = false → (x37 = true → x87) ∧ (x37 = false → x2)))) ∧ (x83 = false → (x90 = true → (x7 = true → x2) ∧ (x7 = false → (x34 = true → x95) ∧ (x34 = false → (x37 = true → x95) ∧ (x37 = false → x2)))) ∧ (x90 = false
    → (x96 = true → (x7 = true → x2) ∧ (x7 = false → (x34 = true → x2) ∧ (x34 = false → (x37 = true → (x10 = true → x2) ∧ (x10 = false → (x12 = true → x2) ∧ (x12 = false → (x14 = true → x2) ∧ (x14 = false → (x18 = true → (σ.B 23 = true → x2) ∧ (σ.B 23 = false → x98)) ∧ (x18 = false → x98))))) ∧ (x37 = false → x2)))) ∧ (x96 = false → (x99 = true → (x7 = true → x2) ∧ (x7 = false → (x34 = true → x2) ∧
    (x34 = false → (x37 = true → x32) ∧ (x37 = false → x2)))) ∧ (x99 = false → (x100 = true → (x101 = true → x2) ∧ (x101 = false → (x10 = true → x2) ∧ (x10 = false → (x12 = true → x2) ∧ (x12 = false → (x14 = true → x2) ∧ (x14 = false → (x18 = true → (σ.B 23 = true → x2) ∧ (σ.B 23 = false → x108)) ∧ (x18 = false → x108)))))) ∧ (x100 = false → (x16 = true → (x101 = true
    → x2) ∧ (x101 = false → (x10 = true → x2) ∧ (x10 = false → (x12 = true → x2) ∧ (x12 = false → (x14 = true → x2) ∧ (x14 = false → (x18 = true → (σ.B 23 = true → x2) ∧ (σ.B 23 = false → x110)) ∧ (x18 = false → x110)))))) ∧ (x16 = false → (x17 = true → (x101 = true → x2) ∧ (x101 = false → (x10 = true → x2) ∧ (x10 = false → (x12 = true → x2) ∧ (x12 = false → (x18 = true →
    (σ.B 23 = true → x2) ∧ (σ.B 23 = false → x112)) ∧ (x18 = false → x112))))) ∧ (x17 = false → (x113 = true → (x114 = true → x2) ∧ (x114 = false → (x10 = true → x2) ∧ (x10 = false → (x12 = true → x2) ∧ (x12 = false → x31)))) ∧ (x113 = false → (x115 = true → (x7 = true → x2) ∧ (x7 = false → (x34 = true → x116) ∧ (x34 = false → (x37 = true → x116) ∧ (x37 = false →
    x2)))) ∧ (x115 = false → (x117 = true → (x7 = true → x2) ∧ (x7 = false → (x34 = true → x120) ∧ (x34 = false → (x37 = true → x120) ∧ (x37 = false → x2)))) ∧ (x117 = false → (x7 = true → x123) ∧ (x7 = false → (x34 = true → x123) ∧ (x34 = false → (x37 = true → x123) ∧ (x37 = false → x2)))))))))))))))))))) := by kernel_rfl

end Go.Proofs.YthmighgfefjcmaaGreat.Enc
end

section
/- Which instructions there are: shown. No condition. -/
set_option maxRecDepth 100000
namespace Go.Proofs.YthmighgfefjcmaaGreat.Enc
open Go.RowKit Go.Proofs.YthmighgfefjcmaaGreat.X Go.IntWalk

theorem good_fins : Lib.Good Tryz.prog Lfin := good_fin (good_fin1 (good_ot (good_j (good_st (good_sh good_sum)))))
theorem good_reg : Lib.Good Tryz.prog Lreg := lib_con good_fins Tryz.func60 (cO regB) 1000 fun σ α _ => by
  rw [reg_goal]; exact ⟨trivial, rfl, rfl, trivial, rfl⟩
theorem good_immo : Lib.Good Tryz.prog Limmo := lib_con good_reg Tryz.func68 (cO immB) 1000 fun σ α _ => by
  rw [immo_goal]; exact ⟨trivial, rfl, rfl, trivial, rfl⟩
theorem good_none : Lib.Good Tryz.prog Lnone := lib_con good_immo Tryz.func67 (cO noneB) 1000 fun σ α _ => by
  rw [none_goal]; exact ⟨trivial, rfl, rfl, trivial, rfl⟩
theorem good_mem : Lib.Good Tryz.prog Lmem := lib_con good_none Tryz.func61 (cO memB) 2000 fun σ α _ => by
  rw [mem_goal]; exact ⟨trivial, rfl, rfl, trivial, rfl⟩
theorem good_tgt : Lib.Good Tryz.prog Ltgt := lib_con good_mem Tryz.func97 (cO tgtB) 2000 fun σ α _ => by
  rw [tgt_goal]; exact ⟨trivial, rfl, rfl, trivial, rfl⟩

theorem sz_9 {a b c : Bool} {X Y : Prop} (hx : s9 a b c = false → X) (hy : s9 a b c = true → Y) : (a = true → Y) ∧ (a = false → (b = true → Y) ∧ (b = false → (c = true → Y) ∧ (c = false → X))) := by
  cases a <;> cases b <;> cases c <;> simp_all [s9]
theorem sz_4 {a b c : Bool} {X Y : Prop} (hx : s4 a b c = false → X) (hy : s4 a b c = true → Y) : (a = true → X) ∧ (a = false → (b = true → Y) ∧ (b = false → (c = true → Y) ∧ (c = false → X))) := by
  cases a <;> cases b <;> cases c <;> simp_all [s4]
theorem sz_8 {a b c : Bool} {X Y : Prop} (hx : s8 a b c = false → X) (hy : s8 a b c = true → Y) : (a = true → X) ∧ (a = false → (b = true → X) ∧ (b = false → (c = true → Y) ∧ (c = false → X))) := by
  cases a <;> cases b <;> cases c <;> simp_all [s8]
theorem sz_1 {a : Bool} {X Y : Prop} (hx : (!a) = false → X) (hy : (!a) = true → Y) : (a = true → X) ∧ (a = false → Y) := by
  cases a <;> simp_all
theorem cls_std {K S a b n d B O : Bool} {X T : Prop} (F : K = false → X) (hK : K = ((((((true && S) && !a) && !b) && !n) && !(d && B)) && !O)) (hS : S = true) (hT : (O = false → K = true) → (O = true → K = false) → T) :
    (a = true → X) ∧ (a = false → (b = true → X) ∧ (b = false → (n = true → X) ∧ (n = false → (d = true → (B = true → X) ∧ (B = false → T)) ∧ (d = false → T)))) := by
  subst hS
  cases a <;> cases b <;> cases n <;> cases d <;> cases B <;> simp_all
theorem cls_any {K S a b d B O : Bool} {X T : Prop} (F : K = false → X) (hK : K = ((((((true && S) && !a) && !b) && true) && !(d && B)) && !O)) (hS : S = true) (hT : (O = false → K = true) → (O = true → K = false) → T) :
    (a = true → X) ∧ (a = false → (b = true → X) ∧ (b = false → (d = true → (B = true → X) ∧ (B = false → T)) ∧ (d = false → T))) := by
  subst hS
  cases a <;> cases b <;> cases d <;> cases B <;> simp_all

set_option maxHeartbeats 4000000 in
theorem good_chk : Lib.Good Tryz.prog Lchk := lib_con good_tgt Tryz.func10 cChk 4000 fun σ α _ => by
  rw [chk_goal]
  intro x0 x1 x2 x3 x4 x5 x6 x7 x10 x12 x14 x16 x17 x18 x20 x21 x22 x24 x25 x26 x27 x28 x29 x31 x32 x34 x37 x40 x41 x42 x43 x44 x46 x47 x49 x50 x51 x52 x53 x54 x55 x56 x57 x58 x59 x60 x61 x62 x64 x65 x66 x67 x68 x69 x71 x72 x73 x74 x75 x76 x77 x78 x79 x80 x81 x82 x83 x84 x85 x86 x87 x88 x89 x90 x91 x92 x93 x94 x95 x96 x97 x98 x99 x100 x101 x104 x106 x107 x108 x109 x110 x111 x112 x113 x114 x115 x116 x117 x118 x119 x120 x121 x122 x123
  have F : chkB (ins σ 0) = false → x2 := fun h => ⟨trivial, rfl, rfl, trivial, by show (30 : Int) = bif chkB (ins σ 0) then 0 else 30; rw [h]; rfl⟩
  have G : chkB (ins σ 0) = true → x28 := fun h => ⟨trivial, rfl, rfl, trivial, by show (0 : Int) = bif chkB (ins σ 0) then 0 else 30; rw [h]; rfl⟩
  have hK : chkB (ins σ 0) = ((((((!x0 && sel x6 x42 x60 x66 x79 x83 x90 x96 x99 x100 x16 x17 x113 x115 x117 (s9 x7 x34 x37) (s9 x7 x34 x37) (!x61) (s9 x7 x34 x37) (s4 x7 x34 x37) (s9 x7 x34 x37) (s4 x7 x34 x37) (s8 x7 x34 x37) (s8 x7 x34 x37) (!x101) (!x101) (!x101) (!x114) (s4 x7 x34 x37) (s4 x7 x34 x37) (s9 x7 x34 x37)) && !x10) && !x12) && sel x6 x42 x60 x66 x79 x83 x90 x96 x99 x100 x16 x17 x113 x115 x117 (!x14) (!x14) (!x14) (!x14) (!x14) (!x14) (!x14) (!x14) (!x14) (!x14) (!x14) true true true (!x14) (!x14)) && !(x18 && σ.B 23)) && sel x6 x42 x60 x66 x79 x83 x90 x96 x99 x100 x16 x17 x113 x115 x117 (!x27) (!x52) (!x64) (!x76) (!x80) (!x85) (!x92) (!x97) (!x27) (!x107) (!x109) (!x111) (!x27) (!x92) (!x118) (!x121)) := rfl
  have hr : x0 = false → 0 ≤ σ.I 0 ∧ σ.I 0 < 36 := fun h => by
    by_cases h1 : σ.I 0 < 1
    · have h2 : x0 = true := by show (bif decide (σ.I 0 < 1) then true else _) = true; rw [decide_eq_true h1]; rfl
      rw [h2] at h; cases h
    · by_cases h3 : σ.I 0 > 35
      · have h2 : x0 = true := by show (bif decide (σ.I 0 < 1) then true else decide (σ.I 0 > 35)) = true; rw [decide_eq_true h3]; cases decide (σ.I 0 < 1) <;> rfl
        rw [h2] at h; cases h
      · omega
  generalize hKK : chkB (ins σ 0) = K at F G hK
  clear hKK
  clear_value x0 x6 x7 x10 x12 x14 x16 x17 x18 x27 x34 x37 x42 x52 x60 x61 x64 x66 x76 x79 x80 x83 x85 x90 x92 x96 x97 x99 x100 x101 x107 x109 x111 x113 x114 x115 x117 x118 x121 x2 x28
  refine ⟨fun h0 => F (by rw [hK, h0]; rfl), fun h0 => ⟨hr h0, ?_⟩⟩
  rw [h0] at hK
  clear h0 hr
  refine ⟨fun c0 => ?_, fun c0 => ?_⟩
  · have hK1 := hK
    simp only [sel, c0, cond_true, cond_false] at hK1
    refine sz_9 (fun h => F (by rw [hK1, h]; rfl)) (fun h => cls_std F hK1 h fun g1 g2 => ?_)
    have f1 : x27 = true → x2 := fun h => F (g2 h)
    have f2 : x27 = false → x28 := fun h => G (g1 h)
    clear F G hK hK1 g1 g2
    repeat' first | exact True.intro | exact f1 | exact f2 | apply And.intro | intro _
  refine ⟨fun c1 => ?_, fun c1 => ?_⟩
  · have hK1 := hK
    simp only [sel, c0, c1, cond_true, cond_false] at hK1
    refine sz_9 (fun h => F (by rw [hK1, h]; rfl)) (fun h => cls_std F hK1 h fun g1 g2 => ?_)
    have f1 : x52 = true → x2 := fun h => F (g2 h)
    have f2 : x52 = false → x28 := fun h => G (g1 h)
    clear F G hK hK1 g1 g2
    repeat' first | exact True.intro | exact f1 | exact f2 | apply And.intro | intro _
  refine ⟨fun c2 => ?_, fun c2 => ?_⟩
  · have hK1 := hK
    simp only [sel, c0, c1, c2, cond_true, cond_false] at hK1
    refine sz_1 (fun h => F (by rw [hK1, h]; rfl)) (fun h => cls_std F hK1 h fun g1 g2 => ?_)
    have f1 : x64 = true → x2 := fun h => F (g2 h)
    have f2 : x64 = false → x28 := fun h => G (g1 h)
    clear F G hK hK1 g1 g2
    repeat' first | exact True.intro | exact f1 | exact f2 | apply And.intro | intro _
  refine ⟨fun c3 => ?_, fun c3 => ?_⟩
  · have hK1 := hK
    simp only [sel, c0, c1, c2, c3, cond_true, cond_false] at hK1
    refine sz_9 (fun h => F (by rw [hK1, h]; rfl)) (fun h => cls_std F hK1 h fun g1 g2 => ?_)
    have f1 : x76 = true → x2 := fun h => F (g2 h)
    have f2 : x76 = false → x28 := fun h => G (g1 h)
    clear F G hK hK1 g1 g2
    repeat' first | exact True.intro | exact f1 | exact f2 | apply And.intro | intro _
  refine ⟨fun c4 => ?_, fun c4 => ?_⟩
  · have hK1 := hK
    simp only [sel, c0, c1, c2, c3, c4, cond_true, cond_false] at hK1
    refine sz_4 (fun h => F (by rw [hK1, h]; rfl)) (fun h => cls_std F hK1 h fun g1 g2 => ?_)
    have f1 : x80 = true → x2 := fun h => F (g2 h)
    have f2 : x80 = false → x28 := fun h => G (g1 h)
    clear F G hK hK1 g1 g2
    repeat' first | exact True.intro | exact f1 | exact f2 | apply And.intro | intro _
  refine ⟨fun c5 => ?_, fun c5 => ?_⟩
  · have hK1 := hK
    simp only [sel, c0, c1, c2, c3, c4, c5, cond_true, cond_false] at hK1
    refine sz_9 (fun h => F (by rw [hK1, h]; rfl)) (fun h => cls_std F hK1 h fun g1 g2 => ?_)
    have f1 : x85 = true → x2 := fun h => F (g2 h)
    have f2 : x85 = false → x28 := fun h => G (g1 h)
    clear F G hK hK1 g1 g2
    repeat' first | exact True.intro | exact f1 | exact f2 | apply And.intro | intro _
  refine ⟨fun c6 => ?_, fun c6 => ?_⟩
  · have hK1 := hK
    simp only [sel, c0, c1, c2, c3, c4, c5, c6, cond_true, cond_false] at hK1
    refine sz_4 (fun h => F (by rw [hK1, h]; rfl)) (fun h => cls_std F hK1 h fun g1 g2 => ?_)
    have f1 : x92 = true → x2 := fun h => F (g2 h)
    have f2 : x92 = false → x28 := fun h => G (g1 h)
    clear F G hK hK1 g1 g2
    repeat' first | exact True.intro | exact f1 | exact f2 | apply And.intro | intro _
  refine ⟨fun c7 => ?_, fun c7 => ?_⟩
  · have hK1 := hK
    simp only [sel, c0, c1, c2, c3, c4, c5, c6, c7, cond_true, cond_false] at hK1
    refine sz_8 (fun h => F (by rw [hK1, h]; rfl)) (fun h => cls_std F hK1 h fun g1 g2 => ?_)
    have f1 : x97 = true → x2 := fun h => F (g2 h)
    have f2 : x97 = false → x28 := fun h => G (g1 h)
    clear F G hK hK1 g1 g2
    repeat' first | exact True.intro | exact f1 | exact f2 | apply And.intro | intro _
  refine ⟨fun c8 => ?_, fun c8 => ?_⟩
  · have hK1 := hK
    simp only [sel, c0, c1, c2, c3, c4, c5, c6, c7, c8, cond_true, cond_false] at hK1
    refine sz_8 (fun h => F (by rw [hK1, h]; rfl)) (fun h => cls_std F hK1 h fun g1 g2 => ?_)
    have f1 : x27 = true → x2 := fun h => F (g2 h)
    have f2 : x27 = false → x28 := fun h => G (g1 h)
    clear F G hK hK1 g1 g2
    repeat' first | exact True.intro | exact f1 | exact f2 | apply And.intro | intro _
  refine ⟨fun c9 => ?_, fun c9 => ?_⟩
  · have hK1 := hK
    simp only [sel, c0, c1, c2, c3, c4, c5, c6, c7, c8, c9, cond_true, cond_false] at hK1
    refine sz_1 (fun h => F (by rw [hK1, h]; rfl)) (fun h => cls_std F hK1 h fun g1 g2 => ?_)
    have f1 : x107 = true → x2 := fun h => F (g2 h)
    have f2 : x107 = false → x28 := fun h => G (g1 h)
    clear F G hK hK1 g1 g2
    repeat' first | exact True.intro | exact f1 | exact f2 | apply And.intro | intro _
  refine ⟨fun c10 => ?_, fun c10 => ?_⟩
  · have hK1 := hK
    simp only [sel, c0, c1, c2, c3, c4, c5, c6, c7, c8, c9, c10, cond_true, cond_false] at hK1
    refine sz_1 (fun h => F (by rw [hK1, h]; rfl)) (fun h => cls_std F hK1 h fun g1 g2 => ?_)
    have f1 : x109 = true → x2 := fun h => F (g2 h)
    have f2 : x109 = false → x28 := fun h => G (g1 h)
    clear F G hK hK1 g1 g2
    repeat' first | exact True.intro | exact f1 | exact f2 | apply And.intro | intro _
  refine ⟨fun c11 => ?_, fun c11 => ?_⟩
  · have hK1 := hK
    simp only [sel, c0, c1, c2, c3, c4, c5, c6, c7, c8, c9, c10, c11, cond_true, cond_false] at hK1
    refine sz_1 (fun h => F (by rw [hK1, h]; rfl)) (fun h => cls_any F hK1 h fun g1 g2 => ?_)
    have f1 : x111 = true → x2 := fun h => F (g2 h)
    have f2 : x111 = false → x28 := fun h => G (g1 h)
    clear F G hK hK1 g1 g2
    repeat' first | exact True.intro | exact f1 | exact f2 | apply And.intro | intro _
  refine ⟨fun c12 => ?_, fun c12 => ?_⟩
  · have hK1 := hK
    simp only [sel, c0, c1, c2, c3, c4, c5, c6, c7, c8, c9, c10, c11, c12, cond_true, cond_false] at hK1
    refine sz_1 (fun h => F (by rw [hK1, h]; rfl)) (fun h => cls_any F hK1 h fun g1 g2 => ?_)
    have f1 : x27 = true → x2 := fun h => F (g2 h)
    have f2 : x27 = false → x28 := fun h => G (g1 h)
    clear F G hK hK1 g1 g2
    repeat' first | exact True.intro | exact f1 | exact f2 | apply And.intro | intro _
  refine ⟨fun c13 => ?_, fun c13 => ?_⟩
  · have hK1 := hK
    simp only [sel, c0, c1, c2, c3, c4, c5, c6, c7, c8, c9, c10, c11, c12, c13, cond_true, cond_false] at hK1
    refine sz_4 (fun h => F (by rw [hK1, h]; rfl)) (fun h => cls_any F hK1 h fun g1 g2 => ?_)
    have f1 : x92 = true → x2 := fun h => F (g2 h)
    have f2 : x92 = false → x28 := fun h => G (g1 h)
    clear F G hK hK1 g1 g2
    repeat' first | exact True.intro | exact f1 | exact f2 | apply And.intro | intro _
  refine ⟨fun c14 => ?_, fun c14 => ?_⟩
  · have hK1 := hK
    simp only [sel, c0, c1, c2, c3, c4, c5, c6, c7, c8, c9, c10, c11, c12, c13, c14, cond_true, cond_false] at hK1
    refine sz_4 (fun h => F (by rw [hK1, h]; rfl)) (fun h => cls_std F hK1 h fun g1 g2 => ?_)
    have f1 : x118 = true → x2 := fun h => F (g2 h)
    have f2 : x118 = false → x28 := fun h => G (g1 h)
    clear F G hK hK1 g1 g2
    repeat' first | exact True.intro | exact f1 | exact f2 | apply And.intro | intro _
  · have hK1 := hK
    simp only [sel, c0, c1, c2, c3, c4, c5, c6, c7, c8, c9, c10, c11, c12, c13, c14, cond_true, cond_false] at hK1
    refine sz_9 (fun h => F (by rw [hK1, h]; rfl)) (fun h => cls_std F hK1 h fun g1 g2 => ?_)
    have f1 : x121 = true → x2 := fun h => F (g2 h)
    have f2 : x121 = false → x28 := fun h => G (g1 h)
    clear F G hK hK1 g1 g2
    repeat' first | exact True.intro | exact f1 | exact f2 | apply And.intro | intro _
end Go.Proofs.YthmighgfefjcmaaGreat.Enc
end

section
/- The bytes and the hole of an instruction: the spec, and the contract. No condition. -/
namespace Go.Proofs.YthmighgfefjcmaaGreat.Enc
open Go.RowKit Go.Proofs.YthmighgfefjcmaaGreat.X

/-- What is written of an instruction. -/
def isSums (op : Int) : Bool := op == 1 || op == 11 || op == 31 || (decide (3 ≤ op) && decide (op ≤ 10))
def encI (i : Ins) : Enc :=
  bif isSums i.op then sumE i else bif isSh i.op then shE i else bif i.op == 20 || i.op == 21 then stE i else bif i.op == 22 || i.op == 23 || i.op == 24 then jE i else otE i
def Enc.front (e : Enc) : List Int := e.pre ++ rexL e.rex e.force ++ e.op
def Enc.bytes (e : Enc) : List Int := e.front ++ e.tail ++ e.number
def Enc.at_ (e : Enc) : Int := finAt e.inTail e.front.length (e.front ++ e.tail).length
def Enc.hols (e : Enc) : List Hol := e.holes.map (movH e.inTail e.at_ e.bytes.length)
def cBytes : Con where
  ps := [.a (instP 0)]
  bl := []
  top := 0
  pre := fun _ => True
  post := fun σ => .ite (chkB (ins σ 0))
    (.leaf .ret [(0, .t [.gr 0 5 byteK (rowsB (encI (ins σ 0)).bytes), .gr 4 54 holeK (rowsH (encI (ins σ 0)).hols), .c (.int .i64 0)])] [] [])
    (.leaf .ret [(0, .t [nilP, nilP, .c (.int .i64 30)])] [] [])
noncomputable def Lbytes : Lib := { Lchk with cs := (4, cBytes) :: Lchk.cs }
end Go.Proofs.YthmighgfefjcmaaGreat.Enc
end

section
/- What an instruction that may be is, and what is written of it: plain laws. No condition. -/
set_option maxRecDepth 100000
namespace Go.Proofs.YthmighgfefjcmaaGreat.Enc
open Go.RowKit Go.Proofs.YthmighgfefjcmaaGreat.X Go.IntWalk

theorem bif3 {a b : Bool} : (bif a then b else false) = (a && b) := by cases a <;> rfl
theorem bif4 {a b : Bool} : (bif a then true else b) = (a || b) := by cases a <;> rfl
theorem bif5 {a b : Bool} : (bif a then false else b) = (!a && b) := by cases a <;> rfl

/-- A register. -/
structure RegO (o : Opd) : Prop where
  kind : o.kind = 1
  r0 : 0 ≤ o.r
  r1 : o.r ≤ 15
  base : o.base = 0
  index : o.index = 0
  scale : o.scale = 0
  rip : o.rip = false
  fs : o.fs = false
  n : o.n = 0
  name : anon o = true
  mod : o.mod = 0
structure ImmO (o : Opd) : Prop where
  kind : o.kind = 2
  r : o.r = 0
  base : o.base = 0
  index : o.index = 0
  scale : o.scale = 0
  rip : o.rip = false
  fs : o.fs = false
  name : anon o = true
  mod : o.mod = 0
structure NoneO (o : Opd) : Prop where
  kind : o.kind = 0
  r : o.r = 0
  base : o.base = 0
  index : o.index = 0
  scale : o.scale = 0
  rip : o.rip = false
  fs : o.fs = false
  n : o.n = 0
  name : anon o = true
  mod : o.mod = 0
structure TgtO (o : Opd) : Prop where
  kind : o.kind = 4
  r : o.r = 0
  base : o.base = 0
  index : o.index = 0
  scale : o.scale = 0
  rip : o.rip = false
  fs : o.fs = false
  n0 : -2147483648 ≤ o.n
  n1 : o.n < 2147483648
  plain : anon o = true → o.mod = 0
  named : anon o = false → o.n = 0 ∧ (o.mod = 0 ∨ o.mod = 1) ∧ nameOk o.name = true
/-- Memory: its kinds. -/
structure MemO (o : Opd) : Prop where
  kind : o.kind = 3
  n0 : -2147483648 ≤ o.n
  n1 : o.n < 2147483648
  r : o.r = 0
  plain : anon o = true → o.mod = 0
  named : anon o = false → nameOk o.name = true ∧ 0 ≤ o.mod ∧ o.mod ≤ 5
  how : (o.rip = true ∧ o.fs = false ∧ o.base = -1 ∧ o.index = -1 ∧ o.scale = 0) ∨
    (o.rip = false ∧ o.fs = true ∧ o.base = -1 ∧ o.index = -1 ∧ o.scale = 0) ∨
    (o.rip = false ∧ o.fs = false ∧ 0 ≤ o.base ∧ o.base ≤ 15 ∧ ((o.index = -1 ∧ o.scale = 0) ∨ (0 ≤ o.index ∧ o.index ≤ 15 ∧ o.index ≠ 4 ∧ (o.scale = 1 ∨ o.scale = 2 ∨ o.scale = 4 ∨ o.scale = 8))))
  mode : anon o = false → (o.rip = true → o.mod = 0 ∨ o.mod = 2 ∨ o.mod = 3) ∧ (o.rip = false → o.mod = 4 ∨ o.mod = 5)

theorem regO {o : Opd} (h : regB o = true) : RegO o := by
  simp [regB, eqO, noO] at h
  obtain ⟨⟨hk, h2, h3, h4, h5, h6, h7, h8, h9⟩, h10, h11⟩ := h
  exact ⟨hk, h10, h11, h2, h3, h4, h5, h6, h7, h8, h9⟩
theorem immO {o : Opd} (h : immB o = true) : ImmO o := by
  simp [immB, eqO, noO] at h
  obtain ⟨hk, h1, h2, h3, h4, h5, h6, h8, h9⟩ := h
  exact ⟨hk, h1, h2, h3, h4, h5, h6, h8, h9⟩
theorem noneO {o : Opd} (h : noneB o = true) : NoneO o := by
  simp [noneB, eqO, noO] at h
  obtain ⟨hk, h1, h2, h3, h4, h5, h6, h7, h8, h9⟩ := h
  exact ⟨hk, h1, h2, h3, h4, h5, h6, h7, h8, h9⟩
theorem wideO {n : Int} (h : wideB n = true) : -2147483648 ≤ n ∧ n < 2147483648 := by
  simp [wideB] at h
  exact h
theorem modO_ok {o : Opd} : ∀ {ms : List Int}, modB o ms = true → nameOk o.name = true ∧ o.mod ∈ ms
  | [], h => by cases h
  | m :: ms, h => by
    unfold modB at h
    cases hm : (o.mod == m) with
    | true => rw [hm] at h; exact ⟨h, by rw [eq_of_beq hm]; exact List.mem_cons_self⟩
    | false => rw [hm] at h; have := modO_ok (ms := ms) h; exact ⟨this.1, List.mem_cons_of_mem _ this.2⟩
theorem namedO {o : Opd} {ms : List Int} (h : namedB o ms = true) : (anon o = true → o.mod = 0) ∧ (anon o = false → nameOk o.name = true ∧ o.mod ∈ ms) := by
  unfold namedB at h
  cases ha : anon o with
  | true => rw [ha] at h; exact ⟨fun _ => eq_of_beq h, fun h2 => by (cases h2)⟩
  | false => rw [ha] at h; exact ⟨fun h2 => by (cases h2), fun _ => modO_ok h⟩
theorem tgtO {o : Opd} (h : tgtB o = true) : TgtO o := by
  simp only [tgtB, bif5, Bool.not_not, Bool.and_eq_true] at h
  obtain ⟨h0, h⟩ := h
  simp [eqO, noO] at h0
  obtain ⟨hk, h1, h2, h3, h4, h5, h6⟩ := h0
  cases ha : anon o with
  | true =>
    simp only [ha, cond_true, bif3, Bool.and_eq_true] at h
    have hw := wideO h.2
    exact ⟨hk, h1, h2, h3, h4, h5, h6, hw.1, hw.2, fun _ => eq_of_beq h.1, fun h2 => by (rw [ha] at h2; cases h2)⟩
  | false =>
    simp only [ha, cond_false, bif3, Bool.and_eq_true] at h
    have hn := eq_of_beq h.1
    have hm := (namedO h.2).2 ha
    simp at hm
    exact ⟨hk, h1, h2, h3, h4, h5, h6, by omega, by omega, fun h2 => by (rw [ha] at h2; cases h2), fun _ => ⟨hn, hm.2, hm.1⟩⟩
theorem bareO {o : Opd} (h : bareM o = true) : o.base = -1 ∧ o.index = -1 ∧ o.scale = 0 := by
  simp [bareM] at h; exact h
theorem memO {o : Opd} (h : memB o = true) : MemO o := by
  simp only [memB, bif5, Bool.and_eq_true, Bool.not_eq_true', bne_eq_false_iff_eq, Bool.not_not] at h
  obtain ⟨hk, hw, hr, h⟩ := h
  have hw := wideO hw
  have fin : ∀ ms : List Int, namedB o ms = true → (∀ m ∈ ms, 0 ≤ m ∧ m ≤ 5 ∧ (o.rip = true → m = 0 ∨ m = 2 ∨ m = 3) ∧ (o.rip = false → m = 4 ∨ m = 5)) → _ → MemO o := fun ms hm hms hhow =>
    ⟨hk, hw.1, hw.2, hr, (namedO hm).1, fun ha => ⟨((namedO hm).2 ha).1, (hms _ ((namedO hm).2 ha).2).1, (hms _ ((namedO hm).2 ha).2).2.1⟩, hhow, fun ha => (hms _ ((namedO hm).2 ha).2).2.2⟩
  cases hrip : o.rip with
  | true =>
    simp only [hrip, cond_true, bif3, Bool.and_eq_true, Bool.not_eq_true'] at h
    obtain ⟨_, hb, hfs, hn⟩ := h
    have hb := bareO hb
    exact fin _ hn (by rw [hrip]; decide) (.inl ⟨hrip, hfs, hb⟩)
  | false =>
    simp only [hrip, cond_false] at h
    cases hfs : o.fs with
    | true =>
      simp only [hfs, cond_true, bif3, Bool.and_eq_true] at h
      have hb := bareO h.1
      exact fin _ h.2 (by rw [hrip]; decide) (.inr (.inl ⟨hrip, hfs, hb⟩))
    | false =>
      simp only [hfs, cond_false, Bool.and_eq_true, Bool.not_eq_true', decide_eq_false_iff_not] at h
      obtain ⟨h1, h2, hn, h⟩ := h
      refine fin _ hn (by rw [hrip]; decide) (.inr (.inr ⟨hrip, hfs, by omega, by omega, ?_⟩))
      cases hx : (o.index == -1) with
      | true => rw [hx] at h; exact .inl ⟨eq_of_beq hx, eq_of_beq h⟩
      | false =>
        rw [hx] at h
        simp at h
        exact .inr (by omega)
theorem rmB_or {o : Opd} (h : rmB o = true) : RegO o ∨ MemO o := by
  unfold rmB at h
  cases hr : regB o with
  | true => exact .inl (regO hr)
  | false => rw [hr] at h; exact .inr (memO h)
theorem rmOk_reg {o : Opd} (h : RegO o) : rmOk o := .inl ⟨by unfold isR; rw [h.kind]; rfl, h.r0, h.r1⟩
theorem rmOk_mem {o : Opd} (h : MemO o) : rmOk o := by
  have hm : 0 ≤ o.mod ∧ o.mod ≤ 5 := by
    cases ha : anon o with
    | true => rw [h.plain ha]; decide
    | false => exact (h.named ha).2
  refine .inr ⟨by unfold isR; rw [h.kind]; rfl, hm.1, hm.2, h.n0, by have := h.n1; omega, ?_⟩
  rcases h.how with h | h | h
  · exact .inl h.1
  · exact .inr (.inl h.2.1)
  · refine .inr (.inr ⟨h.2.2.1, h.2.2.2.1, ?_, ?_⟩) <;> rcases h.2.2.2.2 with h | h <;> omega
theorem rmOk_rm {o : Opd} (h : rmB o = true) : rmOk o := (rmB_or h).elim rmOk_reg rmOk_mem

/-- What an instruction that may be has. -/
structure Parts (i : Ins) : Prop where
  op0 : 1 ≤ i.op
  op1 : i.op ≤ 35
  size : sizeB i.op i.size = true
  c0 : 0 ≤ i.cond
  c1 : i.cond ≤ 15
  cond : condB i.op i.cond = true
  short : i.short = true → i.op = 23 ∨ i.op = 24
  ops : opsB i = true
theorem chk_parts {i : Ins} (h : chkB i = true) : Parts i := by
  simp only [chkB, Bool.and_eq_true, bif4, Bool.not_eq_true', Bool.or_eq_false_iff, decide_eq_false_iff_not, Bool.and_eq_false_imp] at h
  obtain ⟨⟨⟨⟨⟨⟨⟨h0, h1⟩, h2⟩, h3⟩, h4⟩, h5⟩, h6⟩, h7⟩ := h
  refine ⟨by omega, by omega, h2, by omega, by omega, h5, fun hs => ?_, h7⟩
  by_cases h23 : i.op = 23
  · exact .inl h23
  · by_cases h24 : i.op = 24
    · exact .inr h24
    · have e1 : (i.op == 23) = false := by simp [h23]
      have e2 : (i.op == 24) = false := by simp [h24]
      have := h6 ⟨e1, e2⟩
      rw [hs] at this; cases this
end Go.Proofs.YthmighgfefjcmaaGreat.Enc
end
