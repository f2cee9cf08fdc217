/- A struct of five bools by value (api.Flags): how it reads, and reads again. -/
import Derived.Test.YtknopookopfoeaaProg
import Derived.ProofKit
import Derived.OpenShut
namespace Go.Proofs.Ytknopookopfoeaa.AluOpen
open Go.ChangeShapes Go.WideShapes Go.RowKit

theorem cellsF : Try.prog.cellsOf 26 = 5 := by kernel_rfl
theorem cellsB : Try.prog.cellsOf 4 = 1 := by kernel_rfl

section
variable {H : Type} {enc : TypeId × Value → H} {w : World} {base : Nat}

theorem open_flags {r : Reach} {b0 : Nat} {sp : Nat → Bool} {hd : Bool} {v : Value} {d : DataW H} {p : List MemPlace}
    (hv : Value.okWide Try.prog w r b0 26 v) (h : DataW.Trod enc Try.prog w base sp hd 26 v d p) :
    ∃ a b c e f : Bool, v = .agg #[.bool a, .bool b, .bool c, .bool e, .bool f] ∧ d = .agg [.lit (.bool a), .lit (.bool b), .lit (.bool c), .lit (.bool e), .lit (.bool f)] ∧ p = [] := by
  obtain ⟨cs, rfl, hsz⟩ := okWide_struct Try.underlying26 hv
  obtain ⟨l⟩ := cs
  match l, hsz.trans cellsF with
  | [x0, x1, x2, x3, x4], _ =>
    obtain ⟨fuel, hf⟩ := h
    obtain ⟨xs, n, _, hx, _, hlen, hg⟩ := DataW.trod_struct Try.underlying26 hf
    match xs, hlen with
    | [y0, y1, y2, y3, y4], _ =>
      have g0 := hg 0 _ rfl
      have g1 := hg 1 _ rfl
      have g2 := hg 2 _ rfl
      have g3 := hg 3 _ rfl
      have g4 := hg 4 _ rfl
      obtain ⟨a, e0, k0⟩ := DataW.trod_bool Try.underlying4 g0
      obtain ⟨b, e1, k1⟩ := DataW.trod_bool Try.underlying4 g1
      obtain ⟨c, e2, k2⟩ := DataW.trod_bool Try.underlying4 g2
      obtain ⟨e, e3, k3⟩ := DataW.trod_bool Try.underlying4 g3
      obtain ⟨f, e4, k4⟩ := DataW.trod_bool Try.underlying4 g4
      simp [Value.cells, cellsB] at e0 e1 e2 e3 e4
      subst e0 e1 e2 e3 e4 k0 k1 k2 k3 k4
      simp only [Prod.mk.injEq] at hx
      exact ⟨a, b, c, e, f, rfl, by simpa using hx.1, by simpa using hx.2⟩

theorem shut_flags {sp : Nat → Bool} {hd : Bool} (a b c e f : Bool) :
    DataW.Trod enc Try.prog w base sp hd 26 (.agg #[.bool a, .bool b, .bool c, .bool e, .bool f]) (.agg [.lit (.bool a), .lit (.bool b), .lit (.bool c), .lit (.bool e), .lit (.bool f)]) [] := by
  have h := trod_struct_mk (P := Try.prog) (enc := enc) (w := w) (base := base) (spare := sp) (held := hd) (n := 1) (t := 26) (cs := [.bool a, .bool b, .bool c, .bool e, .bool f])
    (xs := [(.lit (.bool a), []), (.lit (.bool b), []), (.lit (.bool c), []), (.lit (.bool e), []), (.lit (.bool f), [])]) Try.underlying26 (by simp [cellsF]) (by simp [cellsB, DataW.trod, Try.underlying4])
  exact ⟨_, by simpa [Value.cells] using h⟩
end
end Go.Proofs.Ytknopookopfoeaa.AluOpen
