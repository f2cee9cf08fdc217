/- EncodeKnown: the reader runs it, closed. No condition. -/
import Derived.Test.YthmighgfefjcmaaEncStr
namespace Go.Proofs.Ythmighgfefjcmaa.Enc
open Go.RowKit Go.Proofs.Ythmighgfefjcmaa.X

noncomputable def φkn : Specs := selfs Try.prog 100 φstr [17, 40, 19, 18]

set_option maxRecDepth 100000 in
theorem known_run : (run Try.prog φkn 3000 Try.f3 []).resM Try.prog Try.f3 = some (.bool true) := by kernel_rfl

theorem known_walk (w : World) : Calls Try.prog 3 #[] w fun e w' => e = .returned (.bool true) ∧ Below w.heap.size w w' :=
  calls_of_run (good_selfs good_str 100 _) Try.func3 3000 [] [] rfl rfl (.bool true) known_run w
#print axioms known_walk
end Go.Proofs.Ythmighgfefjcmaa.Enc
