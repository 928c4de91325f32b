/- Part of a proof over the seat Ythneebbmodkjiaa: module F3. Its claim's last module says what is proved. -/
import Derived.Test.YthneebbmodkjiaaF2
import Derived.WalkKit
import Derived.ProofKit
import Derived.OpenShut
import Derived.ShutString
import Derived.ChangeOld
import Derived.Below
namespace Go.Proofs.Ythneebbmodkjiaa
open Go.Proofs Go.ChangeShapes Go.WideShapes Go.ChangeAt Go.RowKit

theorem own : ownKnob Try.prog.godebug = none := by kernel_rfl
theorem laidOut : laidOutB Try.prog = true := by kernel_rfl
/-- A contract of a law, with the argument's memory as it was. -/
theorem Spec.walk {f : FuncId} {v : Value} {W : World} (S : Spec Try.prog f [v] [OldW W] (fun v B => v = .bool true ∧ B = [OldW W])) : Calls Try.prog f #[v] W fun e w' => e = .returned (.bool true) ∧ Below W.heap.size W w' := by
  refine (S (Env.of W) [] W (St.start W)).mono ?_
  rintro e w' ⟨v, B, rfl, ⟨rfl, rfl⟩, st⟩
  exact ⟨rfl, st.below⟩
end Go.Proofs.Ythneebbmodkjiaa
