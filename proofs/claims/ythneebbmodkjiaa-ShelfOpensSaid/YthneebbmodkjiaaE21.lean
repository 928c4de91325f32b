/- Part of a proof over the seat Ythneebbmodkjiaa: module E21. Its claim's last module says what is proved. -/
import Derived.Test.YthneebbmodkjiaaE19
import Derived.Test.YthneebbmodkjiaaSLp
import Derived.Test.YthneebbmodkjiaaG4
import Derived.Laws.StructEq
namespace Go.Proofs.Ythneebbmodkjiaa
open Go.Proofs

theorem entry_same {a : Int} {s : ByteArray} (w : World) : (Op.equal 84 (.agg #[.int .i64 a, .string s]) (.agg #[.int .i64 a, .string s])).run Try.prog w = .ok true w := by
  have hS : Try.prog.underlying 84 = some (.struct (Try.prog.fieldsOf 84)) := by kernel_rfl
  have hp : Try.prog.stoodInHeld 84 = false := by kernel_rfl
  have u3 := Try.underlying3
  have u9 := Try.underlying9
  have z3 := Try.typeInfo3
  have z9 := Try.typeInfo9
  rw [equal_one, run_equalIn_agg w 9999 84 _ _ hS hp]
  simp only [Program.fieldsOf, Try.underlying84]
  go_simp
theorem v_neqE {ρ : Rho} {Γ : List HP} {ty yt : TypeId} {x y : Operand} {a : Int} {s : ByteArray} (hx : ev ρ x = some (.agg #[.int .i64 a, .string s])) (hy : ev ρ y = some (.agg #[.int .i64 a, .string s])) :
    OpV Try.prog (.binOp .neq 84 x y yt) ty ρ Γ (.bool false) :=
  ⟨by simp, fun ee o E w hop hty he heL hs =>
    eqlRun .neq hop (he _ _ hx) (he _ _ hy) (run_eqGuard_agg w .neq 84 x y _ _ (by kernel_rfl)) (by simp [binOp]) (entry_same w)⟩
end Go.Proofs.Ythneebbmodkjiaa
