/- DiskCrashes: for every input the call of tarnlaw9.DiskCrashes returns true, and its argument reads behind the call as it read before. No condition beyond the given row's own. -/
import Derived.Test.YthneebbmodkjiaaD25
import Derived.Test.YthneebbmodkjiaaF3
import Derived.Test.YthneebbmodkjiaaF4
import Derived.Test.YthneebbmodkjiaaF5
namespace Go.Proofs.Ythneebbmodkjiaa
open Go.Proofs Go.ChangeShapes Go.WideShapes Go.ChangeAt Go.RowKit

namespace DiskCrashesLaw
set_option maxRecDepth 100000 in
theorem lifted (os : Os) (started : os.Started) (H : Type) (enc : TypeId × Value → H) :
    ReturnsInHanded {} Try.checked os 12 .any (Rows.diskCrashesSpec.pre6 enc Try.prog Try.f12 Rows.diskCrashesRow.domain false) (Rows.diskCrashesSpec.post enc Try.prog Try.f12 false true false false) := by
  refine returnsInHanded_of_change_sized (C := Try.checked) own started (by kernel_rfl) Try.func12
    (ChangeSpec.witness6 (enc := enc) (C := Try.checked) false ⟨#[], #[.agg #[.slice none 0 0, .slice none 0 0]], []⟩ 8 (by kernel_rfl) (by kernel_rfl) (by kernel_rfl) (by kernel_rfl)) ?_
  intro W base args ds gs before hval0 hW hcnd hsz _
  have hval : ∀ (j : Nat) t v, Try.f12.params[j]? = some t → args[j]? = some v → Value.okWide Try.prog W .any base t v := hval0
  have hW' := hW
  obtain ⟨p, q, hA0, hV, rfl, hfz, hnd⟩ := hW
  have hA : DataW.TrodAll enc Try.prog W 0 (fun _ => true) true Try.f12.params.toList args.toList ds p := hA0
  rw [Try.params12] at hA hval
  obtain ⟨v0, vs0, d0, ds0, p0, q0, hargs, rfl, rfl, h0, r0⟩ := trodAll_cons hA
  obtain ⟨rfl, rfl, rfl⟩ := trodAll_nil r0
  obtain rfl : args = #[v0] := by cases args; simp_all
  obtain ⟨rfl, rfl⟩ := trodVars_none hV
  have k0 := h0
  have lt0 : ∀ x ∈ p0, x.block < W.heap.size := by obtain ⟨m, hm⟩ := k0; exact DataW.trod_lt m _ _ _ hm
  have hz0 : ∀ n ∈ d0.weights Try.prog 25, n ≤ reachBytes := fun n hn => by
    have := List.all_eq_true.1 hsz n (DataW.weights_mem_each (j := 0) (t := 25) (d := d0) (by rw [Try.params12]; rfl) rfl n hn)
    simpa using this
  obtain ⟨c0, c1, y0, y1, m, rfl, rfl, -, hy0, hy1⟩ := Joins.open_agg2 Try.underlying25 (by kernel_rfl) (by kernel_rfl) (hval 0 25 v0 rfl rfl) h0
  have z0 : Szd Try.prog 22 y0 := fun n hn => hz0 n (by
    simp only [DataW.weights, Try.underlying25]
    exact DataW.weights_mem_each (ts := [22, 23]) (j := 0) rfl rfl n hn)
  have z1 : Szd Try.prog 23 y1 := fun n hn => hz0 n (by
    simp only [DataW.weights, Try.underlying25]
    exact DataW.weights_mem_each (ts := [22, 23]) (j := 1) rfl rfl n hn)
  obtain ⟨fa, fc, F, rfl, f1, f2, f5, f3, f4⟩ := read_cellsZ hy0 z0
  obtain ⟨la, lc, L, rfl, l1, l2, l5, l3, l4⟩ := read_actsZ hy1 z1
  clear hA0 hval0
  have R : SV.Rd (OldW W) ⟨fa, fc, F, la, lc, L⟩ := ⟨f4, l4, Nat.le_trans f1 f2, Nat.le_trans l1 l2⟩
  have Fi : ∀ x ∈ L, x.Fit := fun x hx => (l3 x hx).1
  have Z : SV.Sz ⟨fa, fc, F, la, lc, L⟩ := ⟨f5, fun x hx => (f3 x hx).2.2, l5, fun x hx => (l3 x hx).2⟩
  refine (Spec.walk (diskCrashes_spec R Fi Z)).mono fun e W' ⟨he, bel⟩ => ?_
  subst he
  exact ⟨_, rfl, _, _, _, [], _, [], hW', trodAll_mk1 (shut_bool Try.underlying4 _), (trodAll_cons_mk (Below.trod laidOut (by kernel_rfl) (of_decide_eq_true (by kernel_rfl)) k0 bel lt0) trodAll_mk0), rfl, bel.frame _, fun h => by cases h⟩

theorem facts : joinedFacts Try.pinned.checked.prog 12 Try.f12 Rows.diskCrashesSpec Rows.diskCrashesRow = true := by
  unfold joinedFacts
  rw [show Try.pinned.checked.prog.mayEnter = true from mayEnter, show Try.pinned.checked.prog.liftsFinal = false from liftsFinal, show Try.pinned.checked.prog.make = some .cut from make]
  kernel_rfl
theorem held : Rows.diskCrashesRow.holds Try.pinned (OpenSpec.ofChange Rows.diskCrashesSpec) :=
  OpenClaim.holds_of_wide 12 Try.f12 rfl rfl rfl rfl rfl rfl rfl ⟨rfl, rfl, rfl, rfl, rfl⟩ rfl rfl rfl rfl rfl (by kernel_rfl) Try.func12 facts
    (of_decide_eq_true (by kernel_rfl)) (by unfold Func.isWrapper; first | (rw [if_pos (by decide +kernel)]; kernel_rfl) | (rw [if_neg (by decide +kernel)]; exact ⟨rfl, rfl⟩))
    (fun os started H enc _ => lifted os started H enc)
end DiskCrashesLaw

/-- ████ THE STATEMENT ████ -/
theorem diskCrashes : Rows.DiskCrashesSaid := DiskCrashesLaw.held
#print axioms diskCrashes
end Go.Proofs.Ythneebbmodkjiaa
