/- RackModel: for every input the call of tarnlaw11.RackModel returns true, and its argument reads behind the call as it read before. No condition beyond the given row's own. -/
import Derived.Test.YthneebbmodkjiaaK14
import Derived.Test.YthneebbmodkjiaaF3
import Derived.Test.YthneebbmodkjiaaF4
import Derived.Test.YthneebbmodkjiaaF6
namespace Go.Proofs.Ythneebbmodkjiaa
open Go.Proofs Go.ChangeShapes Go.WideShapes Go.ChangeAt Go.RowKit

namespace RackModelLaw
set_option maxRecDepth 100000 in
theorem lifted (os : Os) (started : os.Started) (H : Type) (enc : TypeId × Value → H) :
    ReturnsInHanded {} Try.checked os 28 .any (Rows.rackModelSpec.pre6 enc Try.prog Try.f28 Rows.rackModelRow.domain false) (Rows.rackModelSpec.post enc Try.prog Try.f28 false true false false) := by
  refine returnsInHanded_of_change_sized (C := Try.checked) own started (by kernel_rfl) Try.func28
    (ChangeSpec.witness6 (enc := enc) (C := Try.checked) false ⟨#[], #[.agg #[.int .i64 0, .slice none 0 0]], []⟩ 8 (by kernel_rfl) (by kernel_rfl) (by kernel_rfl) (by kernel_rfl)) ?_
  intro W base args ds gs before hval0 hW hcnd hsz _
  have hval : ∀ (j : Nat) t v, Try.f28.params[j]? = some t → args[j]? = some v → Value.okWide Try.prog W .any base t v := hval0
  have hW' := hW
  obtain ⟨p, q, hA0, hV, rfl, hfz, hnd⟩ := hW
  have hA : DataW.TrodAll enc Try.prog W 0 (fun _ => true) true Try.f28.params.toList args.toList ds p := hA0
  rw [Try.params28] at hA hval
  obtain ⟨v0, vs0, d0, ds0, p0, q0, hargs, rfl, rfl, h0, r0⟩ := trodAll_cons hA
  obtain ⟨rfl, rfl, rfl⟩ := trodAll_nil r0
  obtain rfl : args = #[v0] := by cases args; simp_all
  obtain ⟨rfl, rfl⟩ := trodVars_none hV
  have k0 := h0
  have lt0 : ∀ x ∈ p0, x.block < W.heap.size := by obtain ⟨m, hm⟩ := k0; exact DataW.trod_lt m _ _ _ hm
  have hz0 : ∀ n ∈ d0.weights Try.prog 93, n ≤ reachBytes := fun n hn => by
    have := List.all_eq_true.1 hsz n (DataW.weights_mem_each (j := 0) (t := 93) (d := d0) (by rw [Try.params28]; rfl) rfl n hn)
    simpa using this
  obtain ⟨c0, c1, y0, y1, m, rfl, rfl, -, hy0, hy1⟩ := Joins.open_agg2 Try.underlying93 (by kernel_rfl) (by kernel_rfl) (hval 0 93 v0 rfl rfl) h0
  have z1 : Szd Try.prog 64 y1 := fun n hn => hz0 n (by
    simp only [DataW.weights, Try.underlying93]
    exact DataW.weights_mem_each (ts := [3, 64]) (j := 1) rfl rfl n hn)
  obtain ⟨kf, pf, _, wf⟩ := DataW.trod_int Try.underlying3 hy0
  obtain ⟨la, lc, L, rfl, l1, l2, l5, l3, l4⟩ := read_bxsZ hy1 z1
  simp only [List.cons.injEq, and_true] at pf
  subst pf
  clear hA0 hval0
  have R : SR.Rd (OldW W) ⟨kf, la, lc, L⟩ := ⟨l4, l5, fun x hx => (l3 x hx).2⟩
  have Fi : SR.Fi ⟨kf, la, lc, L⟩ := ⟨wf64 wf, fun x hx => (l3 x hx).1⟩
  refine (Spec.walk (rmodel_spec R Fi)).mono fun e W' ⟨he, bel⟩ => ?_
  subst he
  exact ⟨_, rfl, _, _, _, [], _, [], hW', trodAll_mk1 (shut_bool Try.underlying4 _), (trodAll_cons_mk (Below.trod laidOut (by kernel_rfl) (of_decide_eq_true (by kernel_rfl)) k0 bel lt0) trodAll_mk0), rfl, bel.frame _, fun h => by cases h⟩

theorem facts : joinedFacts Try.pinned.checked.prog 28 Try.f28 Rows.rackModelSpec Rows.rackModelRow = true := by
  unfold joinedFacts
  rw [show Try.pinned.checked.prog.mayEnter = true from mayEnter, show Try.pinned.checked.prog.liftsFinal = false from liftsFinal, show Try.pinned.checked.prog.make = some .cut from make]
  kernel_rfl
theorem held : Rows.rackModelRow.holds Try.pinned (OpenSpec.ofChange Rows.rackModelSpec) :=
  OpenClaim.holds_of_wide 28 Try.f28 rfl rfl rfl rfl rfl rfl rfl ⟨rfl, rfl, rfl, rfl, rfl⟩ rfl rfl rfl rfl rfl (by kernel_rfl) Try.func28 facts
    (of_decide_eq_true (by kernel_rfl)) (by unfold Func.isWrapper; first | (rw [if_pos (by decide +kernel)]; kernel_rfl) | (rw [if_neg (by decide +kernel)]; exact ⟨rfl, rfl⟩))
    (fun os started H enc _ => lifted os started H enc)
end RackModelLaw

/-- ████ THE STATEMENT ████ -/
theorem rackModel : Rows.RackModelSaid := RackModelLaw.held
#print axioms rackModel
end Go.Proofs.Ythneebbmodkjiaa
