/- ShelfCrashes: for every input the call of tarnlaw10.ShelfCrashes returns true, and its argument reads behind the call as it read before. No condition beyond the given row's own. -/
import Derived.Test.YthneebbmodkjiaaE26
import Derived.Test.YthneebbmodkjiaaF3
import Derived.Test.YthneebbmodkjiaaF4
import Derived.Test.YthneebbmodkjiaaF6
namespace Go.Proofs.Ythneebbmodkjiaa
open Go.Proofs Go.ChangeShapes Go.WideShapes Go.ChangeAt Go.RowKit

namespace ShelfCrashesLaw
set_option maxRecDepth 100000 in
theorem lifted (os : Os) (started : os.Started) (H : Type) (enc : TypeId × Value → H) :
    ReturnsInHanded {} Try.checked os 21 .any (Rows.shelfCrashesSpec.pre6 enc Try.prog Try.f21 Rows.shelfCrashesRow.domain false) (Rows.shelfCrashesSpec.post enc Try.prog Try.f21 false true false false) := by
  refine returnsInHanded_of_change_sized (C := Try.checked) own started (by kernel_rfl) Try.func21
    (ChangeSpec.witness6 (enc := enc) (C := Try.checked) false ⟨#[], #[.agg #[.int .i64 0, .int .i64 0, .slice none 0 0, .slice none 0 0]], []⟩ 8 (by kernel_rfl) (by kernel_rfl) (by kernel_rfl) (by kernel_rfl)) ?_
  intro W base args ds gs before hval0 hW hcnd hsz _
  have hval : ∀ (j : Nat) t v, Try.f21.params[j]? = some t → args[j]? = some v → Value.okWide Try.prog W .any base t v := hval0
  have hW' := hW
  obtain ⟨p, q, hA0, hV, rfl, hfz, hnd⟩ := hW
  have hA : DataW.TrodAll enc Try.prog W 0 (fun _ => true) true Try.f21.params.toList args.toList ds p := hA0
  rw [Try.params21] at hA hval
  obtain ⟨v0, vs0, d0, ds0, p0, q0, hargs, rfl, rfl, h0, r0⟩ := trodAll_cons hA
  obtain ⟨rfl, rfl, rfl⟩ := trodAll_nil r0
  obtain rfl : args = #[v0] := by cases args; simp_all
  obtain ⟨rfl, rfl⟩ := trodVars_none hV
  have k0 := h0
  have lt0 : ∀ x ∈ p0, x.block < W.heap.size := by obtain ⟨m, hm⟩ := k0; exact DataW.trod_lt m _ _ _ hm
  have hz0 : ∀ n ∈ d0.weights Try.prog 66, n ≤ reachBytes := fun n hn => by
    have := List.all_eq_true.1 hsz n (DataW.weights_mem_each (j := 0) (t := 66) (d := d0) (by rw [Try.params21]; rfl) rfl n hn)
    simpa using this
  obtain ⟨c0, c1, c2, c3, y0, y1, y2, y3, m, rfl, rfl, -, hy0, hy1, hy2, hy3⟩ := Joins.open_agg4 Try.underlying66 (by kernel_rfl) (by kernel_rfl) (hval 0 66 v0 rfl rfl) h0
  have z2 : Szd Try.prog 64 y2 := fun n hn => hz0 n (by
    simp only [DataW.weights, Try.underlying66]
    exact DataW.weights_mem_each (ts := [3, 3, 64, 34]) (j := 2) rfl rfl n hn)
  have z3 : Szd Try.prog 34 y3 := fun n hn => hz0 n (by
    simp only [DataW.weights, Try.underlying66]
    exact DataW.weights_mem_each (ts := [3, 3, 64, 34]) (j := 3) rfl rfl n hn)
  obtain ⟨kk, pk, _, wk⟩ := DataW.trod_int Try.underlying3 hy0
  obtain ⟨kf, pf, _, wf⟩ := DataW.trod_int Try.underlying3 hy1
  obtain ⟨la, lc, L, rfl, l1, l2, l5, l3, l4⟩ := read_bxsZ hy2 z2
  obtain ⟨oa, oc, O, rfl, o1, o2, o5, o3, o4⟩ := read_numsZ hy3 z3
  simp only [List.cons.injEq, and_true] at pk pf
  subst pk pf
  clear hA0 hval0
  have R : TV.Rd (OldW W) ⟨kk, kf, la, lc, L, oa, oc, O⟩ := ⟨l4, o4, l5, o5, fun x hx => (l3 x hx).2⟩
  have Fi : TV.Fi ⟨kk, kf, la, lc, L, oa, oc, O⟩ := ⟨wf64 wk, wf64 wf, fun x hx => (l3 x hx).1, o3⟩
  refine (Spec.walk (crashes_spec R Fi)).mono fun e W' ⟨he, bel⟩ => ?_
  subst he
  exact ⟨_, rfl, _, _, _, [], _, [], hW', trodAll_mk1 (shut_bool Try.underlying4 _), (trodAll_cons_mk (Below.trod laidOut (by kernel_rfl) (of_decide_eq_true (by kernel_rfl)) k0 bel lt0) trodAll_mk0), rfl, bel.frame _, fun h => by cases h⟩

theorem facts : joinedFacts Try.pinned.checked.prog 21 Try.f21 Rows.shelfCrashesSpec Rows.shelfCrashesRow = true := by
  unfold joinedFacts
  rw [show Try.pinned.checked.prog.mayEnter = true from mayEnter, show Try.pinned.checked.prog.liftsFinal = false from liftsFinal, show Try.pinned.checked.prog.make = some .cut from make]
  kernel_rfl
theorem held : Rows.shelfCrashesRow.holds Try.pinned (OpenSpec.ofChange Rows.shelfCrashesSpec) :=
  OpenClaim.holds_of_wide 21 Try.f21 rfl rfl rfl rfl rfl rfl rfl ⟨rfl, rfl, rfl, rfl, rfl⟩ rfl rfl rfl rfl rfl (by kernel_rfl) Try.func21 facts
    (of_decide_eq_true (by kernel_rfl)) (by unfold Func.isWrapper; first | (rw [if_pos (by decide +kernel)]; kernel_rfl) | (rw [if_neg (by decide +kernel)]; exact ⟨rfl, rfl⟩))
    (fun os started H enc _ => lifted os started H enc)
end ShelfCrashesLaw

/-- ████ THE STATEMENT ████ -/
theorem shelfCrashes : Rows.ShelfCrashesSaid := ShelfCrashesLaw.held
#print axioms shelfCrashes
end Go.Proofs.Ythneebbmodkjiaa
