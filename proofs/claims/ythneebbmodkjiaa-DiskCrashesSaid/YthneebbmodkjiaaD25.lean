/- Part of a proof over the seat Ythneebbmodkjiaa: module D25. Its claim's last module says what is proved. -/
import Derived.Test.YthneebbmodkjiaaD24
namespace Go.Proofs.Ythneebbmodkjiaa
open Go.Proofs

theorem diskReads_spec {A : HP} {p : SV} (R : SV.Rd A p) (F : ∀ x ∈ p.l, x.Fit) (Z : p.Sz) : Spec Try.prog 8 [p.val] [A] (fun v B => v = .bool true ∧ B = [A]) := by
  refine Spec.of_ex Try.func8 rfl Try.ntmps8 rfl fun E cs Γ => ?_
  (simp only [argRho, List.cons_append, List.nil_append])
  (refine x_seq ?_); (refine x_region ?_)
  (refine r_op ?_)
  refine o_boxA (vs := p.cells) rfl rfl (fun px => ?_)
  (refine r_op (o_assign rfl rfl ?_); refine r_nil ?_; refine x_seq (x_region ?_))
  (refine r_op ?_)
  refine o_loadA (us := p.cells) rfl rfl rfl rfl rfl ?_
  (refine r_op ?_)
  refine o_call rfl (calls_spec 1 (by decide) R F Z) rfl ?_
  rintro v B ⟨rfl, rfl⟩
  (simp only [List.cons_append, List.nil_append])
  (refine r_op (o_assign rfl rfl ?_); refine r_nil ?_)
  exact x_ret rfl [A] ⟨rfl, rfl⟩ Sub.h
theorem diskCuts_spec {A : HP} {p : SV} (R : SV.Rd A p) (F : ∀ x ∈ p.l, x.Fit) (Z : p.Sz) : Spec Try.prog 9 [p.val] [A] (fun v B => v = .bool true ∧ B = [A]) := by
  refine Spec.of_ex Try.func9 rfl Try.ntmps9 rfl fun E cs Γ => ?_
  (simp only [argRho, List.cons_append, List.nil_append])
  (refine x_seq ?_); (refine x_region ?_)
  (refine r_op ?_)
  refine o_boxA (vs := p.cells) rfl rfl (fun px => ?_)
  (refine r_op (o_assign rfl rfl ?_); refine r_nil ?_; refine x_seq (x_region ?_))
  (refine r_op ?_)
  refine o_loadA (us := p.cells) rfl rfl rfl rfl rfl ?_
  (refine r_op ?_)
  refine o_call rfl (calls_spec 7 (by decide) R F Z) rfl ?_
  rintro v B ⟨rfl, rfl⟩
  (simp only [List.cons_append, List.nil_append])
  (refine r_op (o_assign rfl rfl ?_); refine r_nil ?_)
  exact x_ret rfl [A] ⟨rfl, rfl⟩ Sub.h
theorem diskSyncs_spec {A : HP} {p : SV} (R : SV.Rd A p) (F : ∀ x ∈ p.l, x.Fit) (Z : p.Sz) : Spec Try.prog 10 [p.val] [A] (fun v B => v = .bool true ∧ B = [A]) := by
  refine Spec.of_ex Try.func10 rfl Try.ntmps10 rfl fun E cs Γ => ?_
  (simp only [argRho, List.cons_append, List.nil_append])
  (refine x_seq ?_); (refine x_region ?_)
  (refine r_op ?_)
  refine o_boxA (vs := p.cells) rfl rfl (fun px => ?_)
  (refine r_op (o_assign rfl rfl ?_); refine r_nil ?_; refine x_seq (x_region ?_))
  (refine r_op ?_)
  refine o_loadA (us := p.cells) rfl rfl rfl rfl rfl ?_
  (refine r_op ?_)
  refine o_call rfl (calls_spec 8 (by decide) R F Z) rfl ?_
  rintro v B ⟨rfl, rfl⟩
  (simp only [List.cons_append, List.nil_append])
  (refine r_op (o_assign rfl rfl ?_); refine r_nil ?_)
  exact x_ret rfl [A] ⟨rfl, rfl⟩ Sub.h
theorem diskOffs_spec {A : HP} {p : SV} (R : SV.Rd A p) (F : ∀ x ∈ p.l, x.Fit) (Z : p.Sz) : Spec Try.prog 11 [p.val] [A] (fun v B => v = .bool true ∧ B = [A]) := by
  refine Spec.of_ex Try.func11 rfl Try.ntmps11 rfl fun E cs Γ => ?_
  (simp only [argRho, List.cons_append, List.nil_append])
  (refine x_seq ?_); (refine x_region ?_)
  (refine r_op ?_)
  refine o_boxA (vs := p.cells) rfl rfl (fun px => ?_)
  (refine r_op (o_assign rfl rfl ?_); refine r_nil ?_; refine x_seq (x_region ?_))
  (refine r_op ?_)
  refine o_loadA (us := p.cells) rfl rfl rfl rfl rfl ?_
  (refine r_op ?_)
  refine o_call rfl (calls_spec 10 (by decide) R F Z) rfl ?_
  rintro v B ⟨rfl, rfl⟩
  (simp only [List.cons_append, List.nil_append])
  (refine r_op (o_assign rfl rfl ?_); refine r_nil ?_)
  exact x_ret rfl [A] ⟨rfl, rfl⟩ Sub.h
theorem diskCrashes_spec {A : HP} {p : SV} (R : SV.Rd A p) (F : ∀ x ∈ p.l, x.Fit) (Z : p.Sz) : Spec Try.prog 12 [p.val] [A] (fun v B => v = .bool true ∧ B = [A]) := by
  refine Spec.of_ex Try.func12 rfl Try.ntmps12 rfl fun E cs Γ => ?_
  (simp only [argRho, List.cons_append, List.nil_append])
  (refine x_seq ?_); (refine x_region ?_)
  (refine r_op ?_)
  refine o_boxA (vs := p.cells) rfl rfl (fun px => ?_)
  (refine r_op (o_assign rfl rfl ?_); refine r_nil ?_; refine x_seq (x_region ?_))
  (refine r_op ?_)
  refine o_loadA (us := p.cells) rfl rfl rfl rfl rfl ?_
  (refine r_op ?_)
  refine o_call rfl (calls_spec 12 (by decide) R F Z) rfl ?_
  rintro v B ⟨rfl, rfl⟩
  (simp only [List.cons_append, List.nil_append])
  (refine r_op (o_assign rfl rfl ?_); refine r_nil ?_)
  exact x_ret rfl [A] ⟨rfl, rfl⟩ Sub.h
end Go.Proofs.Ythneebbmodkjiaa
