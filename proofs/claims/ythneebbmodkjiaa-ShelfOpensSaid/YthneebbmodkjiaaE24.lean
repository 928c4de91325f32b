/- Part of a proof over the seat Ythneebbmodkjiaa: module E24. Its claim's last module says what is proved. -/
import Derived.Test.YthneebbmodkjiaaE22
namespace Go.Proofs.Ythneebbmodkjiaa
open Go.Proofs

theorem puts_spec {A : HP} {p : TV} (R : TV.Rd A p) (Fi : p.Fi) : Spec Try.prog 16 [p.val] [A] (fun v B => v = .bool true ∧ B = [A]) := by
  refine Spec.of_ex Try.func16 rfl Try.ntmps16 rfl fun E cs Γ => ?_
  (simp only [argRho, List.cons_append, List.nil_append])
  (refine x_seq ?_); (refine x_region ?_)
  (refine r_op ?_)
  refine o_boxA (vs := p.cells) rfl rfl (fun px => ?_)
  (refine r_op (o_assign rfl rfl ?_); refine r_nil ?_; refine x_seq (x_region ?_))
  (refine r_op ?_)
  refine o_loadA (us := p.cells) rfl rfl rfl rfl rfl ?_
  (refine r_op ?_)
  refine o_call rfl (acts_spec 1 ⟨by decide, by decide⟩ R Fi) rfl ?_
  rintro v B ⟨rfl, rfl⟩
  (simp only [List.cons_append, List.nil_append])
  (refine r_op (o_assign rfl rfl ?_); refine r_nil ?_)
  exact x_ret rfl [A] ⟨rfl, rfl⟩ Sub.h
theorem dels_spec {A : HP} {p : TV} (R : TV.Rd A p) (Fi : p.Fi) : Spec Try.prog 17 [p.val] [A] (fun v B => v = .bool true ∧ B = [A]) := by
  refine Spec.of_ex Try.func17 rfl Try.ntmps17 rfl fun E cs Γ => ?_
  (simp only [argRho, List.cons_append, List.nil_append])
  (refine x_seq ?_); (refine x_region ?_)
  (refine r_op ?_)
  refine o_boxA (vs := p.cells) rfl rfl (fun px => ?_)
  (refine r_op (o_assign rfl rfl ?_); refine r_nil ?_; refine x_seq (x_region ?_))
  (refine r_op ?_)
  refine o_loadA (us := p.cells) rfl rfl rfl rfl rfl ?_
  (refine r_op ?_)
  refine o_call rfl (acts_spec 4 ⟨by decide, by decide⟩ R Fi) rfl ?_
  rintro v B ⟨rfl, rfl⟩
  (simp only [List.cons_append, List.nil_append])
  (refine r_op (o_assign rfl rfl ?_); refine r_nil ?_)
  exact x_ret rfl [A] ⟨rfl, rfl⟩ Sub.h
theorem gets_spec {A : HP} {p : TV} (R : TV.Rd A p) (Fi : p.Fi) : Spec Try.prog 18 [p.val] [A] (fun v B => v = .bool true ∧ B = [A]) := by
  refine Spec.of_ex Try.func18 rfl Try.ntmps18 rfl fun E cs Γ => ?_
  (simp only [argRho, List.cons_append, List.nil_append])
  (refine x_seq ?_); (refine x_region ?_)
  (refine r_op ?_)
  refine o_boxA (vs := p.cells) rfl rfl (fun px => ?_)
  (refine r_op (o_assign rfl rfl ?_); refine r_nil ?_; refine x_seq (x_region ?_))
  (refine r_op ?_)
  refine o_loadA (us := p.cells) rfl rfl rfl rfl rfl ?_
  (refine r_op ?_)
  refine o_call rfl (acts_spec 6 ⟨by decide, by decide⟩ R Fi) rfl ?_
  rintro v B ⟨rfl, rfl⟩
  (simp only [List.cons_append, List.nil_append])
  (refine r_op (o_assign rfl rfl ?_); refine r_nil ?_)
  exact x_ret rfl [A] ⟨rfl, rfl⟩ Sub.h
theorem opens_spec {A : HP} {p : TV} (R : TV.Rd A p) (Fi : p.Fi) : Spec Try.prog 19 [p.val] [A] (fun v B => v = .bool true ∧ B = [A]) := by
  refine Spec.of_ex Try.func19 rfl Try.ntmps19 rfl fun E cs Γ => ?_
  (simp only [argRho, List.cons_append, List.nil_append])
  (refine x_seq ?_); (refine x_region ?_)
  (refine r_op ?_)
  refine o_boxA (vs := p.cells) rfl rfl (fun px => ?_)
  (refine r_op (o_assign rfl rfl ?_); refine r_nil ?_; refine x_seq (x_region ?_))
  (refine r_op ?_)
  refine o_loadA (us := p.cells) rfl rfl rfl rfl rfl ?_
  (refine r_op ?_)
  refine o_call rfl (acts_spec 7 ⟨by decide, by decide⟩ R Fi) rfl ?_
  rintro v B ⟨rfl, rfl⟩
  (simp only [List.cons_append, List.nil_append])
  (refine r_op (o_assign rfl rfl ?_); refine r_nil ?_)
  exact x_ret rfl [A] ⟨rfl, rfl⟩ Sub.h
end Go.Proofs.Ythneebbmodkjiaa
