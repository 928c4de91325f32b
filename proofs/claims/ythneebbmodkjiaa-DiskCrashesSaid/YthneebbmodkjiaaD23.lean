/- Part of a proof over the seat Ythneebbmodkjiaa: module D23. Its claim's last module says what is proved. -/
import Derived.Test.YthneebbmodkjiaaD13
namespace Go.Proofs.Ythneebbmodkjiaa
open Go.Proofs

/-- May, the document's. -/
theorem refMay_spec {A : HP} {a : Option Addr} {cap : Nat} {q : List BS} (R : RdC A a q) (hc : q.length ≤ 2 ^ 63 - 1) : Spec Try.prog 39 [.slice a q.length cap] [A] (fun v B => v = .bool (may (cont q)) ∧ B = [A]) := by
  refine Spec.of_ex Try.func39 rfl Try.ntmps39 rfl fun E cs Γ => ?_
  (simp only [argRho, List.cons_append, List.nil_append])
  have hml : may (cont q) = ((q.length == 0 || q.length == 8) && !tooLong q) := by
    rw [Bool.eq_iff_iff]
    unfold may tooLong cont
    simp
  by_cases h1 : q.length ≠ 0 ∧ q.length ≠ 8
  · obtain ⟨h1, h2⟩ := h1
    (refine x_seq (x_region ?_); refine r_op (o_assign rfl rfl ?_); refine r_nil ?_; refine x_seq ?_; refine x_seq (x_region ?_); refine r_op (o_move rfl rfl ?_); refine r_op (o_lenS rfl rfl ?_); refine r_op (o_neq_t rfl rfl (by omega) rfl ?_); refine r_op (o_move rfl rfl ?_); refine r_guard rfl (o_move rfl rfl ?_); refine r_guard rfl (o_lenS rfl rfl ?_); refine r_guard rfl (o_neq_t rfl rfl (by omega) rfl ?_); refine r_op (o_pick_t rfl rfl rfl ?_); refine r_nil ?_; refine x_true rfl ?_; refine x_seq (x_region ?_); refine r_op (o_assign rfl rfl ?_); refine r_nil ?_)
    refine x_ret rfl [A] ⟨?_, rfl⟩ Sub.h
    rw [hml]; simp [retV, h1, h2]
  · have h3 : (q.length == 0 || q.length == 8) = true := by
      rcases (by omega : q.length = 0 ∨ q.length = 8) with h | h <;> rw [h] <;> rfl
    rw [h3, Bool.true_and] at hml
    (refine x_seq ?_); (refine x_region ?_)
    (refine r_op ?_); (refine o_assign rfl rfl ?_)
    (refine r_nil ?_)
    refine x_cut (α := Unit) (fun _ => True) (fun _ => [(0, .slice a q.length cap)]) (fun _ => A :: Γ) ?_ ?_
    · rintro - -
      (refine x_seq ?_; refine x_seq (x_region ?_); refine r_op (o_assign rfl rfl ?_); refine r_nil ?_; refine x_block ?_)
      refine x_loop (α := Nat) (fun i => i ≤ q.length ∧ tooLong (q.take i) = false) (fun i => [(0, .slice a q.length cap), (3, .int .i64 i)]) (fun i => A :: Γ)
        (fun i => q.length - i) 0 ⟨Nat.zero_le _, rfl⟩ ⟨rfl, rfl, trivial⟩ (.refl _) ?_
      rintro i ⟨hi, hp⟩ back
      (refine x_seq ?_; refine x_seq (x_region ?_); refine r_op (o_move rfl rfl ?_); refine r_op (o_move rfl rfl ?_); refine r_op (o_lenS rfl rfl ?_))
      (refine r_op ?_)
      refine o_lss rfl rfl rfl (fun h => ?_) (fun h => ?_)
      · have hi1 : i < q.length := by omega
        (refine r_nil ?_; refine x_true rfl ?_; refine x_skip ?_; refine x_seq ?_; refine x_block ?_; refine x_seq (x_region ?_); refine r_op (o_move rfl rfl ?_); refine r_op (o_move rfl rfl ?_))
        (refine r_op ?_)
        refine o_indexR rfl rfl R.1 (j := i) rfl hi1 rfl (fun b off ha => ?_)
        (refine r_op ?_)
        refine o_loadR rfl R.1 ha (i := i) (by omega) (mget sv hi1) rfl ?_
        (refine r_op (o_lenS rfl rfl ?_))
        (refine r_op ?_)
        refine o_gtr rfl rfl rfl (fun h4 => ?_) (fun h4 => ?_)
        · (refine r_nil ?_; refine x_true rfl ?_; refine x_seq (x_region ?_); refine r_op (o_assign rfl rfl ?_); refine r_nil ?_)
          refine x_ret rfl [A] ⟨?_, rfl⟩ Sub.h
          have e2 : tooLong q = true := by
            unfold tooLong
            rw [List.any_eq_true]
            exact ⟨q[i], List.getElem_mem hi1, by simp; omega⟩
          rw [hml, e2]; rfl
        · (refine r_nil ?_; refine x_false rfl ?_; refine x_skip ?_; refine x_inBlock ?_; refine x_region ?_; refine r_op (o_move rfl rfl ?_); refine r_op (o_add rfl rfl (add_i64 (by omega)) rfl ?_); refine r_op (o_assign rfl rfl ?_); refine r_nil ?_)
          refine x_weak (back (i + 1) ⟨by omega, by
            unfold tooLong at hp ⊢
            rw [List.take_succ_eq_append_getElem hi1, List.any_append, hp]; simp; omega⟩ (by omega)) (by (repeat' (first | exact trivial | refine ⟨rfl, ?_⟩))) Sub.h
      · (refine r_nil ?_; refine x_false rfl ?_; refine x_exit rfl ?_; refine x_seq (x_region ?_); refine r_op (o_assign rfl rfl ?_); refine r_nil ?_)
        rw [take_all _ _ (by omega)] at hp
        refine x_ret rfl [A] ⟨?_, rfl⟩ Sub.h
        rw [hml, hp]; rfl
    · intro td back
      by_cases h4 : q.length = 0
      · (refine x_seq (x_region ?_); refine r_op (o_move rfl rfl ?_); refine r_op (o_lenS rfl rfl ?_); refine r_op (o_neq_f rfl rfl (by omega) rfl ?_); refine r_op (o_move rfl rfl ?_); refine r_skip rfl rfl rfl ?_; refine r_skip rfl rfl rfl ?_; refine r_skip rfl rfl rfl ?_; refine r_op (o_pick_f rfl rfl rfl ?_); refine r_nil ?_; refine x_false rfl ?_; refine x_skip ?_)
        refine x_weak (back () trivial) (by (repeat' (first | exact trivial | refine ⟨rfl, ?_⟩))) Sub.h
      · (refine x_seq (x_region ?_); refine r_op (o_move rfl rfl ?_); refine r_op (o_lenS rfl rfl ?_); refine r_op (o_neq_t rfl rfl (by omega) rfl ?_); refine r_op (o_move rfl rfl ?_); refine r_guard rfl (o_move rfl rfl ?_); refine r_guard rfl (o_lenS rfl rfl ?_); refine r_guard rfl (o_neq_f rfl rfl (by omega) rfl ?_); refine r_op (o_pick_t rfl rfl rfl ?_); refine r_nil ?_; refine x_false rfl ?_; refine x_skip ?_)
        refine x_weak (back () trivial) (by (repeat' (first | exact trivial | refine ⟨rfl, ?_⟩))) Sub.h
theorem keepAll_len8 : ∀ (fs : List Fl) (ps : List Int), (keepAll fs ps).length = fs.length := by
  intro fs
  induction fs with
  | nil => intro ps; rfl
  | cons x fs ih => intro ps; simp [keepAll, ih]
theorem keep_len : ∀ (cs : List Ch) (b : List UInt8) (ps : List Int) (n : Nat), b.length ≤ n → (∀ c ∈ cs, c.at' + c.b.length ≤ n) → (keep b cs ps).1.length ≤ n := by
  intro cs
  induction cs with
  | nil => intro b ps n h _; exact h
  | cons c cs ih =>
    intro b ps n h hc
    exact ih _ _ n (keep1_len b c _ n h (hc c (List.mem_cons_self ..))) fun x hx => hc x (List.mem_cons_of_mem _ hx)
theorem keepAll_le : ∀ (fs : List Fl) (ps : List Int) (n : Nat), (∀ x ∈ fs, x.safe.length ≤ n ∧ ∀ c ∈ x.chg, c.at' + c.b.length ≤ n) → ∀ y ∈ keepAll fs ps, y.length ≤ n := by
  intro fs
  induction fs with
  | nil => intro ps n _ y hy; cases hy
  | cons x fs ih =>
    intro ps n h y hy
    unfold keepAll at hy
    rcases List.mem_cons.1 hy with rfl | hy
    · have := h x (List.mem_cons_self ..)
      exact keep_len _ _ _ n this.1 this.2
    · exact ih _ n (fun z hz => h z (List.mem_cons_of_mem _ hz)) y hy
theorem Dk.okn.may {n : Nat} {d : Dk} (h : d.okn n) (ps : List Int) : may (keepAll d.fs ps) = true := by
  unfold Ythneebbmodkjiaa.may
  rw [keepAll_len8, h.1]
  simp only [Nat.reduceBEq, Bool.or_true, Bool.true_and, List.all_eq_true, decide_eq_true_eq]
  exact keepAll_le d.fs ps 131072 fun x hx => ⟨(h.2 x hx).2.1, (h.2 x hx).2.2.1⟩
end Go.Proofs.Ythneebbmodkjiaa
