/- Part of a proof over the seat Ythneebbmodkjiaa: module D1. Its claim's last module says what is proved. -/
import Derived.Test.YthneebbmodkjiaaTy
namespace Go.Proofs.Ythneebbmodkjiaa
open Go.Proofs

theorem num_spec (a b : Int) : Spec Try.prog 103 [.int .i64 a, .int .i64 b] [] (fun v B => v = .bool (decide (0 ≤ a ∧ a ≤ b)) ∧ B = []) := by
  refine Spec.of_ex Try.func103 rfl Try.ntmps103 rfl fun E cs Γ => ?_
  (simp only [argRho, Nat.reduceAdd, List.nil_append])
  (refine x_seq (x_region ?_); refine r_op (o_assign rfl rfl ?_); refine r_nil ?_; refine x_seq (x_region ?_); refine r_op (o_move rfl rfl ?_))
  (refine r_op ?_)
  refine o_geq rfl rfl rfl (fun h => ?_) (fun h => ?_)
  · (refine r_op (o_move rfl rfl ?_); refine r_guard rfl (o_move rfl rfl ?_); refine r_guard rfl (o_move rfl rfl ?_))
    (refine r_guard rfl ?_)
    refine o_leq rfl rfl rfl (fun h' => ?_) (fun h' => ?_)
    · (refine r_op (o_pick_t rfl rfl rfl ?_); refine r_op (o_assign rfl rfl ?_); refine r_nil ?_)
      exact x_ret rfl [] ⟨by simp [retV, h, h'], rfl⟩ (.refl _)
    · (refine r_op (o_pick_t rfl rfl rfl ?_); refine r_op (o_assign rfl rfl ?_); refine r_nil ?_)
      exact x_ret rfl [] ⟨by simp [retV]; omega, rfl⟩ (.refl _)
  · (refine r_op (o_move rfl rfl ?_); refine r_skip rfl rfl rfl ?_; refine r_skip rfl rfl rfl ?_; refine r_skip rfl rfl rfl ?_; refine r_op (o_pick_f rfl rfl rfl ?_); refine r_op (o_assign rfl rfl ?_); refine r_nil ?_)
    exact x_ret rfl [] ⟨by simp [retV]; omega, rfl⟩ (.refl _)

theorem num9_spec (a : Int) : Spec Try.prog 30 [.int .i64 a] [] (fun v B => v = .int .i64 a ∧ B = []) := by
  refine Spec.of_ex Try.func30 rfl Try.ntmps30 rfl fun E cs Γ => ?_
  (simp only [argRho, List.nil_append])
  (refine x_seq (x_region ?_); refine r_op (o_assign rfl rfl ?_); refine r_nil ?_; refine x_seq (x_region ?_); refine r_op (o_move rfl rfl ?_); refine r_op (o_assign rfl rfl ?_); refine r_nil ?_)
  exact x_ret rfl [] ⟨rfl, rfl⟩ (.refl _)

/-- slices.Clone of bytes. -/
theorem clone_spec {A : HP} {a : Option Addr} {len cap : Nat} {bs : List UInt8} (R : Reads A 1 a len (bs.map bv)) (hlen : len ≤ 2 ^ 45) :
    Spec Try.prog 95 [.slice a len cap] [A] (fun v B => ∃ a' cap', v = .slice a' len cap' ∧ B = [A, Sl 1 a' len cap' (bs.map bv)]) := by
  refine Spec.of_ex Try.func95 rfl Try.ntmps95 rfl fun E cs Γ => ?_
  (simp only [argRho, List.cons_append, List.nil_append])
  (refine x_seq (x_region ?_); refine r_op (o_assign rfl rfl ?_); refine r_nil ?_; refine x_seq ?_; refine x_seq (x_region ?_); refine r_op (o_move rfl rfl ?_))
  (refine r_op ?_)
  have hl : bs.length = len := by simpa using R.1
  refine o_v (v_slnil (.inl rfl) rfl rfl) rfl ?_
  cases a with
  | none =>
    (refine r_nil ?_; refine x_true rfl ?_; refine x_seq (x_region ?_); refine r_op (o_assign rfl rfl ?_); refine r_nil ?_)
    refine x_fact (fun E w s => ?_) (fun (h0 : len = 0) => ?_)
    · rcases s.reads R with h | ⟨_, _, h, _⟩
      · exact h
      · cases h
    subst h0
    obtain rfl : bs = [] := List.length_eq_zero_iff.1 hl
    exact x_ret rfl [A, Sl 1 none 0 0 []] ⟨none, 0, rfl, rfl⟩ ((Ent.nilSl 1 _).trans Sub.h)
  | some q =>
    (refine r_nil ?_; refine x_false rfl ?_; refine x_skip ?_; refine x_seq (x_region ?_))
    (refine r_op ?_)
    refine o_buildSlice rfl (by rfl) (by rfl) (by rfl) (by rfl) rfl (fun a2 => ?_)
    (refine r_op (o_move rfl rfl ?_))
    (refine r_op ?_)
    refine o_append rfl rfl R (by rfl) (by rfl) (bv_one bs) (by omega) rfl (fun a3 c3 hc => ?_)
    (refine r_op (o_assign rfl rfl ?_); refine r_nil ?_)
    rw [Nat.zero_add] at hc ⊢
    rw [List.nil_append]
    exact x_ret rfl [A, Sl 1 a3 len c3 (bs.map bv)] ⟨a3, c3, by simp [retV], rfl⟩ Sub.h

theorem copyBytes_spec {A : HP} {a : Option Addr} {len cap : Nat} {bs : List UInt8} (R : Reads A 1 a len (bs.map bv)) (hlen : len ≤ 2 ^ 40) :
    Spec Try.prog 57 [.slice a len cap] [A] (fun v B => ∃ a' cap', v = .slice a' len cap' ∧ B = [A, Sl 1 a' len cap' (bs.map bv)]) := by
  have hl : bs.length = len := by simpa using R.1
  refine Spec.of_ex Try.func57 rfl Try.ntmps57 rfl fun E cs Γ => ?_
  (simp only [argRho, List.cons_append, List.nil_append])
  (refine x_seq (x_region ?_); refine r_op (o_assign rfl rfl ?_); refine r_nil ?_; refine x_seq (x_region ?_); refine r_op (o_assign rfl rfl ?_); refine r_nil ?_; refine x_seq ?_; refine x_seq (x_region ?_); refine r_op (o_assign rfl rfl ?_); refine r_nil ?_; refine x_block ?_)
  refine x_loop (α := Nat × Option Addr × Nat) (fun p => p.1 ≤ len) (fun p => [(0, .slice a len cap), (3, .slice p.2.1 p.1 p.2.2), (4, .int .i64 p.1)]) (fun p => Sl 1 p.2.1 p.1 p.2.2 ((bs.take p.1).map bv) :: A :: Γ)
    (fun p => len - p.1) (0, none, 0) (Nat.zero_le _) ⟨rfl, rfl, rfl, trivial⟩ (Ent.nilSl _ _) ?_
  rintro ⟨i, a', c'⟩ hi back
  dsimp only at hi back ⊢
  (refine x_seq ?_; refine x_seq (x_region ?_); refine r_op (o_move rfl rfl ?_); refine r_op (o_move rfl rfl ?_); refine r_op (o_lenS rfl rfl ?_))
  (refine r_op ?_)
  refine o_lss rfl rfl rfl (fun h => ?_) (fun h => ?_)
  · (refine r_nil ?_; refine x_true rfl ?_; refine x_skip ?_; refine x_seq ?_; refine x_block ?_; refine x_region ?_; refine r_op (o_move rfl rfl ?_); refine r_op (o_move rfl rfl ?_); refine r_op (o_move rfl rfl ?_))
    (refine r_op ?_)
    refine o_indexR rfl rfl R (j := i) rfl (by omega) rfl (fun b off ha => ?_)
    (refine r_op ?_)
    refine o_loadR rfl R ha (i := i) (by omega) (bget (by omega)) rfl ?_
    (refine r_op ?_)
    refine o_buildSlice rfl (by rfl) (by rfl) (by rfl) (by rfl) rfl (fun a2 => ?_)
    (refine r_op ?_)
    refine o_appendT rfl rfl (by rfl) (by rfl) (by rfl) (by omega) rfl (fun a3 c3 hc => ?_)
    (refine r_op (o_assign rfl rfl ?_); refine r_nil ?_; refine x_inBlock ?_; refine x_region ?_; refine r_op (o_move rfl rfl ?_))
    (refine r_op ?_)
    refine o_add rfl rfl (add_i64 (by omega)) rfl ?_
    (refine r_op (o_assign rfl rfl ?_); refine r_nil ?_)
    rw [take_snoc bv bs i (by omega)]
    refine x_weak (back (i + 1, a3, c3) (by dsimp only; omega) (by dsimp only; omega)) (by (repeat' (first | exact trivial | refine ⟨rfl, ?_⟩))) Sub.h
  · (refine r_nil ?_; refine x_false rfl ?_; refine x_exit rfl ?_; refine x_seq (x_region ?_); refine r_op (o_move rfl rfl ?_); refine r_op (o_assign rfl rfl ?_); refine r_nil ?_)
    have e : i = len := by omega
    subst e
    rw [take_all bs _ (by omega)]
    exact x_ret rfl [A, Sl 1 a' _ c' (bs.map bv)] ⟨a', c', rfl, rfl⟩ Sub.h

theorem bv_inj {x y : UInt8} (h : (x.toNat : Int) = y.toNat) : x = y := UInt8.toNat_inj.1 (by omega)

theorem eqBytes_spec {A B : HP} {a b : Option Addr} {len cap len' cap' : Nat} {bs cs : List UInt8} (R : Reads A 1 a len (bs.map bv)) (R' : Reads B 1 b len' (cs.map bv)) (hlen : len ≤ 2 ^ 60) (hlen' : len' ≤ 2 ^ 60) :
    Spec Try.prog 47 [.slice a len cap, .slice b len' cap'] [A, B] (fun v B' => v = .bool (decide (bs = cs)) ∧ B' = [A, B]) := by
  have hl : bs.length = len := by simpa using R.1
  have hl' : cs.length = len' := by simpa using R'.1
  refine Spec.of_ex Try.func47 rfl Try.ntmps47 rfl fun E fs Γ => ?_
  (simp only [argRho, Nat.reduceAdd, List.cons_append, List.nil_append])
  (refine x_seq (x_region ?_); refine r_op (o_assign rfl rfl ?_); refine r_nil ?_; refine x_seq ?_; refine x_seq (x_region ?_); refine r_op (o_move rfl rfl ?_); refine r_op (o_lenS rfl rfl ?_); refine r_op (o_move rfl rfl ?_); refine r_op (o_lenS rfl rfl ?_))
  (refine r_op ?_)
  refine o_neq rfl rfl rfl (fun h => ?_) (fun h => ?_)
  · (refine r_nil ?_; refine x_true rfl ?_; refine x_seq (x_region ?_); refine r_op (o_assign rfl rfl ?_); refine r_nil ?_)
    exact x_ret rfl [A, B] ⟨by simp [retV]; rintro rfl; omega, rfl⟩ Sub.h
  · (refine r_nil ?_; refine x_false rfl ?_; refine x_skip ?_; refine x_seq ?_; refine x_seq (x_region ?_); refine r_op (o_assign rfl rfl ?_); refine r_nil ?_; refine x_block ?_)
    have e : len = len' := by omega
    subst e
    refine x_loop (α := Nat) (fun i => i ≤ len ∧ bs.take i = cs.take i) (fun i => [(0, .slice a len cap), (1, .slice b len cap'), (5, .int .i64 i)]) (fun i => A :: B :: Γ)
      (fun i => len - i) 0 ⟨Nat.zero_le _, rfl⟩ ⟨rfl, rfl, rfl, trivial⟩ (.refl _) ?_
    rintro i ⟨hi, hp⟩ back
    (refine x_seq ?_; refine x_seq (x_region ?_); refine r_op (o_move rfl rfl ?_); refine r_op (o_move rfl rfl ?_); refine r_op (o_lenS rfl rfl ?_))
    (refine r_op ?_)
    refine o_lss rfl rfl rfl (fun h => ?_) (fun h => ?_)
    · (refine r_nil ?_; refine x_true rfl ?_; refine x_skip ?_; refine x_seq ?_; refine x_block ?_; refine x_seq ?_)
      refine x_base R (by omega) fun b1 o1 ha => ?_
      refine x_base R' (by omega) fun b2 o2 hb => ?_
      refine x_script 9 [(0,false),(1,false),(2,false),(3,false),(4,false),(5,false),(6,false),(7,false),(8,false)] [A, B] mixed (by kernel_rfl) permF ?_
      (refine s_v rfl (v_move rfl) ?_)
      (refine s_v rfl (v_move rfl) ?_)
      refine s_v rfl (v_indexH rfl rfl ha (j := i) rfl (by omega)) ?_
      refine s_v rfl (v_loadR rfl R ha (i := i) (by omega) (bget (by omega))) ?_
      (refine s_v rfl (v_move rfl) ?_)
      (refine s_v rfl (v_move rfl) ?_)
      refine s_v rfl (v_indexH rfl rfl hb (j := i) rfl (by omega)) ?_
      refine s_v rfl (v_loadR rfl R' hb (i := i) (by omega) (bget (by omega))) ?_
      by_cases hx : bs[i]'(by omega) = cs[i]'(by omega)
      · refine s_v rfl (v_neq_f rfl rfl (by rw [hx])) ?_
        refine s_end rfl ?_
        (refine x_false rfl ?_; refine x_skip ?_; refine x_inBlock ?_; refine x_region ?_; refine r_op (o_move rfl rfl ?_))
        (refine r_op ?_)
        refine o_add rfl rfl (add_i64 (by omega)) rfl ?_
        (refine r_op (o_assign rfl rfl ?_); refine r_nil ?_)
        refine x_weak (back (i + 1) ⟨by omega, by rw [List.take_succ_eq_append_getElem (by omega), List.take_succ_eq_append_getElem (by omega), hp, hx]⟩ (by omega)) (by (repeat' (first | exact trivial | refine ⟨rfl, ?_⟩))) Sub.h
      · refine s_v rfl (v_neq_t rfl rfl (fun h => hx (bv_inj h))) ?_
        refine s_end rfl ?_
        (refine x_true rfl ?_; refine x_seq (x_region ?_); refine r_op (o_assign rfl rfl ?_); refine r_nil ?_)
        exact x_ret rfl [A, B] ⟨by simp [retV]; rintro rfl; exact hx rfl, rfl⟩ Sub.h
    · (refine r_nil ?_; refine x_false rfl ?_; refine x_exit rfl ?_; refine x_seq (x_region ?_); refine r_op (o_assign rfl rfl ?_); refine r_nil ?_)
      have e : i = len := by omega
      subst e
      rw [take_all bs _ (by omega), take_all cs _ (by omega)] at hp
      exact x_ret rfl [A, B] ⟨by simp [retV, hp], rfl⟩ Sub.h
end Go.Proofs.Ythneebbmodkjiaa
