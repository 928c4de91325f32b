/- Part of a proof over the seat Ythneebbmodkjiaa: module E15. Its claim's last module says what is proved. -/
import Derived.Test.YthneebbmodkjiaaE14
namespace Go.Proofs.Ythneebbmodkjiaa
open Go.Proofs

/-! ### The scripts of the shelf's chapter -/
structure BX where
  k : Int
  n : Int
  s : Tx
  pa : Option Addr
  pc : Nat
  ps : List Int
def BX.cells (x : BX) : List Value := [.int .i64 x.k, .int .i64 x.n, tv x.s, .slice x.pa x.ps.length x.pc]
theorem BX.cl (x : BX) : x.cells.length = 4 := rfl
def RdB (A : HP) (a : Option Addr) (l : List BX) : Prop := Reads A 4 a l.length (l.flatMap BX.cells) ∧ ∀ x ∈ l, Reads A 1 x.pa x.ps.length (x.ps.map iv)
theorem bx_get {l : List BX} {i : Nat} (h : i < l.length) (j : Nat) (hj : j < 4) : (l.flatMap BX.cells)[i * 4 + j]? = (l[i].cells)[j]? := fget BX.cl h j hj
structure TV where
  k : Int
  f : Int
  la : Option Addr
  lc : Nat
  l : List BX
  oa : Option Addr
  oc : Nat
  o : List Int
abbrev TV.cells (p : TV) : List Value := [.int .i64 p.k, .int .i64 p.f, .slice p.la p.l.length p.lc, .slice p.oa p.o.length p.oc]
def TV.val (p : TV) : Value := .agg p.cells.toArray
structure TV.Rd (A : HP) (p : TV) : Prop where
  l : RdB A p.la p.l
  o : Reads A 1 p.oa p.o.length (p.o.map iv)
  lb : p.l.length ≤ 2 ^ 47
  ob : p.o.length ≤ 2 ^ 47
  sb : ∀ x ∈ p.l, x.s.length ≤ 2 ^ 47 ∧ x.ps.length ≤ 2 ^ 47
/-- Numbers that are numbers. -/
def N64 (z : Int) : Prop := -9223372036854775808 ≤ z ∧ z ≤ 9223372036854775807
structure TV.Fi (p : TV) : Prop where
  k : N64 p.k
  f : N64 p.f
  l : ∀ x ∈ p.l, N64 x.k ∧ N64 x.n ∧ ∀ z ∈ x.ps, N64 z
  o : ∀ z ∈ p.o, N64 z
set_option maxHeartbeats 800000 in
theorem heavy10_spec {A : HP} {p : TV} (R : TV.Rd A p) : Spec Try.prog 60 [p.val] [A] (fun v B => (∃ b, v = .bool b ∧ (b = false → p.l.length ≤ 60)) ∧ B = [A]) := by
  refine Spec.of_ex Try.func60 rfl Try.ntmps60 rfl fun E cs Γ => ?_
  (simp only [argRho, List.cons_append, List.nil_append])
  (refine x_seq ?_); (refine x_region ?_)
  (refine r_op ?_)
  refine o_boxA (vs := p.cells) rfl rfl (fun b0 => ?_)
  have lb := R.lb
  have ob := R.ob
  (refine r_op (o_assign rfl rfl ?_); refine r_nil ?_; refine x_seq (x_region ?_); refine r_op (o_fieldAddr rfl rfl ?_); refine r_op (o_load rfl rfl rfl rfl ?_); refine r_op (o_lenS rfl rfl ?_); refine r_op (o_assign rfl rfl ?_); refine r_nil ?_; refine x_seq ?_; refine x_seq (x_region ?_); refine r_op (o_assign rfl rfl ?_); refine r_nil ?_; refine x_block ?_)
  refine x_loop (α := Nat × Int) (fun q => q.1 ≤ p.l.length ∧ 0 ≤ q.2 ∧ q.2 ≤ 2 ^ 50) (fun q => [(1, dp b0), (3, .int .i64 q.2), (4, .int .i64 q.1)]) (fun q => A :: Row b0 0 p.cells :: Γ)
    (fun q => p.l.length - q.1) (0, (p.o.length : Int)) ⟨Nat.zero_le _, by omega, by dsimp only; omega⟩ ⟨rfl, rfl, rfl, trivial⟩ Sub.h ?_
  rintro ⟨i, n⟩ ⟨hi, hn0, hn⟩ back
  dsimp only at hi hn0 hn back ⊢
  have hfin : ∀ n : Int, ∀ b, (b = (decide (6000 < n) || decide (60 < p.l.length))) → (b = false → p.l.length ≤ 60) := by
    rintro n b rfl h; simp at h; omega
  (refine x_seq ?_; refine x_seq (x_region ?_); refine r_op (o_move rfl rfl ?_); refine r_op (o_fieldAddr rfl rfl ?_); refine r_op (o_load rfl rfl rfl rfl ?_); refine r_op (o_lenS rfl rfl ?_))
  (refine r_op ?_)
  refine o_lss rfl rfl rfl (fun h => ?_) (fun h => ?_)
  · have hi1 : i < p.l.length := by omega
    (refine r_op (o_move rfl rfl ?_); refine r_guard rfl (o_move rfl rfl ?_))
    (refine r_guard rfl ?_)
    refine o_lss rfl rfl rfl (fun h2 => ?_) (fun h2 => ?_)
    · (refine r_op (o_pick_t rfl rfl rfl ?_); refine r_nil ?_; refine x_true rfl ?_; refine x_skip ?_; refine x_seq ?_; refine x_block ?_)
      have hs := R.sb _ (List.getElem_mem hi1)
      refine x_base R.l.1 (by omega) fun b off ha => ?_
      refine x_script 18 [(0,false),(1,false),(2,false),(3,false),(4,false),(5,false),(6,false),(7,false),(8,false),(9,false),(10,false),(11,false),(12,false),(13,false),(14,false),(15,false),(16,false),(17,false),(18,false)] [A, Row b0 0 p.cells] mixed (by kernel_rfl) permF ?_
      (refine s_v rfl (v_move rfl) ?_)
      refine s_v rfl (v_add rfl rfl (add_i64 (by omega))) ?_
      (refine s_v rfl (v_fieldAddr rfl) ?_; refine s_v rfl (v_load rfl rfl rfl) ?_; refine s_v rfl (v_move rfl) ?_)
      refine s_v rfl (v_indexH rfl rfl ha (j := i) rfl (by omega)) ?_
      (refine s_v rfl (v_fieldAddr rfl) ?_)
      refine s_v rfl (v_loadR rfl R.l.1 ha (i := i * 4 + 2) (by omega) ((bx_get hi1 2 (by decide)).trans rfl)) ?_
      refine s_v rfl (v_lenStr rfl) ?_
      rw [bstr_size]
      refine s_v rfl (v_add rfl rfl (add_i64 (by omega))) ?_
      (refine s_v rfl (v_fieldAddr rfl) ?_; refine s_v rfl (v_load rfl rfl rfl) ?_; refine s_v rfl (v_move rfl) ?_)
      refine s_v rfl (v_indexH rfl rfl ha (j := i) rfl (by omega)) ?_
      (refine s_v rfl (v_fieldAddr rfl) ?_)
      refine s_v rfl (v_loadR rfl R.l.1 ha (i := i * 4 + 3) (by omega) ((bx_get hi1 3 (by decide)).trans rfl)) ?_
      (refine s_v rfl (v_lenS rfl) ?_)
      refine s_v rfl (v_add rfl rfl (add_i64 (by omega))) ?_
      (refine s_v rfl (v_assign rfl) ?_)
      refine s_end rfl ?_
      (refine x_inBlock ?_; refine x_region ?_; refine r_op (o_move rfl rfl ?_); refine r_op (o_add rfl rfl (add_i64 (by omega)) rfl ?_); refine r_op (o_assign rfl rfl ?_); refine r_nil ?_)
      refine x_weak (back (i + 1, n + 1 + p.l[i].s.length + p.l[i].ps.length) ⟨by dsimp only; omega, by dsimp only; omega, by dsimp only; omega⟩ (by dsimp only; omega)) (by (repeat' (first | exact trivial | refine ⟨rfl, ?_⟩))) Sub.h
    · (refine r_op (o_pick_t rfl rfl rfl ?_); refine r_nil ?_; refine x_false rfl ?_; refine x_exit rfl ?_; refine x_seq (x_region ?_); refine r_op (o_move rfl rfl ?_); refine r_op (o_gtr_t rfl rfl (by omega) rfl ?_); refine r_op (o_move rfl rfl ?_); refine r_skip rfl rfl rfl ?_; refine r_skip rfl rfl rfl ?_; refine r_skip rfl rfl rfl ?_; refine r_skip rfl rfl rfl ?_; refine r_op (o_pick_t rfl rfl rfl ?_); refine r_op (o_assign rfl rfl ?_); refine r_nil ?_)
      exact x_ret rfl [A] ⟨⟨true, rfl, fun h => by cases h⟩, rfl⟩ Sub.h
  · (refine r_op (o_move rfl rfl ?_); refine r_skip rfl rfl rfl ?_; refine r_skip rfl rfl rfl ?_; refine r_op (o_pick_f rfl rfl rfl ?_); refine r_nil ?_; refine x_false rfl ?_; refine x_exit rfl ?_; refine x_seq (x_region ?_); refine r_op (o_move rfl rfl ?_))
    (refine r_op ?_)
    refine o_gtr rfl rfl rfl (fun h2 => ?_) (fun h2 => ?_)
    · (refine r_op (o_move rfl rfl ?_); refine r_skip rfl rfl rfl ?_; refine r_skip rfl rfl rfl ?_; refine r_skip rfl rfl rfl ?_; refine r_skip rfl rfl rfl ?_; refine r_op (o_pick_t rfl rfl rfl ?_); refine r_op (o_assign rfl rfl ?_); refine r_nil ?_)
      exact x_ret rfl [A] ⟨⟨true, rfl, fun h => by cases h⟩, rfl⟩ Sub.h
    · by_cases h3 : 60 < p.l.length
      · (refine r_op (o_move rfl rfl ?_); refine r_guard rfl (o_fieldAddr rfl rfl ?_); refine r_guard rfl (o_load rfl rfl rfl rfl ?_); refine r_guard rfl (o_lenS rfl rfl ?_); refine r_guard rfl (o_gtr_t rfl rfl (by omega) rfl ?_); refine r_op (o_pick_f rfl rfl rfl ?_); refine r_op (o_assign rfl rfl ?_); refine r_nil ?_)
        exact x_ret rfl [A] ⟨⟨true, rfl, fun h => by cases h⟩, rfl⟩ Sub.h
      · (refine r_op (o_move rfl rfl ?_); refine r_guard rfl (o_fieldAddr rfl rfl ?_); refine r_guard rfl (o_load rfl rfl rfl rfl ?_); refine r_guard rfl (o_lenS rfl rfl ?_); refine r_guard rfl (o_gtr_f rfl rfl (by omega) rfl ?_); refine r_op (o_pick_f rfl rfl rfl ?_); refine r_op (o_assign rfl rfl ?_); refine r_nil ?_)
        exact x_ret rfl [A] ⟨⟨false, rfl, fun _ => by omega⟩, rfl⟩ Sub.h
end Go.Proofs.Ythneebbmodkjiaa
