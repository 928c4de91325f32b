/- Part of a proof over the seat Ythneebbmodkjiaa: module D21. Its claim's last module says what is proved. -/
import Derived.Test.YthneebbmodkjiaaF2
namespace Go.Proofs.Ythneebbmodkjiaa
open Go.Proofs

/-! ### How heavy a script is, to the number -/
def cw (q : List BS) : Nat := q.length + (q.map fun x => x.2.2.length).sum
def aw (l : List AV) : Nat := (l.map fun x => x.b.2.2.length + x.ps.length).sum
structure SV.Sz (p : SV) : Prop where
  f : p.f.length ≤ 2 ^ 47
  fs : ∀ x ∈ p.f, x.2.2.length ≤ 2 ^ 47
  l : p.l.length ≤ 2 ^ 47
  b : ∀ x ∈ p.l, x.b.2.2.length ≤ 2 ^ 47 ∧ x.ps.length ≤ 2 ^ 47
theorem sum_take {α : Type} (g : α → Nat) (l : List α) (i : Nat) (h : i < l.length) : ((l.take (i + 1)).map g).sum = ((l.take i).map g).sum + g l[i] := by
  rw [List.take_succ_eq_append_getElem h, List.map_append, List.sum_append]; simp
theorem sum_mem {α : Type} (g : α → Nat) {l : List α} {x : α} (h : x ∈ l) : g x ≤ (l.map g).sum := by
  induction l with
  | nil => cases h
  | cons y l ih =>
    rw [List.map_cons, List.sum_cons]
    rcases List.mem_cons.1 h with rfl | h
    · omega
    · have := ih h; omega
theorem weightN_spec {A : HP} {a : Option Addr} {cap : Nat} {q : List BS} (R : RdC A a q) (hc : q.length ≤ 2 ^ 47) (hs : ∀ x ∈ q, x.2.2.length ≤ 2 ^ 47) :
    Spec Try.prog 101 [.slice a q.length cap] [A] (fun v B => (∃ n : Nat, v = .int .i64 n ∧ n ≤ 2 ^ 49 ∧ (n = cw q ∨ 2 ^ 20 ≤ n)) ∧ B = [A]) := by
  refine Spec.of_ex Try.func101 rfl Try.ntmps101 rfl fun E cs Γ => ?_
  (simp only [argRho, List.cons_append, List.nil_append])
  (refine x_seq (x_region ?_); refine r_op (o_assign rfl rfl ?_); refine r_nil ?_; refine x_seq (x_region ?_); refine r_op (o_move rfl rfl ?_); refine r_op (o_lenS rfl rfl ?_); refine r_op (o_assign rfl rfl ?_); refine r_nil ?_; refine x_seq ?_; refine x_seq (x_region ?_); refine r_op (o_assign rfl rfl ?_); refine r_nil ?_; refine x_block ?_)
  refine x_loop (α := Nat × Nat) (fun p => p.1 ≤ q.length ∧ p.2 = q.length + ((q.take p.1).map fun x => x.2.2.length).sum ∧ p.2 ≤ 2 ^ 49) (fun p => [(0, .slice a q.length cap), (3, .int .i64 p.2), (4, .int .i64 p.1)]) (fun p => A :: Γ)
    (fun p => q.length - p.1) (0, q.length) ⟨Nat.zero_le _, by simp, by omega⟩ ⟨rfl, rfl, rfl, trivial⟩ (.refl _) ?_
  rintro ⟨i, n⟩ ⟨hi, hn, hb⟩ back
  dsimp only at hi hn hb back ⊢
  (refine x_seq ?_; refine x_seq (x_region ?_); refine r_op (o_move rfl rfl ?_); refine r_op (o_move rfl rfl ?_); refine r_op (o_lenS rfl rfl ?_))
  (refine r_op ?_)
  refine o_lss rfl rfl rfl (fun h => ?_) (fun h => ?_)
  · (refine r_op (o_move rfl rfl ?_); refine r_guard rfl (o_move rfl rfl ?_))
    (refine r_guard rfl ?_)
    refine o_lss rfl rfl rfl (fun h2 => ?_) (fun h2 => ?_)
    · have hi1 : i < q.length := by omega
      have hx := hs q[i] (List.getElem_mem hi1)
      (refine r_op (o_pick_t rfl rfl rfl ?_); refine r_nil ?_; refine x_true rfl ?_; refine x_skip ?_; refine x_seq ?_; refine x_block ?_; refine x_region ?_; refine r_op (o_move rfl rfl ?_); refine r_op (o_move rfl rfl ?_); refine r_op (o_move rfl rfl ?_))
      (refine r_op ?_)
      refine o_indexR rfl rfl R.1 (j := i) rfl (by omega) rfl (fun b off ha => ?_)
      (refine r_op ?_)
      refine o_loadR rfl R.1 ha (i := i) (by omega) (mget sv (by omega)) rfl ?_
      (refine r_op (o_lenS rfl rfl ?_))
      (refine r_op ?_)
      refine o_add rfl rfl (add_i64 (by omega)) rfl ?_
      rw [← Int.natCast_add]
      (refine r_op (o_assign rfl rfl ?_); refine r_nil ?_; refine x_inBlock ?_; refine x_region ?_; refine r_op (o_move rfl rfl ?_); refine r_op (o_add rfl rfl (add_i64 (by omega)) rfl ?_); refine r_op (o_assign rfl rfl ?_); refine r_nil ?_)
      refine x_weak (back (i + 1, n + q[i].2.2.length) ⟨by dsimp only; omega, by dsimp only; rw [sum_take (fun x : BS => x.2.2.length) q i hi1]; omega, by dsimp only; omega⟩ (by dsimp only; omega)) (by (repeat' (first | exact trivial | refine ⟨rfl, ?_⟩))) Sub.h
    · (refine r_op (o_pick_t rfl rfl rfl ?_); refine r_nil ?_; refine x_false rfl ?_; refine x_exit rfl ?_; refine x_seq (x_region ?_); refine r_op (o_move rfl rfl ?_); refine r_op (o_assign rfl rfl ?_); refine r_nil ?_)
      exact x_ret rfl [A] ⟨⟨n, rfl, hb, .inr (by omega)⟩, rfl⟩ Sub.h
  · (refine r_op (o_move rfl rfl ?_); refine r_skip rfl rfl rfl ?_; refine r_skip rfl rfl rfl ?_; refine r_op (o_pick_f rfl rfl rfl ?_); refine r_nil ?_; refine x_false rfl ?_; refine x_exit rfl ?_; refine x_seq (x_region ?_); refine r_op (o_move rfl rfl ?_); refine r_op (o_assign rfl rfl ?_); refine r_nil ?_)
    obtain rfl : i = q.length := by omega
    rw [List.take_length] at hn
    exact x_ret rfl [A] ⟨⟨n, rfl, hb, .inl (by rw [hn]; rfl)⟩, rfl⟩ Sub.h

theorem heavyN_spec {A : HP} {p : SV} (R : SV.Rd A p) (Z : p.Sz) : Spec Try.prog 35 [p.val] [A] (fun v B => (∃ b, v = .bool b ∧ (b = false → cw p.f + aw p.l ≤ 8000 ∧ p.l.length ≤ 200)) ∧ B = [A]) := by
  refine Spec.of_ex Try.func35 rfl Try.ntmps35 rfl fun E cs Γ => ?_
  (simp only [argRho, List.cons_append, List.nil_append])
  (refine x_seq ?_); (refine x_region ?_)
  (refine r_op ?_)
  refine o_boxA (vs := p.cells) rfl rfl (fun b0 => ?_)
  (refine r_op (o_assign rfl rfl ?_); refine r_nil ?_; refine x_seq (x_region ?_); refine r_op (o_fieldAddr rfl rfl ?_); refine r_op (o_load rfl rfl rfl rfl ?_))
  (refine r_op ?_)
  refine o_call rfl (weightN_spec R.f Z.f Z.fs) rfl ?_
  rintro v B ⟨⟨n0, rfl, hn0, hw⟩, rfl⟩
  (simp only [List.cons_append, List.nil_append])
  (refine r_op (o_assign rfl rfl ?_); refine r_nil ?_; refine x_seq ?_; refine x_seq (x_region ?_); refine r_op (o_assign rfl rfl ?_); refine r_nil ?_)
  have lb := Z.l
  refine x_cutK (α := Nat) (fun n => n ≤ 8000 → n = cw p.f + aw p.l) (fun n => [(1, .pointer (some ⟨b0, 0, none⟩)), (3, .int .i64 n)]) (fun n => A :: Row b0 0 p.cells :: Γ) ?_ ?_
  · rintro n hn
    by_cases h1 : 8000 < n
    · (refine x_seq (x_region ?_); refine r_op (o_move rfl rfl ?_); refine r_op (o_gtr_t rfl rfl (by omega) rfl ?_); refine r_op (o_move rfl rfl ?_); refine r_skip rfl rfl rfl ?_; refine r_skip rfl rfl rfl ?_; refine r_skip rfl rfl rfl ?_; refine r_skip rfl rfl rfl ?_; refine r_op (o_pick_t rfl rfl rfl ?_); refine r_op (o_assign rfl rfl ?_); refine r_nil ?_)
      exact x_ret rfl [A] ⟨⟨true, rfl, fun h => by cases h⟩, rfl⟩ Sub.h
    · (refine x_seq (x_region ?_); refine r_op (o_move rfl rfl ?_); refine r_op (o_gtr_f rfl rfl (by omega) rfl ?_); refine r_op (o_move rfl rfl ?_); refine r_guard rfl (o_fieldAddr rfl rfl ?_); refine r_guard rfl (o_load rfl rfl rfl rfl ?_); refine r_guard rfl (o_lenS rfl rfl ?_))
      (refine r_guard rfl ?_)
      refine o_gtr rfl rfl rfl (fun h4 => ?_) (fun h4 => ?_)
      · (refine r_op (o_pick_f rfl rfl rfl ?_); refine r_op (o_assign rfl rfl ?_); refine r_nil ?_)
        exact x_ret rfl [A] ⟨⟨true, rfl, fun h => by cases h⟩, rfl⟩ Sub.h
      · (refine r_op (o_pick_f rfl rfl rfl ?_); refine r_op (o_assign rfl rfl ?_); refine r_nil ?_)
        exact x_ret rfl [A] ⟨⟨false, rfl, fun _ => ⟨by have := hn (by omega); omega, by omega⟩⟩, rfl⟩ Sub.h
  · intro td back0
    (refine x_block ?_)
    refine x_loop (α := Nat × Nat) (fun q => q.1 ≤ p.l.length ∧ q.2 = n0 + aw (p.l.take q.1) ∧ q.2 ≤ 2 ^ 50) (fun q => [(1, .pointer (some ⟨b0, 0, none⟩)), (3, .int .i64 q.2), (4, .int .i64 q.1)]) (fun q => A :: Row b0 0 p.cells :: Γ)
      (fun q => p.l.length - q.1) (0, n0) ⟨Nat.zero_le _, rfl, by omega⟩ ⟨rfl, rfl, rfl, trivial⟩ Sub.h ?_
    rintro ⟨i, n⟩ ⟨hi, hn, hb⟩ back
    dsimp only at hi hn hb back ⊢
    (refine x_seq ?_; refine x_seq (x_region ?_); refine r_op (o_move rfl rfl ?_); refine r_op (o_fieldAddr rfl rfl ?_); refine r_op (o_load rfl rfl rfl rfl ?_); refine r_op (o_lenS rfl rfl ?_))
    (refine r_op ?_)
    refine o_lss rfl rfl rfl (fun h => ?_) (fun h => ?_)
    · (refine r_op (o_move rfl rfl ?_); refine r_guard rfl (o_move rfl rfl ?_))
      (refine r_guard rfl ?_)
      refine o_lss rfl rfl rfl (fun h2 => ?_) (fun h2 => ?_)
      · have hi1 : i < p.l.length := by omega
        have hz := Z.b p.l[i] (List.getElem_mem hi1)
        (refine r_op (o_pick_t rfl rfl rfl ?_); refine r_nil ?_; refine x_true rfl ?_; refine x_skip ?_; refine x_seq ?_; refine x_block ?_)
        refine x_base R.l.1 (by omega) fun b off ha => ?_
        refine x_script 16 [(0,false),(1,false),(2,false),(3,false),(4,false),(5,false),(6,false),(7,false),(8,false),(9,false),(10,false),(11,false),(12,false),(13,false),(14,false),(15,false),(16,false),(17,false)] [A, Row b0 0 p.cells] mixed (by kernel_rfl) permF ?_
        (refine s_v rfl (v_move rfl) ?_; refine s_v rfl (v_fieldAddr rfl) ?_; refine s_v rfl (v_load rfl rfl rfl) ?_; refine s_v rfl (v_move rfl) ?_)
        refine s_v rfl (v_indexH rfl rfl ha (j := i) rfl (by omega)) ?_
        (refine s_v rfl (v_fieldAddr rfl) ?_)
        refine s_v rfl (v_loadR rfl R.l.1 ha (i := i * 6 + 4) (by omega) ((RdS.cell (_A := A) (_a := none) hi1 4 (by decide)).trans rfl)) ?_
        (refine s_v rfl (v_lenS rfl) ?_)
        refine s_v rfl (v_add rfl rfl (add_i64 (by omega))) ?_
        (refine s_v rfl (v_fieldAddr rfl) ?_; refine s_v rfl (v_load rfl rfl rfl) ?_; refine s_v rfl (v_move rfl) ?_)
        refine s_v rfl (v_indexH rfl rfl ha (j := i) rfl (by omega)) ?_
        (refine s_v rfl (v_fieldAddr rfl) ?_)
        refine s_v rfl (v_loadR rfl R.l.1 ha (i := i * 6 + 5) (by omega) ((RdS.cell (_A := A) (_a := none) hi1 5 (by decide)).trans rfl)) ?_
        (refine s_v rfl (v_lenS rfl) ?_)
        refine s_v rfl (v_add rfl rfl (add_i64 (by omega))) ?_
        (refine s_v rfl (v_assign rfl) ?_)
        refine s_end rfl ?_
        (refine x_inBlock ?_; refine x_region ?_; refine r_op (o_move rfl rfl ?_); refine r_op (o_add rfl rfl (add_i64 (by omega)) rfl ?_); refine r_op (o_assign rfl rfl ?_); refine r_nil ?_)
        rw [← Int.natCast_add, ← Int.natCast_add]
        refine x_weak (back (i + 1, n + p.l[i].b.2.2.length + p.l[i].ps.length) ⟨by dsimp only; omega, by dsimp only; unfold aw at hn ⊢; rw [sum_take (fun x : AV => x.b.2.2.length + x.ps.length) p.l i hi1]; omega, by dsimp only; omega⟩ (by dsimp only; omega)) (by (repeat' (first | exact trivial | refine ⟨rfl, ?_⟩))) Sub.h
      · (refine r_op (o_pick_t rfl rfl rfl ?_); refine r_nil ?_; refine x_false rfl ?_; refine x_exit rfl ?_)
        refine x_weak (back0 n (fun h => by omega)) (by (repeat' (first | exact trivial | refine ⟨rfl, ?_⟩))) Sub.h
    · obtain rfl : i = p.l.length := by omega
      rw [List.take_length] at hn
      (refine r_op (o_move rfl rfl ?_); refine r_skip rfl rfl rfl ?_; refine r_skip rfl rfl rfl ?_; refine r_op (o_pick_f rfl rfl rfl ?_); refine r_nil ?_; refine x_false rfl ?_; refine x_exit rfl ?_)
      refine x_weak (back0 n (fun h => by rcases hw with hw | hw <;> omega)) (by (repeat' (first | exact trivial | refine ⟨rfl, ?_⟩))) Sub.h
end Go.Proofs.Ythneebbmodkjiaa
