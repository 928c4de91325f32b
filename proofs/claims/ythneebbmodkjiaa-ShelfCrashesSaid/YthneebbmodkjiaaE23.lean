/- Part of a proof over the seat Ythneebbmodkjiaa: module E23. Its claim's last module says what is proved. -/
import Derived.Test.YthneebbmodkjiaaE16
namespace Go.Proofs.Ythneebbmodkjiaa
open Go.Proofs

theorem tv_one (l : List Tx) : (l.map tv).all Value.oneCell' = true := by simp [Value.oneCell']
theorem tv_take (l : List Tx) (k : Nat) : (l.map tv).take (k * 1) = (l.take k).map tv := by rw [Nat.mul_one, List.map_take]
theorem tv_drop (l : List Tx) (k : Nat) : (l.map tv).drop (k * 1) = (l.drop k).map tv := by rw [Nat.mul_one, List.map_drop]
/-- A copy. -/
theorem copyStr_spec {A : HP} {a : Option Addr} {c : Nat} {l : List Tx} (R : Reads A 1 a l.length (l.map tv)) (hl : l.length ≤ 2 ^ 40) :
    Spec Try.prog 78 [.slice a l.length c] [A] (fun v B => ∃ a' c', v = .slice a' l.length c' ∧ B = [A, Sl 1 a' l.length c' (l.map tv)]) := by
  refine Spec.of_ex Try.func78 rfl Try.ntmps78 rfl fun E cs Γ => ?_
  (simp only [argRho, List.cons_append, List.nil_append])
  (refine x_seq (x_region ?_); refine r_op (o_assign rfl rfl ?_); refine r_nil ?_; refine x_seq (x_region ?_); refine r_op (o_assign rfl rfl ?_); refine r_nil ?_; refine x_seq ?_; refine x_seq (x_region ?_); refine r_op (o_assign rfl rfl ?_); refine r_nil ?_; refine x_block ?_)
  refine x_mem (Γ' := Sl 1 none 0 0 ([] : List Value) :: A :: Γ) ((Ent.nilSl 1 _).trans Sub.h) ?_
  refine x_loop (α := Nat × Option Addr × Nat) (fun q => q.1 ≤ l.length) (fun q => [(0, .slice a l.length c), (3, .slice q.2.1 q.1 q.2.2), (4, .int .i64 q.1)])
    (fun q => Sl 1 q.2.1 q.1 q.2.2 ((l.take q.1).map tv) :: A :: Γ) (fun q => l.length - q.1) (0, none, 0) (Nat.zero_le _) ⟨rfl, rfl, rfl, trivial⟩ (.refl _) ?_
  rintro ⟨i, a4, c4⟩ hi back
  dsimp only at hi ⊢
  (refine x_seq ?_; refine x_seq (x_region ?_); refine r_op (o_move rfl rfl ?_); refine r_op (o_move rfl rfl ?_); refine r_op (o_lenS rfl rfl ?_))
  (refine r_op ?_)
  refine o_lss rfl rfl rfl (fun h => ?_) (fun h => ?_)
  · have hi1 : i < l.length := by omega
    (refine r_nil ?_; refine x_true rfl ?_; refine x_skip ?_; refine x_seq ?_; refine x_block ?_; refine x_region ?_; refine r_op (o_move rfl rfl ?_); refine r_op (o_move rfl rfl ?_); refine r_op (o_move rfl rfl ?_))
    (refine r_op ?_)
    refine o_indexR rfl rfl R (j := i) rfl hi1 rfl (fun b1 off ha => ?_)
    skip
    (refine r_op ?_)
    refine o_loadR rfl R ha (i := i) (by omega) (tget hi1) rfl ?_
    (refine r_op ?_)
    refine o_buildSlice rfl (by rfl) (by rfl) (by rfl) (by rfl) rfl (fun a2 => ?_)
    (refine r_op ?_)
    refine o_appendT rfl rfl (by rfl) (by rfl) (by rfl) (by omega) rfl (fun a3 c3 hc => ?_)
    (refine r_op (o_assign rfl rfl ?_); refine r_nil ?_; refine x_inBlock ?_; refine x_region ?_; refine r_op (o_move rfl rfl ?_); refine r_op (o_add rfl rfl (add_i64 (by omega)) rfl ?_); refine r_op (o_assign rfl rfl ?_); refine r_nil ?_)
    refine x_mem (Γ' := Sl 1 a3 (i + 1) c3 ((l.take (i + 1)).map tv) :: A :: Γ) (by rw [List.take_succ_eq_append_getElem hi1, List.map_append]; exact .refl _) ?_
    refine x_weak (back (i + 1, a3, c3) (by dsimp only; omega) (by dsimp only; omega)) (by (repeat' (first | exact trivial | refine ⟨rfl, ?_⟩))) Sub.h
  · have e : i = l.length := by omega
    subst e
    rw [List.take_length]
    (refine r_nil ?_; refine x_false rfl ?_; refine x_exit rfl ?_; refine x_seq (x_region ?_); refine r_op (o_move rfl rfl ?_); refine r_op (o_assign rfl rfl ?_); refine r_nil ?_)
    exact x_ret rfl [A, Sl 1 a4 l.length c4 (l.map tv)] ⟨a4, c4, rfl, rfl⟩ Sub.h
/-- Where a text is first. -/
theorem inStr_spec {A : HP} {a : Option Addr} {c : Nat} {l : List Tx} (t : Tx) (R : Reads A 1 a l.length (l.map tv)) (hl : l.length ≤ 2 ^ 40) :
    Spec Try.prog 79 [.slice a l.length c, tv t] [A] (fun v B => (∃ k : Int, v = .int .i64 k ∧ ((k = -1 ∧ t ∉ l) ∨ ∃ i : Nat, k = i ∧ i < l.length ∧ l[i]? = some t ∧ t ∉ l.take i)) ∧ B = [A]) := by
  refine Spec.of_ex Try.func79 rfl Try.ntmps79 rfl fun E cs Γ => ?_
  (simp only [argRho, Nat.reduceAdd, List.cons_append, List.nil_append])
  (refine x_seq (x_region ?_); refine r_op (o_assign rfl rfl ?_); refine r_nil ?_; refine x_seq ?_; refine x_seq (x_region ?_); refine r_op (o_assign rfl rfl ?_); refine r_nil ?_; refine x_block ?_)
  refine x_loop (α := Nat) (fun i => i ≤ l.length ∧ t ∉ l.take i) (fun i => [(0, .slice a l.length c), (1, tv t), (5, .int .i64 i)]) (fun i => A :: Γ)
    (fun i => l.length - i) 0 ⟨Nat.zero_le _, by simp⟩ ⟨rfl, rfl, rfl, trivial⟩ (.refl _) ?_
  rintro i ⟨hi, hp⟩ back
  (refine x_seq ?_; refine x_seq (x_region ?_); refine r_op (o_move rfl rfl ?_); refine r_op (o_move rfl rfl ?_); refine r_op (o_lenS rfl rfl ?_))
  (refine r_op ?_)
  refine o_lss rfl rfl rfl (fun h => ?_) (fun h => ?_)
  · have hi1 : i < l.length := by omega
    (refine r_nil ?_; refine x_true rfl ?_; refine x_skip ?_; refine x_seq ?_; refine x_block ?_; refine x_seq (x_region ?_); refine r_op (o_move rfl rfl ?_); refine r_op (o_move rfl rfl ?_))
    (refine r_op ?_)
    refine o_indexR rfl rfl R (j := i) rfl hi1 rfl (fun b1 off ha => ?_)
    skip
    (refine r_op ?_)
    refine o_loadR rfl R ha (i := i) (by omega) (tget hi1) rfl ?_
    by_cases hx : l[i] = t
    · (refine r_op (o_move rfl rfl ?_))
      (refine r_op ?_)
      refine o_seql_t rfl rfl (by rw [hx]) rfl ?_
      (refine r_nil ?_; refine x_true rfl ?_; refine x_seq (x_region ?_); refine r_op (o_move rfl rfl ?_); refine r_op (o_assign rfl rfl ?_); refine r_nil ?_)
      exact x_ret rfl [A] ⟨⟨i, rfl, .inr ⟨i, rfl, hi1, by rw [List.getElem?_eq_getElem hi1, hx], hp⟩⟩, rfl⟩ Sub.h
    · (refine r_op (o_move rfl rfl ?_))
      (refine r_op ?_)
      refine o_seql_f rfl rfl (fun h => hx (bstr_inj h)) rfl ?_
      (refine r_nil ?_; refine x_false rfl ?_; refine x_skip ?_; refine x_inBlock ?_; refine x_region ?_; refine r_op (o_move rfl rfl ?_); refine r_op (o_add rfl rfl (add_i64 (by omega)) rfl ?_); refine r_op (o_assign rfl rfl ?_); refine r_nil ?_)
      refine x_weak (back (i + 1) ⟨by omega, by
      rw [List.take_succ_eq_append_getElem hi1, List.mem_append, List.mem_singleton]
      rintro (h | h)
      · exact hp h
      · exact hx h.symm⟩ (by omega)) (by (repeat' (first | exact trivial | refine ⟨rfl, ?_⟩))) Sub.h
  · have e : i = l.length := by omega
    subst e
    rw [List.take_length] at hp
    (refine r_nil ?_; refine x_false rfl ?_; refine x_exit rfl ?_; refine x_seq (x_region ?_); refine r_op (o_assign rfl rfl ?_); refine r_nil ?_)
    exact x_ret rfl [A] ⟨⟨-1, rfl, .inl ⟨rfl, hp⟩⟩, rfl⟩ Sub.h
theorem erase_at {l : List Tx} {i : Nat} {t : Tx} (h : l[i]? = some t) (hn : t ∉ l.take i) : l.erase t = l.take i ++ l.drop (i + 1) := by
  obtain ⟨hi, he⟩ := List.getElem?_eq_some_iff.1 h
  have : l = l.take i ++ (t :: l.drop (i + 1)) := by rw [← he, ← List.drop_eq_getElem_cons hi, List.take_append_drop]
  conv => lhs; rw [this]
  rw [List.erase_append_right _ hn, List.erase_cons_head]
set_option maxHeartbeats 800000 in
/-- All but one. -/
theorem without_spec {A : HP} {a : Option Addr} {c : Nat} {l : List Tx} (t : Tx) (R : Reads A 1 a l.length (l.map tv)) (hc : l.length ≤ c) (hl : l.length ≤ 2 ^ 40) :
    Spec Try.prog 77 [.slice a l.length c, tv t] [A] (fun v B => (t ∉ l ∧ v = .slice a l.length c ∧ B = [A]) ∨ (t ∈ l ∧ ∃ a' c', v = .slice a' (l.erase t).length c' ∧ B = [A, Sl 1 a' (l.erase t).length c' ((l.erase t).map tv)])) := by
  refine Spec.of_ex Try.func77 rfl Try.ntmps77 rfl fun E cs Γ => ?_
  (simp only [argRho, Nat.reduceAdd, List.cons_append, List.nil_append])
  (refine x_seq (x_region ?_); refine r_op (o_assign rfl rfl ?_); refine r_nil ?_; refine x_seq (x_region ?_); refine r_op (o_move rfl rfl ?_); refine r_op (o_move rfl rfl ?_))
  (refine r_op ?_)
  refine o_call rfl (inStr_spec t R hl) rfl ?_
  rintro v B ⟨⟨k, rfl, hk⟩, rfl⟩
  (simp only [List.cons_append, List.nil_append])
  rcases hk with ⟨rfl, hk⟩ | ⟨i, rfl, hi, hit, hin⟩
  · (refine r_op (o_assign rfl rfl ?_); refine r_nil ?_; refine x_seq ?_; refine x_seq (x_region ?_); refine r_op (o_move rfl rfl ?_); refine r_op (o_lss_t rfl rfl (by omega) rfl ?_); refine r_nil ?_; refine x_true rfl ?_; refine x_seq (x_region ?_); refine r_op (o_move rfl rfl ?_); refine r_op (o_assign rfl rfl ?_); refine r_nil ?_)
    exact x_ret rfl [A] (.inl ⟨hk, rfl, rfl⟩) Sub.h
  · have he := erase_at hit hin
    have hel : (l.erase t).length = i + (l.length - (i + 1)) := by rw [he]; simp; omega
    have hem : (l.erase t).map tv = (l.take i).map tv ++ (l.drop (i + 1)).map tv := by rw [he, List.map_append]
    have hmem : t ∈ l := List.mem_of_getElem? hit
    (refine r_op (o_assign rfl rfl ?_); refine r_nil ?_; refine x_seq ?_; refine x_seq (x_region ?_); refine r_op (o_move rfl rfl ?_); refine r_op (o_lss_f rfl rfl (by omega) rfl ?_); refine r_nil ?_; refine x_false rfl ?_; refine x_skip ?_; refine x_seq ?_)
    have R1 := R.firstN i (Nat.le_of_lt hi)
    rw [tv_take] at R1
    have hl1 : (l.take i).length = i := by simp; omega
    have R2 := R.sub c (i + 1) l.length hi (Nat.le_refl _) hc
    rw [tv_drop, List.take_of_length_le (by simp)] at R2
    have SC := copyStr_spec (c := c) (l := l.take i) (a := a) (by rw [hl1]; exact R1) (by rw [hl1]; omega)
    rw [hl1] at SC
    refine x_script 9 [(0,false),(1,false),(2,false),(4,false),(5,false),(6,false),(7,false),(3,true),(8,true),(9,false)] [A] mixed (by kernel_rfl) permF ?_
    (refine s_v rfl (v_move rfl) ?_; refine s_v rfl (v_move rfl) ?_)
    refine s_v rfl (v_sliceHi rfl rfl (jh := i) rfl (by omega)) ?_
    (refine s_v rfl (v_move rfl) ?_; refine s_v rfl (v_move rfl) ?_)
    refine s_v rfl (v_add rfl rfl (add_i64 (by omega))) ?_
    skip
    refine s_v rfl (v_sliceLo rfl rfl (jl := i + 1) (by omega) (by omega)) ?_
    refine s_x rfl (o_call rfl SC rfl ?_)
    rintro v B ⟨a1, c1, rfl, rfl⟩
    refine ⟨permF, ?_⟩
    (simp only [List.cons_append, List.nil_append])
    refine s_x rfl (o_append rfl rfl R2 (by rfl) (by rfl) (tv_one _) (by omega) rfl (fun a2 c2 hc2 => ?_))
    refine ⟨permF, ?_⟩
    (refine s_v rfl (v_assign rfl) ?_)
    refine s_end rfl ?_
    skip
    exact x_ret rfl [A, Sl 1 a2 (l.erase t).length c2 ((l.erase t).map tv)] (.inr ⟨hmem, a2, c2, by rw [hel]; rfl, rfl⟩) (by rw [hel, hem]; exact Sub.h)
/-- One for one: all of one among the others, so many left over at most. -/
def bagL : List Tx → List Tx → Int → Bool
  | [], m, o => decide ((m.length : Int) ≤ o)
  | x :: l, m, o => decide (x ∈ m) && bagL l (m.erase x) o
theorem bagL_nil (m : List Tx) (o : Int) : bagL [] m o = decide ((m.length : Int) ≤ o) := rfl
theorem bagL_cons (x : Tx) (l m : List Tx) (o : Int) : bagL (x :: l) m o = (decide (x ∈ m) && bagL l (m.erase x) o) := rfl
theorem bagL_counts : ∀ (l m : List Tx) (o : Int), (∀ x, l.count x ≤ m.count x) → (m.length : Int) ≤ l.length + o → bagL l m o = true
  | [], m, o, _, h => by simp [bagL] at h ⊢; omega
  | x :: l, m, o, hc, h => by
    have hx : x ∈ m := by
      have := hc x
      rw [List.count_cons_self] at this
      exact List.count_pos_iff.1 (by omega)
    unfold bagL
    rw [decide_eq_true hx, Bool.true_and]
    refine bagL_counts l (m.erase x) o (fun y => ?_) ?_
    · have := hc y
      rw [List.count_cons] at this
      rw [List.count_erase]
      split at this <;> simp_all <;> omega
    · rw [List.length_erase_of_mem hx]
      have := List.length_pos_of_mem hx
      simp at h; omega
set_option maxHeartbeats 800000 in
theorem bag_spec {A B : HP} {a a' : Option Addr} {c c' : Nat} {l m : List Tx} (o : Int) (R : Reads A 1 a l.length (l.map tv)) (R' : Reads B 1 a' m.length (m.map tv)) (hc' : m.length ≤ c') (hl : l.length ≤ 2 ^ 40) (hm : m.length ≤ 2 ^ 40) :
    Spec Try.prog 76 [.slice a l.length c, .slice a' m.length c', .int .i64 o] [A, B] (fun v B' => v = .bool (bagL l m o) ∧ B' = [A, B]) := by
  refine Spec.of_ex Try.func76 rfl Try.ntmps76 rfl fun E cs Γ => ?_
  (simp only [argRho, Nat.reduceAdd, List.cons_append, List.nil_append])
  (refine x_seq (x_region ?_); refine r_op (o_assign rfl rfl ?_); refine r_nil ?_; refine x_seq ?_; refine x_seq (x_region ?_); refine r_op (o_assign rfl rfl ?_); refine r_nil ?_; refine x_block ?_)
  refine x_loop (α := Nat × List Tx × Option Addr × Nat × HP) (fun q => q.1 ≤ l.length ∧ q.2.1.length ≤ 2 ^ 40 ∧ q.2.1.length ≤ q.2.2.2.1 ∧ Reads q.2.2.2.2 1 q.2.2.1 q.2.1.length (q.2.1.map tv) ∧ Ent [q.2.2.2.2] [B] ∧ bagL l m o = bagL (l.drop q.1) q.2.1 o)
    (fun q => [(0, .slice a l.length c), (1, .slice q.2.2.1 q.2.1.length q.2.2.2.1), (2, .int .i64 o), (7, .int .i64 q.1)]) (fun q => A :: q.2.2.2.2 :: Γ) (fun q => l.length - q.1) (0, m, a', c', B)
    ⟨Nat.zero_le _, hm, hc', R', Sub.h, rfl⟩ ⟨rfl, rfl, rfl, rfl, trivial⟩ (.refl _) ?_
  rintro ⟨i, w, aw, cw, M⟩ ⟨hi, hw1, hw2, RM, hM, hb⟩ back
  dsimp only at hi hw1 hw2 RM hM hb back ⊢
  have hout : Ent (A :: M :: Γ) (A :: B :: Γ) := by
    exact (Ent.perm (.swap _ _ _)).trans ((hM.frame (A :: Γ)).trans (Ent.perm (.swap _ _ _)))
  (refine x_seq ?_; refine x_seq (x_region ?_); refine r_op (o_move rfl rfl ?_); refine r_op (o_move rfl rfl ?_); refine r_op (o_lenS rfl rfl ?_))
  (refine r_op ?_)
  refine o_lss rfl rfl rfl (fun h => ?_) (fun h => ?_)
  · have hi1 : i < l.length := by omega
    rw [List.drop_eq_getElem_cons hi1, bagL_cons] at hb
    (refine r_nil ?_; refine x_true rfl ?_; refine x_skip ?_; refine x_seq ?_; refine x_block ?_; refine x_seq ?_; refine x_seq (x_region ?_); refine r_op (o_move rfl rfl ?_); refine r_op (o_move rfl rfl ?_); refine r_op (o_move rfl rfl ?_))
    (refine r_op ?_)
    refine o_indexR rfl rfl R (j := i) rfl hi1 rfl (fun b1 off ha => ?_)
    skip
    (refine r_op ?_)
    refine o_loadR rfl R ha (i := i) (by omega) (tget hi1) rfl ?_
    (refine r_op ?_)
    refine o_call rfl (inStr_spec l[i] RM hw1) rfl ?_
    rintro v B' ⟨⟨k, rfl, hk⟩, rfl⟩
    (simp only [List.cons_append, List.nil_append])
    rcases hk with ⟨rfl, hk⟩ | ⟨j, rfl, hj, hjt, hjn⟩
    · (refine r_op (o_lss_t rfl rfl (by omega) rfl ?_); refine r_nil ?_; refine x_true rfl ?_; refine x_seq (x_region ?_); refine r_op (o_assign rfl rfl ?_); refine r_nil ?_)
      rw [decide_eq_false hk, Bool.false_and] at hb
      refine x_mem (Γ' := A :: B :: Γ) ((Sub.h (Δ := A :: M :: Γ)).trans hout) ?_
      exact x_ret rfl [A, B] ⟨by rw [hb]; rfl, rfl⟩ Sub.h
    · have hmem : l[i] ∈ w := List.mem_of_getElem? hjt
      rw [decide_eq_true hmem, Bool.true_and] at hb
      (refine r_op (o_lss_f rfl rfl (by omega) rfl ?_); refine r_nil ?_; refine x_false rfl ?_; refine x_skip ?_; refine x_region ?_; refine r_op (o_move rfl rfl ?_); refine r_op (o_move rfl rfl ?_); refine r_op (o_move rfl rfl ?_))
      (refine r_op ?_)
      refine o_indexR rfl rfl R (j := i) rfl hi1 rfl (fun b1 off ha => ?_)
      skip
      (refine r_op ?_)
      refine o_loadR rfl R ha (i := i) (by omega) (tget hi1) rfl ?_
      (refine r_op ?_)
      refine o_call rfl (without_spec l[i] RM hw2 hw1) rfl ?_
      rintro v B' (⟨hn, _⟩ | ⟨_, a5, c5, rfl, rfl⟩)
      · exact absurd hmem hn
      (simp only [List.cons_append, List.nil_append])
      (refine r_op (o_assign rfl rfl ?_); refine r_nil ?_; refine x_inBlock ?_; refine x_region ?_; refine r_op (o_move rfl rfl ?_); refine r_op (o_add rfl rfl (add_i64 (by omega)) rfl ?_); refine r_op (o_assign rfl rfl ?_); refine r_nil ?_)
      have hel : (w.erase l[i]).length ≤ w.length := List.length_erase_le
      refine x_sl a5 fun _ hcap => ?_
      have S := Sl.reads 1 a5 (w.erase l[i]).length c5 ((w.erase l[i]).map tv) (by simp)
      refine x_mem (Γ' := A :: Sep [Sl 1 a5 (w.erase l[i]).length c5 ((w.erase l[i]).map tv), M] :: Γ) ((Sub.h (Δ := [Sl 1 a5 (w.erase l[i]).length c5 ((w.erase l[i]).map tv), M] ++ (A :: Γ))).trans ((Ent.sep_in _ _).trans Sub.h)) ?_
      refine x_weak (back (i + 1, w.erase l[i], a5, c5, Sep [Sl 1 a5 (w.erase l[i]).length c5 ((w.erase l[i]).map tv), M]) ⟨by dsimp only; omega, by dsimp only; omega, hcap, S.of_ent [M] (Ent.sep_out _ []), ((Ent.sep_out _ []).trans (Ent.drop _ _)).trans hM, hb⟩ (by dsimp only; omega)) (by (repeat' (first | exact trivial | refine ⟨rfl, ?_⟩))) Sub.h
  · have e : i = l.length := by omega
    subst e
    rw [List.drop_length, bagL_nil] at hb
    (refine r_nil ?_; refine x_false rfl ?_; refine x_exit rfl ?_; refine x_seq (x_region ?_); refine r_op (o_move rfl rfl ?_); refine r_op (o_lenS rfl rfl ?_); refine r_op (o_move rfl rfl ?_))
    (refine r_op ?_)
    refine o_leq rfl rfl rfl (fun h => ?_) (fun h => ?_)
    · (refine r_op (o_assign rfl rfl ?_); refine r_nil ?_)
      refine x_mem hout ?_
      exact x_ret rfl [A, B] ⟨by rw [hb, decide_eq_true h]; rfl, rfl⟩ Sub.h
    · (refine r_op (o_assign rfl rfl ?_); refine r_nil ?_)
      refine x_mem hout ?_
      exact x_ret rfl [A, B] ⟨by rw [hb, decide_eq_false h]; rfl, rfl⟩ Sub.h
end Go.Proofs.Ythneebbmodkjiaa
