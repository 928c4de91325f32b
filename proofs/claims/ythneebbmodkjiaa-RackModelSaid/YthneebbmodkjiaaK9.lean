/- Part of a proof over the seat Ythneebbmodkjiaa: module K9. Its claim's last module says what is proved. -/
import Derived.Test.YthneebbmodkjiaaK8
namespace Go.Proofs.Ythneebbmodkjiaa
open Go.Proofs

/-! ### Texts for one shelf alone -/
set_option maxHeartbeats 800000 in
theorem heavy11_spec {A : HP} {p : SR} (R : SR.Rd A p) : Spec Try.prog 90 [p.val] [A] (fun v B => (∃ b, v = .bool b ∧ (b = false → p.l.length ≤ 60)) ∧ B = [A]) := by
  refine Spec.of_ex Try.func90 rfl Try.ntmps90 rfl fun E cs Γ => ?_
  (simp only [argRho, List.cons_append, List.nil_append])
  (refine x_seq ?_); (refine x_region ?_)
  (refine r_op ?_)
  refine o_boxA (vs := p.cells) rfl rfl (fun b0 => ?_)
  have lb := R.lb
  (refine r_op (o_assign rfl rfl ?_); refine r_nil ?_; refine x_seq (x_region ?_); refine r_op (o_assign rfl rfl ?_); refine r_nil ?_; refine x_seq ?_; refine x_seq (x_region ?_); refine r_op (o_assign rfl rfl ?_); refine r_nil ?_; refine x_block ?_)
  refine x_loop (α := Nat × Int) (fun q => q.1 ≤ p.l.length ∧ 0 ≤ q.2 ∧ q.2 ≤ 2 ^ 50) (fun q => [(1, dp b0), (3, .int .i64 q.2), (4, .int .i64 q.1)]) (fun q => A :: Row b0 0 p.cells :: Γ)
    (fun q => p.l.length - q.1) (0, 0) ⟨Nat.zero_le _, by decide, by decide⟩ ⟨rfl, rfl, rfl, trivial⟩ Sub.h ?_
  rintro ⟨i, n⟩ ⟨hi, hn0, hn⟩ back
  dsimp only at hi hn0 hn back ⊢
  (refine x_seq ?_; refine x_seq (x_region ?_); refine r_op (o_move rfl rfl ?_); refine r_op (o_fieldAddr rfl rfl ?_); refine r_op (o_load rfl rfl rfl rfl ?_); refine r_op (o_lenS rfl rfl ?_))
  (refine r_op ?_)
  refine o_lss rfl rfl rfl (fun h => ?_) (fun h => ?_)
  · have hi1 : i < p.l.length := by omega
    (refine r_op (o_move rfl rfl ?_); refine r_guard rfl (o_move rfl rfl ?_))
    (refine r_guard rfl ?_)
    refine o_lss rfl rfl rfl (fun h2 => ?_) (fun h2 => ?_)
    · (refine r_op (o_pick_t rfl rfl rfl ?_); refine r_nil ?_; refine x_true rfl ?_; refine x_skip ?_; refine x_seq ?_; refine x_block ?_)
      have hs := R.sb _ (List.getElem_mem hi1)
      refine x_base R.l.1 (by omega) fun b off ha => ?_
      refine x_script 18 [(0,false),(1,false),(2,false),(3,false),(4,false),(5,false),(6,false),(7,false),(8,false),(9,false),(10,false),(11,false),(12,false),(13,false),(14,false),(15,false),(16,false),(17,false),(18,false)] [A, Row b0 0 p.cells] mixed (by kernel_rfl) permF ?_
      (refine s_v rfl (v_move rfl) ?_)
      refine s_v rfl (v_add rfl rfl (add_i64 (by omega))) ?_
      (refine s_v rfl (v_fieldAddr rfl) ?_; refine s_v rfl (v_load rfl rfl rfl) ?_; refine s_v rfl (v_move rfl) ?_)
      refine s_v rfl (v_indexH rfl rfl ha (j := i) rfl (by omega)) ?_
      (refine s_v rfl (v_fieldAddr rfl) ?_)
      refine s_v rfl (v_loadR rfl R.l.1 ha (i := i * 4 + 2) (by omega) ((bx_get hi1 2 (by decide)).trans rfl)) ?_
      refine s_v rfl (v_lenStr rfl) ?_
      rw [bstr_size]
      refine s_v rfl (v_add rfl rfl (add_i64 (by omega))) ?_
      (refine s_v rfl (v_fieldAddr rfl) ?_; refine s_v rfl (v_load rfl rfl rfl) ?_; refine s_v rfl (v_move rfl) ?_)
      refine s_v rfl (v_indexH rfl rfl ha (j := i) rfl (by omega)) ?_
      (refine s_v rfl (v_fieldAddr rfl) ?_)
      refine s_v rfl (v_loadR rfl R.l.1 ha (i := i * 4 + 3) (by omega) ((bx_get hi1 3 (by decide)).trans rfl)) ?_
      (refine s_v rfl (v_lenS rfl) ?_)
      refine s_v rfl (v_add rfl rfl (add_i64 (by omega))) ?_
      (refine s_v rfl (v_assign rfl) ?_)
      refine s_end rfl ?_
      (refine x_inBlock ?_; refine x_region ?_; refine r_op (o_move rfl rfl ?_); refine r_op (o_add rfl rfl (add_i64 (by omega)) rfl ?_); refine r_op (o_assign rfl rfl ?_); refine r_nil ?_)
      refine x_weak (back (i + 1, n + 1 + p.l[i].s.length + p.l[i].ps.length) ⟨by dsimp only; omega, by dsimp only; omega, by dsimp only; omega⟩ (by dsimp only; omega)) (by (repeat' (first | exact trivial | refine ⟨rfl, ?_⟩))) Sub.h
    · (refine r_op (o_pick_t rfl rfl rfl ?_); refine r_nil ?_; refine x_false rfl ?_; refine x_exit rfl ?_; refine x_seq (x_region ?_); refine r_op (o_move rfl rfl ?_); refine r_op (o_gtr_t rfl rfl (by omega) rfl ?_); refine r_op (o_move rfl rfl ?_); refine r_skip rfl rfl rfl ?_; refine r_skip rfl rfl rfl ?_; refine r_skip rfl rfl rfl ?_; refine r_skip rfl rfl rfl ?_; refine r_op (o_pick_t rfl rfl rfl ?_); refine r_op (o_assign rfl rfl ?_); refine r_nil ?_)
      exact x_ret rfl [A] ⟨⟨true, rfl, fun h => by cases h⟩, rfl⟩ Sub.h
  · (refine r_op (o_move rfl rfl ?_); refine r_skip rfl rfl rfl ?_; refine r_skip rfl rfl rfl ?_; refine r_op (o_pick_f rfl rfl rfl ?_); refine r_nil ?_; refine x_false rfl ?_; refine x_exit rfl ?_; refine x_seq (x_region ?_); refine r_op (o_move rfl rfl ?_))
    (refine r_op ?_)
    refine o_gtr rfl rfl rfl (fun h2 => ?_) (fun h2 => ?_)
    · (refine r_op (o_move rfl rfl ?_); refine r_skip rfl rfl rfl ?_; refine r_skip rfl rfl rfl ?_; refine r_skip rfl rfl rfl ?_; refine r_skip rfl rfl rfl ?_; refine r_op (o_pick_t rfl rfl rfl ?_); refine r_op (o_assign rfl rfl ?_); refine r_nil ?_)
      exact x_ret rfl [A] ⟨⟨true, rfl, fun h => by cases h⟩, rfl⟩ Sub.h
    · by_cases h3 : 60 < p.l.length
      · (refine r_op (o_move rfl rfl ?_); refine r_guard rfl (o_fieldAddr rfl rfl ?_); refine r_guard rfl (o_load rfl rfl rfl rfl ?_); refine r_guard rfl (o_lenS rfl rfl ?_); refine r_guard rfl (o_gtr_t rfl rfl (by omega) rfl ?_); refine r_op (o_pick_f rfl rfl rfl ?_); refine r_op (o_assign rfl rfl ?_); refine r_nil ?_)
        exact x_ret rfl [A] ⟨⟨true, rfl, fun h => by cases h⟩, rfl⟩ Sub.h
      · (refine r_op (o_move rfl rfl ?_); refine r_guard rfl (o_fieldAddr rfl rfl ?_); refine r_guard rfl (o_load rfl rfl rfl rfl ?_); refine r_guard rfl (o_lenS rfl rfl ?_); refine r_guard rfl (o_gtr_f rfl rfl (by omega) rfl ?_); refine r_op (o_pick_f rfl rfl rfl ?_); refine r_op (o_assign rfl rfl ?_); refine r_nil ?_)
        exact x_ret rfl [A] ⟨⟨false, rfl, fun _ => by omega⟩, rfl⟩ Sub.h
/-- The shortest text for a shelf. -/
def lowz (z : Nat) : Nat := if z = 0 then 0 else 128 * 2 ^ (z - 1) - 15
theorem sizeOf_z {z n : Nat} (hz : z < 4) (h1 : lowz z ≤ n) (h2 : n + 16 ≤ 128 * 2 ^ z) : sizeOf n = ((z : Int), 0) := by
  have : z = 0 ∨ z = 1 ∨ z = 2 ∨ z = 3 := by omega
  unfold lowz at h1
  unfold sizeOf
  rcases this with rfl | rfl | rfl | rfl
  · rw [if_neg (by omega), if_pos (by omega)]; rfl
  · rw [if_neg (by omega), if_neg (by simp at h1; omega), if_pos (by omega)]; rfl
  · rw [if_neg (by omega), if_neg (by simp at h1; omega), if_neg (by simp at h1; omega), if_pos (by omega)]; rfl
  · rw [if_neg (by omega), if_neg (by simp at h1; omega), if_neg (by simp at h1; omega), if_neg (by simp at h1; omega), if_pos (by omega)]; rfl
theorem lowz_lt {z : Nat} (hz : z < 4) : lowz z + 16 ≤ 128 * 2 ^ z ∧ (0 < z → 128 * 2 ^ (z - 1) = lowz z + 15 ∧ 128 * 2 ^ (z - 1) ≤ 1024) := by
  have : z = 0 ∨ z = 1 ∨ z = 2 ∨ z = 3 := by omega
  rcases this with rfl | rfl | rfl | rfl <;> decide
theorem rbytes_one {z : Nat} (hz : z < 4) (es : List En) : rbytes (rlF 0 (ess0.set z es)) = (live 0 es).length * (128 * 2 ^ z) := by
  have ht : ∀ (k : Nat) (L : List (Nat × Tx)), rbytes (tag k L) = L.length * (128 * 2 ^ k) := fun k L => by
    unfold rbytes tag
    induction L with
    | nil => simp
    | cons y L ih =>
      simp only [List.map_cons, List.sum_cons, List.length_cons, Nat.add_mul, Nat.one_mul] at ih ⊢
      rw [ih]; omega
  have hn : ∀ k, tag k (live 0 []) = [] := fun _ => rfl
  have : z = 0 ∨ z = 1 ∨ z = 2 ∨ z = 3 := by omega
  rcases this with rfl | rfl | rfl | rfl
  all_goals
    rw [← ht]
    show rbytes (tag 0 _ ++ (tag 1 _ ++ (tag 2 _ ++ (tag 3 _ ++ [])))) = _
    simp only [hn, List.append_nil, List.nil_append]
theorem get_one {z : Nat} (hz : z < 4) (es : List En) : (ess0.set z es)[z]? = some es := by
  rw [List.getElem?_set, if_pos rfl, if_pos (by simpa using hz)]
theorem set_one (z : Nat) (es es' : List En) : (ess0.set z es).set z es' = ess0.set z es' := List.set_set ..
theorem live_gone (l : List Tx) : ∀ i k, (live k (List.replicate i none ++ l.map some)).length = l.length := by
  intro i
  induction i with
  | zero => intro k; exact live_all l k
  | succ i ih => intro k; rw [List.replicate_succ]; exact ih (k + 1)
theorem gone_step {l : List Tx} {i : Nat} (hi : i < l.length) : (List.replicate i none ++ (l.drop i).map some)[i]? = some (some l[i]) ∧ (List.replicate i (none : En) ++ (l.drop i).map some).set i none = List.replicate (i + 1) none ++ (l.drop (i + 1)).map some := by
  rw [List.drop_eq_getElem_cons hi]
  constructor
  · rw [List.getElem?_append_right (by simp)]; simp
  · rw [List.set_append_right _ _ (by simp), List.map_cons, List.length_replicate, Nat.sub_self, List.set_cons_zero, List.replicate_succ', List.append_assoc]; rfl
set_option maxHeartbeats 6400000 in
theorem on_spec {A : HP} {p : SR} (z : Nat) (hz : z < 4) (R : SR.Rd A p) : Spec Try.prog 87 [p.val, .int .i64 z] [A] (fun v B => v = .bool true ∧ B = [A]) := by
  refine Spec.of_ex Try.func87 rfl Try.ntmps87 rfl fun E cs Γ => ?_
  obtain ⟨hl1, hl2⟩ := lowz_lt hz
  obtain ⟨-, hs1, hs2⟩ := k4_facts hz
  obtain ⟨S, hS⟩ : ∃ S, 128 * 2 ^ z = S := ⟨_, rfl⟩
  rw [hS] at hl1 hs1 hs2
  (simp only [argRho, Nat.reduceAdd, List.cons_append, List.nil_append])
  (refine x_seq ?_); (refine x_region ?_)
  (refine r_op ?_)
  refine o_boxA (vs := p.cells) rfl rfl (fun b0 => ?_)
  have lb := R.lb
  (refine r_op (o_assign rfl rfl ?_); refine r_nil ?_; refine x_seq ?_; refine x_seq (x_region ?_))
  (refine r_op ?_)
  refine o_loadA (us := p.cells) rfl rfl rfl rfl rfl ?_
  (refine r_op ?_)
  refine o_call rfl (heavy11_spec R) rfl ?_
  rintro v B ⟨⟨hb, rfl, hbl⟩, rfl⟩
  (simp only [List.cons_append, List.nil_append])
  cases hb
  · have hl60 := hbl rfl
    (refine r_nil ?_; refine x_false rfl ?_; refine x_skip ?_; refine x_seq (x_region ?_))
    (refine r_op ?_)
    refine o_call rfl disk0_spec rfl ?_
    rintro v B ⟨b, rfl, rfl⟩
    (simp only [List.cons_append, List.nil_append])
    (refine r_op (o_assign rfl rfl ?_); refine r_nil ?_; refine x_seq (x_region ?_); refine r_op (o_move rfl rfl ?_))
    (refine r_op ?_)
    refine o_call rfl (ropen0_spec b 0 (by decide)) rfl ?_
    rintro v B ⟨r, bs, rfl, rfl, hc, hR⟩
    (simp only [List.cons_append, List.nil_append])
    (refine r_op (o_move rfl rfl ?_); refine r_op (o_extract rfl rfl rfl ?_); refine r_op (o_extract rfl rfl rfl ?_); refine r_op (o_assign rfl rfl ?_); refine r_op (o_assign rfl rfl ?_); refine r_nil ?_; refine x_seq ?_; refine x_seq (x_region ?_); refine r_op (o_move rfl rfl ?_))
    (refine r_op ?_)
    refine o_call rfl (num11_spec 0) rfl ?_
    rintro v B ⟨rfl, rfl⟩
    (simp only [List.nil_append])
    (refine r_op (o_neq_f rfl rfl (by omega) rfl ?_); refine r_op (o_move rfl rfl ?_); refine r_guard rfl (o_move rfl rfl ?_))
    (refine r_guard rfl ?_)
    refine o_peq (.inl rfl) rfl rfl (.inr rfl) rfl ?_
    (refine r_op ?_); (refine o_pick_f rfl rfl rfl ?_)
    (refine r_nil ?_); (refine x_false rfl ?_); (refine x_skip ?_)
    (refine x_seq ?_); (refine x_region ?_)
    (refine r_op ?_); (refine o_assign rfl rfl ?_)
    (refine r_nil ?_)
    refine x_cut (α := Unit) (fun _ => True) (fun _ => [(1, .int .i64 z), (2, dp b0), (6, dp r), (8, .int .i64 (lowz z))]) (fun _ => RackI r b (ssOf 0 ess0) :: DiskI b (newD bs) :: A :: Row b0 0 p.cells :: Γ) ?_ ?_
    · rintro - -
      (refine x_seq (x_region ?_); refine r_op (o_move rfl rfl ?_))
      (refine r_op ?_)
      refine o_call rfl (rslot_spec z hz) rfl ?_
      rintro v B ⟨rfl, rfl⟩
      rw [hS]
      (simp only [List.nil_append])
      (refine r_op (o_sub rfl rfl (sub_i64 (by omega)) rfl ?_); refine r_op (o_assign rfl rfl ?_); refine r_nil ?_; refine x_seq (x_region ?_); refine r_op (o_assign rfl rfl ?_); refine r_nil ?_; refine x_seq ?_; refine x_seq (x_region ?_); refine r_op (o_assign rfl rfl ?_); refine r_nil ?_)
      refine x_mem (Γ' := RackI r b (ssOf 0 (ess0.set z (([] : List Tx).map some))) :: DiskI b (newD bs) :: Sl 1 none 0 0 ([] : List Value) :: A :: Row b0 0 p.cells :: Γ) ?_ ?_
      · have : ess0.set z [] = ess0 := by
          have : z = 0 ∨ z = 1 ∨ z = 2 ∨ z = 3 := by omega
          rcases this with rfl | rfl | rfl | rfl <;> rfl
        show Ent _ (RackI r b (ssOf 0 (ess0.set z [])) :: _)
        rw [this]
        exact (Ent.nilSl 1 _).trans Sub.h
      refine x_cutK (α := List Tx × Option Addr × Nat × List (List UInt8)) (fun q => q.1.length ≤ 14 ∧ Calm q.2.2.2 ∧ HoldsR 0 (ess0.set z (q.1.map some)) q.2.2.2) (fun q => [(1, .int .i64 z), (6, dp r), (10, .slice q.2.1 q.1.length q.2.2.1)])
        (fun q => RackI r b (ssOf 0 (ess0.set z (q.1.map some))) :: DiskI b (newD q.2.2.2) :: Sl 1 q.2.1 q.1.length q.2.2.1 (q.1.map tv) :: A :: Row b0 0 p.cells :: Γ) ?_ ?_
      · rintro ⟨l, al, cl, bs⟩ ⟨hl14, hc, hR⟩
        dsimp only at hl14 hc hR ⊢
        have RL := Sl.reads 1 al l.length cl (l.map tv) (by simp)
        have hmul : ∀ m : Nat, m ≤ 14 → m * S ≤ 14 * 1024 := fun m hm => Nat.mul_le_mul hm hs2
        have hml := hmul _ hl14
        have hB1 := rbytes_one hz (l.map some)
        rw [live_all, hS] at hB1
        have SB := rbytesC_spec r b hR
        rw [hB1] at SB
        (refine x_seq ?_; refine x_seq (x_region ?_); refine r_op (o_move rfl rfl ?_))
        (refine r_op ?_)
        refine o_call rfl SB rfl ?_
        rintro v B ⟨rfl, rfl⟩
        (simp only [List.cons_append, List.nil_append])
        (refine r_op (o_move rfl rfl ?_); refine r_op (o_lenS rfl rfl ?_); refine r_op (o_move rfl rfl ?_))
        (refine r_op ?_)
        refine o_call rfl (rslot_spec z hz) rfl ?_
        rintro v B ⟨rfl, rfl⟩
        rw [hS]
        (simp only [List.nil_append])
        (refine r_op ?_)
        refine o_mul rfl rfl (in_i64 (by omega)) rfl ?_
        (refine r_op ?_)
        refine o_neq_f rfl rfl (by omega) rfl ?_
        (refine r_nil ?_; refine x_false rfl ?_; refine x_skip ?_; refine x_seq ?_; refine x_seq (x_region ?_); refine r_op (o_assign rfl rfl ?_); refine r_nil ?_; refine x_block ?_)
        refine x_loop (α := Nat) (fun i => i ≤ l.length) (fun i => [(1, .int .i64 z), (6, dp r), (10, .slice al l.length cl), (16, .int .i64 i)])
          (fun _ => RackI r b (ssOf 0 (ess0.set z (l.map some))) :: DiskI b (newD bs) :: Sl 1 al l.length cl (l.map tv) :: A :: Row b0 0 p.cells :: Γ) (fun i => l.length - i) 0 (Nat.zero_le _) ⟨rfl, rfl, rfl, rfl, trivial⟩ (.refl _) ?_
        intro i hi back
        (refine x_seq ?_; refine x_seq (x_region ?_); refine r_op (o_move rfl rfl ?_); refine r_op (o_move rfl rfl ?_); refine r_op (o_lenS rfl rfl ?_))
        (refine r_op ?_)
        refine o_lss rfl rfl rfl (fun h => ?_) (fun h => ?_)
        · have hi1 : i < l.length := by omega
          have hg := rgetS (first := 0) (i := i) (t := l[i]) hz (get_one hz (l.map some)) (by simp [hi1])
          (refine r_nil ?_; refine x_true rfl ?_; refine x_skip ?_; refine x_seq ?_; refine x_block ?_; refine x_seq (x_region ?_); refine r_op (o_move rfl rfl ?_); refine r_op (o_move rfl rfl ?_); refine r_op (o_move rfl rfl ?_))
          (refine r_op ?_)
          refine o_build (cs := refC ((z : Int), (i : Int))) rfl (by rfl) rfl ?_
          (refine r_op ?_)
          refine o_call rfl (rget_spec r b (ssOf 0 (ess0.set z (l.map some))) ((z : Int), (i : Int)) (fun s hs => by have := (hR.mem s hs).2; omega)) rfl ?_
          rintro v B ⟨rfl, rfl⟩
          rw [hg]
          (simp only [List.cons_append, List.nil_append])
          (refine r_op (o_move rfl rfl ?_); refine r_op (o_extract rfl rfl rfl ?_); refine r_op (o_extract rfl rfl rfl ?_); refine r_op (o_assign rfl rfl ?_); refine r_op (o_assign rfl rfl ?_); refine r_nil ?_; refine x_seq (x_region ?_); refine r_op (o_move rfl rfl ?_))
          (refine r_op ?_)
          refine o_call rfl (num11_spec 0) rfl ?_
          rintro v B ⟨rfl, rfl⟩
          (simp only [List.nil_append])
          (refine r_op (o_neq_f rfl rfl (by omega) rfl ?_); refine r_op (o_move rfl rfl ?_); refine r_guard rfl (o_move rfl rfl ?_); refine r_guard rfl (o_move rfl rfl ?_); refine r_guard rfl (o_move rfl rfl ?_))
          (refine r_guard rfl ?_)
          refine o_indexR rfl rfl RL (j := i) rfl hi1 rfl (fun b1 off ha => ?_)
          skip
          (refine r_guard rfl ?_)
          refine o_loadR rfl RL ha (i := i) (by omega) (tget hi1) rfl ?_
          (refine r_guard rfl ?_)
          refine o_sneq_f rfl rfl rfl rfl ?_
          (refine r_op (o_pick_f rfl rfl rfl ?_); refine r_nil ?_; refine x_false rfl ?_; refine x_skip ?_; refine x_inBlock ?_; refine x_region ?_; refine r_op (o_move rfl rfl ?_); refine r_op (o_add rfl rfl (add_i64 (by omega)) rfl ?_); refine r_op (o_assign rfl rfl ?_); refine r_nil ?_)
          refine x_weak (back (i + 1) (by omega) (by omega)) (by (repeat' (first | exact trivial | refine ⟨rfl, ?_⟩))) Sub.h
        · (refine r_nil ?_; refine x_false rfl ?_; refine x_exit rfl ?_; refine x_seq ?_; refine x_seq (x_region ?_); refine r_op (o_assign rfl rfl ?_); refine r_nil ?_; refine x_block ?_)
          refine x_loop (α := Nat × List (List UInt8)) (fun q => q.1 ≤ l.length ∧ Calm q.2 ∧ HoldsR 0 (ess0.set z (List.replicate q.1 none ++ (l.drop q.1).map some)) q.2) (fun q => [(1, .int .i64 z), (6, dp r), (10, .slice al l.length cl), (19, .int .i64 q.1)])
            (fun q => RackI r b (ssOf 0 (ess0.set z (List.replicate q.1 none ++ (l.drop q.1).map some))) :: DiskI b (newD q.2) :: Sl 1 al l.length cl (l.map tv) :: A :: Row b0 0 p.cells :: Γ) (fun q => l.length - q.1) (0, bs) ⟨Nat.zero_le _, hc, hR⟩ ⟨rfl, rfl, rfl, rfl, trivial⟩ (.refl _) ?_
          clear back hR hc SB
          rintro ⟨i, bs⟩ ⟨hi, hc, hR⟩ back
          dsimp only at hi hc hR back ⊢
          (refine x_seq ?_; refine x_seq (x_region ?_); refine r_op (o_move rfl rfl ?_); refine r_op (o_move rfl rfl ?_); refine r_op (o_lenS rfl rfl ?_))
          (refine r_op ?_)
          refine o_lss rfl rfl rfl (fun h => ?_) (fun h => ?_)
          · have hi1 : i < l.length := by omega
            obtain ⟨g1, g2⟩ := gone_step hi1
            have SD := rdelC_spec r b hc hR (get_one hz _) g1
            rw [set_one, g2] at SD
            have hm2 := hmul (l.length - (i + 1)) (by omega)
            (refine r_nil ?_; refine x_true rfl ?_; refine x_skip ?_; refine x_seq ?_; refine x_block ?_; refine x_seq (x_region ?_); refine r_op (o_move rfl rfl ?_); refine r_op (o_move rfl rfl ?_); refine r_op (o_move rfl rfl ?_))
            (refine r_op ?_)
            refine o_build (cs := refC ((z : Int), (i : Int))) rfl (by rfl) rfl ?_
            (refine r_op ?_)
            refine o_call rfl SD rfl ?_
            rintro v B ⟨bs2, rfl, rfl, hc2, hR2⟩
            have hB2 := rbytes_one hz (List.replicate (i + 1) none ++ (l.drop (i + 1)).map some)
            rw [live_gone, List.length_drop, hS] at hB2
            have SB2 := rbytesC_spec r b hR2
            rw [hB2] at SB2
            (simp only [List.cons_append, List.nil_append])
            (refine r_op ?_)
            refine o_call rfl (num11_spec 0) rfl ?_
            rintro v B ⟨rfl, rfl⟩
            (simp only [List.nil_append])
            (refine r_op (o_neq_f rfl rfl (by omega) rfl ?_); refine r_op (o_move rfl rfl ?_); refine r_guard rfl (o_move rfl rfl ?_))
            (refine r_guard rfl ?_)
            refine o_call rfl SB2 rfl ?_
            rintro v B ⟨rfl, rfl⟩
            (simp only [List.cons_append, List.nil_append])
            (refine r_guard rfl (o_move rfl rfl ?_); refine r_guard rfl (o_lenS rfl rfl ?_); refine r_guard rfl (o_sub rfl rfl (sub_i64 (by omega)) rfl ?_); refine r_guard rfl (o_move rfl rfl ?_); refine r_guard rfl (o_sub rfl rfl (sub_i64 (by omega)) rfl ?_); refine r_guard rfl (o_move rfl rfl ?_))
            (refine r_guard rfl ?_)
            refine o_call rfl (rslot_spec z hz) rfl ?_
            rintro v B ⟨rfl, rfl⟩
            rw [hS]
            (simp only [List.nil_append])
            rw [show (l.length : Int) - 1 - i = ((l.length - (i + 1) : Nat) : Int) by omega]
            (refine r_guard rfl ?_)
            refine o_mul rfl rfl (in_i64 (by omega)) rfl ?_
            (refine r_guard rfl ?_)
            refine o_neq_f rfl rfl (by omega) rfl ?_
            (refine r_op (o_pick_f rfl rfl rfl ?_); refine r_nil ?_; refine x_false rfl ?_; refine x_skip ?_; refine x_inBlock ?_; refine x_region ?_; refine r_op (o_move rfl rfl ?_); refine r_op (o_add rfl rfl (add_i64 (by omega)) rfl ?_); refine r_op (o_assign rfl rfl ?_); refine r_nil ?_)
            refine x_weak (back (i + 1, bs2) ⟨by dsimp only; omega, hc2, hR2⟩ (by dsimp only; omega)) (by (repeat' (first | exact trivial | refine ⟨rfl, ?_⟩))) Sub.h
          · (refine r_nil ?_; refine x_false rfl ?_; refine x_exit rfl ?_; refine x_seq (x_region ?_))
            (refine r_op ?_)
            refine o_call rfl wakes11_spec rfl ?_
            rintro v B ⟨rfl, rfl⟩
            (simp only [List.nil_append])
            (refine r_op (o_assign rfl rfl ?_); refine r_nil ?_)
            exact x_ret rfl [A] ⟨rfl, rfl⟩ Sub.h
      · intro td tail
        (refine x_block ?_)
        refine x_loop (α := List Tx × Option Addr × Nat × List (List UInt8)) (fun q => q.1.length ≤ 14 ∧ Calm q.2.2.2 ∧ HoldsR 0 (ess0.set z (q.1.map some)) q.2.2.2)
          (fun q => [(1, .int .i64 z), (2, dp b0), (6, dp r), (8, .int .i64 (lowz z)), (9, .int .i64 ((S : Int) - 16)), (10, .slice q.2.1 q.1.length q.2.2.1), (11, .int .i64 q.1.length)])
          (fun q => RackI r b (ssOf 0 (ess0.set z (q.1.map some))) :: DiskI b (newD q.2.2.2) :: Sl 1 q.2.1 q.1.length q.2.2.1 (q.1.map tv) :: A :: Row b0 0 p.cells :: Γ) (fun q => 14 - q.1.length) ([], none, 0, bs)
          ⟨Nat.zero_le _, hc, by
            have : ess0.set z (([] : List Tx).map some) = ess0 := by
              have : z = 0 ∨ z = 1 ∨ z = 2 ∨ z = 3 := by omega
              rcases this with rfl | rfl | rfl | rfl <;> rfl
            dsimp only
            rw [this]; exact hR⟩ ⟨rfl, rfl, rfl, rfl, rfl, rfl, rfl, trivial⟩ (.refl _) ?_
        rintro ⟨l, al, cl, bs⟩ ⟨hl14, hc, hR⟩ back
        dsimp only at hl14 hc hR back ⊢
        (refine x_seq ?_; refine x_seq (x_region ?_); refine r_op (o_move rfl rfl ?_); refine r_op (o_fieldAddr rfl rfl ?_); refine r_op (o_load rfl rfl rfl rfl ?_); refine r_op (o_lenS rfl rfl ?_))
        (refine r_op ?_)
        refine o_lss rfl rfl rfl (fun h => ?_) (fun h => ?_)
        · have hi1 : l.length < p.l.length := by omega
          (refine r_op (o_move rfl rfl ?_); refine r_guard rfl (o_move rfl rfl ?_))
          (refine r_guard rfl ?_)
          refine o_lss rfl rfl rfl (fun h2 => ?_) (fun h2 => ?_)
          · (refine r_op (o_pick_t rfl rfl rfl ?_); refine r_nil ?_; refine x_true rfl ?_; refine x_skip ?_; refine x_seq ?_; refine x_block ?_; refine x_seq (x_region ?_); refine r_op (o_move rfl rfl ?_); refine r_op (o_fieldAddr rfl rfl ?_); refine r_op (o_load rfl rfl rfl rfl ?_); refine r_op (o_move rfl rfl ?_))
            (refine r_op ?_)
            refine o_indexR rfl rfl R.l.1 (j := l.length) rfl hi1 rfl (fun b1 off ha => ?_)
            (refine r_op (o_fieldAddr rfl rfl ?_))
            (refine r_op ?_)
            refine o_loadR rfl R.l.1 ha (i := l.length * 4 + 1) (by omega) ((bx_get hi1 1 (by decide)).trans rfl) rfl ?_
            (refine r_op (o_move rfl rfl ?_); refine r_op (o_move rfl rfl ?_); refine r_op (o_sub rfl rfl (sub_i64 (by omega)) rfl ?_); refine r_op (o_add rfl rfl (add_i64 (by omega)) rfl ?_))
            (refine r_op ?_)
            refine o_call rfl (within_spec p.l[l.length].n ((S : Int) - 16 - lowz z + 1) (by omega)) rfl ?_
            rintro v B ⟨⟨w, rfl, hw0, hw1, -⟩, rfl⟩
            obtain ⟨n, hn⟩ : ∃ n : Nat, (lowz z : Int) + w = n := ⟨((lowz z : Int) + w).toNat, by omega⟩
            have hnz := sizeOf_z (n := n) hz (by omega) (by rw [hS]; omega)
            (simp only [List.nil_append])
            (refine r_op ?_)
            refine o_add rfl rfl (add_i64 (by omega)) rfl ?_
            rw [hn]
            (refine r_op (o_assign rfl rfl ?_); refine r_nil ?_; refine x_seq (x_region ?_); refine r_op (o_move rfl rfl ?_))
            (refine r_op ?_)
            refine o_make rfl rfl (m := n) rfl rfl (by rfl) (by omega) (by omega) rfl (fun a7 => ?_)
            rw [zt_bv]
            (refine r_op ?_); (refine o_assign rfl rfl ?_)
            (refine r_nil ?_)
            refine x_cut (α := Tx) (fun t => t.length = n) (fun _ => [(1, .int .i64 z), (2, dp b0), (6, dp r), (8, .int .i64 (lowz z)), (9, .int .i64 ((S : Int) - 16)), (10, .slice al l.length cl), (11, .int .i64 l.length), (13, .slice a7 n n)])
              (fun t => Sl 1 a7 n n (t.map bv) :: RackI r b (ssOf 0 (ess0.set z (l.map some))) :: DiskI b (newD bs) :: Sl 1 al l.length cl (l.map tv) :: A :: Row b0 0 p.cells :: Γ) ?_ ?_
            · intro t htn
              have RT : Reads (Sl 1 a7 n n (t.map bv)) 1 a7 n (t.map bv) := Sl.reads 1 a7 n n (t.map bv) (by rw [List.length_map]; omega)
              have hff : ff (l.map some) = l.length := ff_some l
              have SP := rputC_spec r b hc hR (k := z) (t := t) (get_one hz _) (by rw [htn]; exact hnz) (by rw [htn, hS]; omega) (by rw [hff]; omega)
              rw [hff, putAt_some, set_one] at SP
              (refine x_seq (x_region ?_); refine r_op (o_move rfl rfl ?_); refine r_op (o_move rfl rfl ?_))
              (refine r_op ?_)
              refine o_toStr rfl RT rfl ?_
              (refine r_op ?_)
              refine o_call rfl SP rfl ?_
              rintro v B ⟨bs2, rfl, rfl, hc2, hR2⟩
              (simp only [List.cons_append, List.nil_append])
              (refine r_op (o_move rfl rfl ?_); refine r_op (o_extract rfl rfl rfl ?_); refine r_op (o_extract rfl rfl rfl ?_))
              (refine r_op ?_)
              refine o_alloc rfl (fun p3 => ?_)
              (refine r_do ?_)
              refine o_storeA (us := refC ((z : Int), (l.length : Int))) rfl rfl rfl rfl rfl (Nat.le_refl 2) ?_
              refine r_mem (Ent.row_eq (us := refC ((z : Int), (l.length : Int))) rfl _) ?_
              (refine r_op (o_assign rfl rfl ?_); refine r_nil ?_; refine x_seq ?_; refine x_seq (x_region ?_); refine r_op (o_move rfl rfl ?_))
              (refine r_op ?_)
              refine o_call rfl (num11_spec 0) rfl ?_
              rintro v B ⟨rfl, rfl⟩
              (simp only [List.nil_append])
              (refine r_op (o_neq_f rfl rfl (by omega) rfl ?_); refine r_op (o_move rfl rfl ?_))
              (refine r_guard rfl ?_)
              refine o_loadA (us := refC ((z : Int), (l.length : Int))) rfl rfl rfl rfl rfl ?_
              (refine r_guard rfl (o_move rfl rfl ?_); refine r_guard rfl (o_move rfl rfl ?_); refine r_guard rfl (o_lenS rfl rfl ?_))
              (refine r_guard rfl ?_)
              refine o_build (cs := refC ((z : Int), (l.length : Int))) rfl (by rfl) rfl ?_
              (refine r_guard rfl ?_)
              refine o_neqRef (at' := ((z : Int), (l.length : Int))) rfl rfl rfl ?_
              (refine r_op (o_pick_f rfl rfl rfl ?_); refine r_nil ?_; refine x_false rfl ?_; refine x_skip ?_; refine x_region ?_; refine r_op (o_move rfl rfl ?_); refine r_op (o_move rfl rfl ?_))
              (refine r_op ?_)
              refine o_toStr rfl RT rfl ?_
              (refine r_op ?_)
              refine o_buildSlice rfl (by rfl) (by rfl) (by rfl) (by rfl) rfl (fun a4 => ?_)
              (refine r_op ?_)
              refine o_appendT rfl rfl (by rfl) (by rfl) (by rfl) (by omega) rfl (fun a5 c5 hc5 => ?_)
              rw [show l.map tv ++ [Value.string (bstr t)] = (l ++ [t]).map tv by rw [List.map_append]; rfl, show l.length + 1 = (l ++ [t]).length by simp]
              (refine r_op (o_assign rfl rfl ?_); refine r_nil ?_; refine x_inBlock ?_; refine x_region ?_; refine r_op (o_move rfl rfl ?_); refine r_op (o_add rfl rfl (add_i64 (by omega)) rfl ?_); refine r_op (o_assign rfl rfl ?_); refine r_nil ?_)
              rw [show (l.length : Int) + 1 = ((l ++ [t]).length : Int) by simp]
              refine x_mem (Γ' := RackI r b (ssOf 0 (ess0.set z ((l ++ [t]).map some))) :: DiskI b (newD bs2) :: Sl 1 a5 (l ++ [t]).length c5 ((l ++ [t]).map tv) :: A :: Row b0 0 p.cells :: Γ) Sub.h ?_
              refine x_weak (back (l ++ [t], a5, c5, bs2) ⟨by simp; omega, hc2, hR2⟩ (by simp; omega)) (by (repeat' (first | exact trivial | refine ⟨rfl, ?_⟩))) Sub.h
            · intro td2 tail2
              (refine x_seq (x_region ?_); refine r_op (o_move rfl rfl ?_))
              (refine r_op ?_)
              refine o_gtr rfl rfl rfl (fun h3 => ?_) (fun h3 => ?_)
              · have hcv : IntKind.u8.wrap (l.length : Int) = ((UInt8.ofNat l.length).toNat : Int) := by
                  have h14 : ∀ m < 14, IntKind.u8.wrap ((m : Nat) : Int) = ((UInt8.ofNat m).toNat : Int) := by decide
                  exact h14 _ (by omega)
                (refine r_nil ?_; refine x_true rfl ?_; refine x_region ?_; refine r_op (o_move rfl rfl ?_); refine r_op (o_move rfl rfl ?_); refine r_op (o_sub rfl rfl (sub_i64 (by omega)) rfl ?_); refine r_op (o_move rfl rfl ?_))
                (refine r_op ?_)
                refine o_conv rfl rfl ?_
                rw [hcv]
                (refine r_op ?_)
                refine o_indexR rfl rfl (zt_reads a7 n) (j := n - 1) (by omega) (by omega) rfl (fun b1 off ha => ?_)
                (refine r_do ?_)
                refine o_storeS rfl rfl rfl ha (i := n - 1) (by omega) (by simp; omega) ?_
                rw [show (Value.int IntKind.u8 ((UInt8.ofNat l.length).toNat : Int)) = bv (UInt8.ofNat l.length) from rfl, ← List.map_set]
                (refine r_nil ?_)
                refine x_weak (tail2 ((zt n).set (n - 1) (UInt8.ofNat l.length)) (by simp)) (by (repeat' (first | exact trivial | refine ⟨rfl, ?_⟩))) Sub.h
              · obtain rfl : n = 0 := by omega
                (refine r_nil ?_; refine x_false rfl ?_; refine x_skip ?_)
                refine x_weak (tail2 (zt 0) rfl) (by (repeat' (first | exact trivial | refine ⟨rfl, ?_⟩))) Sub.h
          · (refine r_op (o_pick_t rfl rfl rfl ?_); refine r_nil ?_; refine x_false rfl ?_; refine x_exit rfl ?_)
            refine x_weak (tail (l, al, cl, bs) ⟨hl14, hc, hR⟩) (by (repeat' (first | exact trivial | refine ⟨rfl, ?_⟩))) Sub.h
        · (refine r_op (o_move rfl rfl ?_); refine r_skip rfl rfl rfl ?_; refine r_skip rfl rfl rfl ?_; refine r_op (o_pick_f rfl rfl rfl ?_); refine r_nil ?_; refine x_false rfl ?_; refine x_exit rfl ?_)
          refine x_weak (tail (l, al, cl, bs) ⟨hl14, hc, hR⟩) (by (repeat' (first | exact trivial | refine ⟨rfl, ?_⟩))) Sub.h
    · intro td tail
      (refine x_seq (x_region ?_); refine r_op (o_move rfl rfl ?_))
      (refine r_op ?_)
      refine o_gtr rfl rfl rfl (fun h => ?_) (fun h => ?_)
      · have hl2' := hl2 (by omega)
        (refine r_nil ?_; refine x_true rfl ?_; refine x_region ?_; refine r_op (o_move rfl rfl ?_); refine r_op (o_sub rfl rfl (sub_i64 (by omega)) rfl ?_))
        rw [show (z : Int) - 1 = ((z - 1 : Nat) : Int) by omega]
        (refine r_op ?_)
        refine o_call rfl (rslot_spec (z - 1) (by omega)) rfl ?_
        rintro v B ⟨rfl, rfl⟩
        rw [hl2'.1]
        (simp only [List.nil_append])
        (refine r_op (o_sub rfl rfl (sub_i64 (by omega)) rfl ?_); refine r_op (o_assign rfl rfl ?_); refine r_nil ?_)
        rw [show ((lowz z + 15 : Nat) : Int) - 15 = (lowz z : Int) by omega]
        refine x_weak (tail () trivial) (by (repeat' (first | exact trivial | refine ⟨rfl, ?_⟩))) Sub.h
      · have h0 : lowz z = 0 := by unfold lowz; rw [if_pos (by omega)]
        rw [h0] at tail
        (refine r_nil ?_; refine x_false rfl ?_; refine x_skip ?_)
        refine x_weak (tail () trivial) (by (repeat' (first | exact trivial | refine ⟨rfl, ?_⟩))) Sub.h
  · (refine r_nil ?_; refine x_true rfl ?_; refine x_seq (x_region ?_); refine r_op (o_assign rfl rfl ?_); refine r_nil ?_)
    exact x_ret rfl [A] ⟨rfl, rfl⟩ Sub.h
theorem rsmall_spec {A : HP} {p : SR} (R : SR.Rd A p) : Spec Try.prog 23 [p.val] [A] (fun v B => v = .bool true ∧ B = [A]) := by
  refine Spec.of_ex Try.func23 rfl Try.ntmps23 rfl fun E cs Γ => ?_
  (simp only [argRho, List.cons_append, List.nil_append])
  (refine x_seq ?_); (refine x_region ?_)
  (refine r_op ?_)
  refine o_boxA (vs := p.cells) rfl rfl (fun px => ?_)
  (refine r_op (o_assign rfl rfl ?_); refine r_nil ?_; refine x_seq (x_region ?_))
  (refine r_op ?_)
  refine o_loadA (us := p.cells) rfl rfl rfl rfl rfl ?_
  (refine r_op ?_)
  refine o_call rfl (on_spec 0 (by decide) R) rfl ?_
  rintro v B ⟨rfl, rfl⟩
  (simp only [List.cons_append, List.nil_append])
  (refine r_op (o_assign rfl rfl ?_); refine r_nil ?_)
  exact x_ret rfl [A] ⟨rfl, rfl⟩ Sub.h
theorem rsecond_spec {A : HP} {p : SR} (R : SR.Rd A p) : Spec Try.prog 24 [p.val] [A] (fun v B => v = .bool true ∧ B = [A]) := by
  refine Spec.of_ex Try.func24 rfl Try.ntmps24 rfl fun E cs Γ => ?_
  (simp only [argRho, List.cons_append, List.nil_append])
  (refine x_seq ?_); (refine x_region ?_)
  (refine r_op ?_)
  refine o_boxA (vs := p.cells) rfl rfl (fun px => ?_)
  (refine r_op (o_assign rfl rfl ?_); refine r_nil ?_; refine x_seq (x_region ?_))
  (refine r_op ?_)
  refine o_loadA (us := p.cells) rfl rfl rfl rfl rfl ?_
  (refine r_op ?_)
  refine o_call rfl (on_spec 1 (by decide) R) rfl ?_
  rintro v B ⟨rfl, rfl⟩
  (simp only [List.cons_append, List.nil_append])
  (refine r_op (o_assign rfl rfl ?_); refine r_nil ?_)
  exact x_ret rfl [A] ⟨rfl, rfl⟩ Sub.h
theorem rthird_spec {A : HP} {p : SR} (R : SR.Rd A p) : Spec Try.prog 25 [p.val] [A] (fun v B => v = .bool true ∧ B = [A]) := by
  refine Spec.of_ex Try.func25 rfl Try.ntmps25 rfl fun E cs Γ => ?_
  (simp only [argRho, List.cons_append, List.nil_append])
  (refine x_seq ?_); (refine x_region ?_)
  (refine r_op ?_)
  refine o_boxA (vs := p.cells) rfl rfl (fun px => ?_)
  (refine r_op (o_assign rfl rfl ?_); refine r_nil ?_; refine x_seq (x_region ?_))
  (refine r_op ?_)
  refine o_loadA (us := p.cells) rfl rfl rfl rfl rfl ?_
  (refine r_op ?_)
  refine o_call rfl (on_spec 2 (by decide) R) rfl ?_
  rintro v B ⟨rfl, rfl⟩
  (simp only [List.cons_append, List.nil_append])
  (refine r_op (o_assign rfl rfl ?_); refine r_nil ?_)
  exact x_ret rfl [A] ⟨rfl, rfl⟩ Sub.h
theorem rgreat_spec {A : HP} {p : SR} (R : SR.Rd A p) : Spec Try.prog 26 [p.val] [A] (fun v B => v = .bool true ∧ B = [A]) := by
  refine Spec.of_ex Try.func26 rfl Try.ntmps26 rfl fun E cs Γ => ?_
  (simp only [argRho, List.cons_append, List.nil_append])
  (refine x_seq ?_); (refine x_region ?_)
  (refine r_op ?_)
  refine o_boxA (vs := p.cells) rfl rfl (fun px => ?_)
  (refine r_op (o_assign rfl rfl ?_); refine r_nil ?_; refine x_seq (x_region ?_))
  (refine r_op ?_)
  refine o_loadA (us := p.cells) rfl rfl rfl rfl rfl ?_
  (refine r_op ?_)
  refine o_call rfl (on_spec 3 (by decide) R) rfl ?_
  rintro v B ⟨rfl, rfl⟩
  (simp only [List.cons_append, List.nil_append])
  (refine r_op (o_assign rfl rfl ?_); refine r_nil ?_)
  exact x_ret rfl [A] ⟨rfl, rfl⟩ Sub.h
end Go.Proofs.Ythneebbmodkjiaa
