/- Part of a proof over the seat Ythneebbmodkjiaa: module K11. Its claim's last module says what is proved. -/
import Derived.Test.YthneebbmodkjiaaK10
namespace Go.Proofs.Ythneebbmodkjiaa
open Go.Proofs

theorem rput_failed {ss : List Sh} (h : rfail ss = true) (d : Dk) (t : Tx) : rput ss d t = (ss, d, (0, 0), 14) := by unfold rput; rw [if_pos h]
theorem rdel_failed {ss : List Sh} (h : rfail ss = true) (d : Dk) (a : Int × Int) : rdel ss d a = (ss, d, 14) := by unfold rdel; rw [if_pos h]
theorem rsm_all {ss : List Sh} (h : rsmB ss = true) : ∀ s ∈ ss, (16 ≤ s.n ∧ s.n ≤ 2 ^ 20) ∧ s.es.length ≤ 1000 := by
  intro s hs
  unfold rsmB at h
  rw [List.all_eq_true] at h
  have := h s hs
  simp only [Bool.and_eq_true, decide_eq_true_eq] at this
  exact ⟨⟨this.1.1, by omega⟩, this.2⟩
theorem rend_facts {n i : Nat} (hn : n < 7) (h1 : 1 ≤ n) (hi : i < 5) (hj : ∀ j < i, rbad n j = 0) :
    (∀ s ∈ (rst n i).1, (16 ≤ s.n ∧ s.n ≤ 2 ^ 20) ∧ s.es.length ≤ 1000) ∧ ((rbad n i = 0 ∧ i < 4) ∨ (rbad n i ≠ 0 ∧ rbad n i = 14 ∧ rfail (rst n i).1 = true ∧ rget (rst n i).1 (0, 0) = ([97], 0) ∧ (rls (rst n i).1).length = i)) := by
  have h := rend_all n hn h1 i hi hj
  unfold rendB at h
  rw [Bool.and_eq_true] at h
  refine ⟨rsm_all h.1, ?_⟩
  have h2 := h.2
  by_cases h0 : rbad n i = 0
  · rw [if_pos h0] at h2
    exact .inl ⟨h0, by simpa using h2⟩
  · rw [if_neg h0] at h2
    simp only [Bool.and_eq_true, decide_eq_true_eq] at h2
    exact .inr ⟨h0, h2.1.1.1, h2.1.1.2, h2.1.2, h2.2⟩
set_option maxHeartbeats 3200000 in
theorem rfails_spec {A : HP} {p : SR} (R : SR.Rd A p) : Spec Try.prog 27 [p.val] [A] (fun v B => v = .bool true ∧ B = [A]) := by
  refine Spec.of_ex Try.func27 rfl Try.ntmps27 rfl fun E cs Γ => ?_
  (simp only [argRho, List.cons_append, List.nil_append])
  (refine x_seq ?_); (refine x_region ?_)
  (refine r_op ?_)
  refine o_boxA (vs := p.cells) rfl rfl (fun b0 => ?_)
  have lb := R.lb
  (refine r_op (o_assign rfl rfl ?_); refine r_nil ?_; refine x_seq ?_; refine x_seq (x_region ?_); refine r_op (o_assign rfl rfl ?_); refine r_nil ?_; refine x_block ?_)
  refine x_loop (α := Nat) (fun n => 1 ≤ n ∧ n ≤ 7) (fun n => [(1, dp b0), (3, .int .i64 n)]) (fun _ => A :: Row b0 0 p.cells :: Γ) (fun n => 7 - n) 1 ⟨by decide, by decide⟩ ⟨rfl, rfl, trivial⟩ Sub.h ?_
  rintro n ⟨hn1, hn2⟩ back
  (refine x_seq ?_; refine x_seq (x_region ?_); refine r_op (o_move rfl rfl ?_))
  (refine r_op ?_)
  refine o_leq rfl rfl rfl (fun h => ?_) (fun h => ?_)
  · have hn7 : n < 7 := by omega
    (refine r_nil ?_; refine x_true rfl ?_; refine x_skip ?_; refine x_seq ?_; refine x_block ?_; refine x_seq (x_region ?_))
    (refine r_op ?_)
    refine o_call rfl disk0_spec rfl ?_
    rintro v B ⟨b, rfl, rfl⟩
    (simp only [List.cons_append, List.nil_append])
    (refine r_op (o_assign rfl rfl ?_); refine r_nil ?_; refine x_seq (x_region ?_); refine r_op (o_move rfl rfl ?_))
    (refine r_op ?_)
    refine o_call rfl (ropenE_spec b) rfl ?_
    rintro v B ⟨r, rfl, rfl⟩
    (simp only [List.cons_append, List.nil_append])
    (refine r_op (o_move rfl rfl ?_); refine r_op (o_extract rfl rfl rfl ?_); refine r_op (o_extract rfl rfl rfl ?_); refine r_op (o_assign rfl rfl ?_); refine r_op (o_assign rfl rfl ?_); refine r_nil ?_; refine x_seq ?_; refine x_seq (x_region ?_); refine r_op (o_move rfl rfl ?_))
    (refine r_op ?_)
    refine o_peq (.inl rfl) rfl rfl (.inr rfl) rfl ?_
    (refine r_op (o_move rfl rfl ?_); refine r_guard rfl (o_move rfl rfl ?_))
    (refine r_guard rfl ?_)
    refine o_call rfl (num11_spec 0) rfl ?_
    rintro v B ⟨rfl, rfl⟩
    (simp only [List.nil_append])
    (refine r_guard rfl (o_neq_f rfl rfl (by omega) rfl ?_); refine r_op (o_pick_f rfl rfl rfl ?_); refine r_op (o_move rfl rfl ?_); refine r_guard rfl (o_move rfl rfl ?_))
    (refine r_guard rfl ?_)
    refine o_peq (.inl rfl) rfl rfl (.inr rfl) rfl ?_
    have SP0 := rput_spec r b (ssOf 0 ess0) (newD (List.replicate 8 [])) [97] calm0.okn (by decide) (fun s hs => by
      have := rsm_all (ss := ssOf 0 ess0) (by decide) s hs
      exact ⟨this.1, by omega⟩) (by decide)
    rw [rput0] at SP0
    obtain ⟨q, hq⟩ : ∃ q, rput (ssOf 0 ess0) (newD (List.replicate 8 [])) [97] = q := ⟨_, rfl⟩
    have hz := rst_zero n
    rw [hq] at SP0 hz
    (refine r_op (o_pick_f rfl rfl rfl ?_); refine r_nil ?_; refine x_false rfl ?_; refine x_skip ?_; refine x_seq (x_region ?_); refine r_op (o_move rfl rfl ?_))
    (refine r_op ?_)
    refine o_call rfl SP0 rfl ?_
    rintro v B ⟨rfl, rfl⟩
    (simp only [List.cons_append, List.nil_append])
    (refine r_op (o_move rfl rfl ?_); refine r_op (o_extract rfl rfl rfl ?_); refine r_op (o_extract rfl rfl rfl ?_))
    (refine r_op ?_)
    refine o_alloc rfl (fun p7 => ?_)
    (refine r_do ?_)
    refine o_storeA (us := refC (0, 0)) rfl rfl rfl rfl rfl (Nat.le_refl 2) ?_
    refine r_mem (Ent.row_eq (us := refC (0, 0)) rfl _) ?_
    (refine r_op (o_assign rfl rfl ?_); refine r_nil ?_; refine x_seq (x_region ?_); refine r_op (o_move rfl rfl ?_); refine r_op (o_move rfl rfl ?_))
    (refine r_op ?_)
    refine o_call rfl (fail_spec b q.2.1 n (by omega)) rfl ?_
    rintro v B ⟨rfl, rfl⟩
    (simp only [List.cons_append, List.nil_append])
    (refine r_nil ?_; refine x_seq (x_region ?_); refine r_op (o_assign rfl rfl ?_); refine r_op (o_assign rfl rfl ?_); refine r_nil ?_; refine x_seq ?_; refine x_seq (x_region ?_); refine r_op (o_assign rfl rfl ?_); refine r_nil ?_; refine x_block ?_)
    refine x_loop (α := Nat) (fun i => i ≤ 4 ∧ ∀ j < i, rbad n j = 0) (fun i => [(1, dp b0), (3, .int .i64 n), (4, dp b), (5, dp r), (7, dp p7), (8, .int .i64 0), (9, .int .i64 i), (10, .int .i64 (rbad n i)), (11, .int .i64 i)])
      (fun i => DiskI b (rst n i).2 :: Row p7 0 (refC (0, 0)) :: RackI r b (rst n i).1 :: A :: Row b0 0 p.cells :: Γ) (fun i => 4 - i) 0 ⟨Nat.zero_le _, fun j h => by omega⟩ ⟨rfl, rfl, rfl, rfl, rfl, rfl, rfl, rfl, rfl, trivial⟩ (by rw [hz]; exact .refl _) ?_
    rintro i ⟨hi4, hj⟩ back2
    obtain ⟨hsm, hF⟩ := rend_facts hn7 hn1 (show i < 5 by omega) hj
    have hok := rst_okn n i
    (refine x_seq ?_; refine x_seq (x_region ?_); refine r_op (o_move rfl rfl ?_))
    (refine r_op ?_)
    refine o_lss rfl rfl rfl (fun h => ?_) (fun h => ?_)
    · (refine r_op (o_move rfl rfl ?_); refine r_guard rfl (o_move rfl rfl ?_))
      (refine r_guard rfl ?_)
      refine o_eql rfl rfl rfl (fun h0 => ?_) (fun h0 => ?_)
      · have SP := rput_spec r b (rst n i).1 (rst n i).2 (zt (150 * (i + 1))) hok (by omega) (fun s hs => ⟨(hsm s hs).1, by have := (hsm s hs).2; omega⟩) (by rw [List.length_replicate]; omega)
        have e1 := rst_succ n i
        have e2 := rbad_succ n i
        obtain ⟨u, hu⟩ : ∃ u, rput (rst n i).1 (rst n i).2 (zt (150 * (i + 1))) = u := ⟨_, rfl⟩
        rw [hu] at SP e1 e2
        (refine r_op (o_pick_t rfl rfl rfl ?_); refine r_nil ?_; refine x_true rfl ?_; refine x_skip ?_; refine x_seq ?_; refine x_block ?_; refine x_seq (x_region ?_); refine r_op (o_move rfl rfl ?_); refine r_op (o_move rfl rfl ?_); refine r_op (o_add rfl rfl (add_i64 (by omega)) rfl ?_); refine r_op (o_mul rfl rfl (in_i64 (by omega)) rfl ?_))
        rw [show (150 : Int) * ((i : Int) + 1) = ((150 * (i + 1) : Nat) : Int) by omega]
        (refine r_op ?_)
        refine o_make rfl rfl (m := 150 * (i + 1)) rfl rfl (by rfl) (by omega) (by omega) rfl (fun a7 => ?_)
        rw [zt_bv]
        (refine r_op ?_)
        refine o_toStr rfl (zt_reads a7 (150 * (i + 1))) rfl ?_
        (refine r_op ?_)
        refine o_call rfl SP rfl ?_
        rintro v B ⟨rfl, rfl⟩
        (simp only [List.cons_append, List.nil_append])
        (refine r_op (o_move rfl rfl ?_); refine r_op (o_extract rfl rfl rfl ?_); refine r_op (o_extract rfl rfl rfl ?_))
        (refine r_op ?_)
        refine o_alloc rfl (fun p12 => ?_)
        (refine r_do ?_)
        refine o_storeA (us := refC u.2.2.1) rfl rfl rfl rfl rfl (Nat.le_refl 2) ?_
        (refine r_op (o_assign rfl rfl ?_); refine r_nil ?_; refine x_seq (x_region ?_); refine r_op (o_move rfl rfl ?_))
        (refine r_op ?_)
        refine o_call rfl (num11_spec u.2.2.2) rfl ?_
        rintro v B ⟨rfl, rfl⟩
        (simp only [List.nil_append])
        (refine r_op (o_assign rfl rfl ?_); refine r_nil ?_; refine x_region ?_; refine r_op (o_move rfl rfl ?_); refine r_op (o_add rfl rfl (add_i64 (by omega)) rfl ?_); refine r_op (o_assign rfl rfl ?_); refine r_nil ?_; refine x_inBlock ?_; refine x_region ?_; refine r_op (o_move rfl rfl ?_); refine r_op (o_add rfl rfl (add_i64 (by omega)) rfl ?_); refine r_op (o_assign rfl rfl ?_); refine r_nil ?_)
        rw [← e2]
        refine x_mem (Γ' := DiskI b (rst n (i + 1)).2 :: Row p7 0 (refC (0, 0)) :: RackI r b (rst n (i + 1)).1 :: A :: Row b0 0 p.cells :: Γ) (by rw [e1]; exact Sub.h) ?_
        refine x_weak (back2 (i + 1) ⟨by omega, fun j hj2 => by
          rcases Nat.lt_succ_iff_lt_or_eq.1 hj2 with hj2 | rfl
          · exact hj j hj2
          · exact h0⟩ (by omega)) (by (repeat' (first | exact trivial | refine ⟨rfl, ?_⟩))) Sub.h
      · obtain ⟨hb0, hb14, hfl, hg, hrl⟩ : rbad n i ≠ 0 ∧ rbad n i = 14 ∧ rfail (rst n i).1 = true ∧ rget (rst n i).1 (0, 0) = ([97], 0) ∧ (rls (rst n i).1).length = i := by
          rcases hF with ⟨h1, h2⟩ | h
          · exact absurd h1 h0
          · exact h
        rw [hb14]
        (refine r_op (o_pick_t rfl rfl rfl ?_); refine r_nil ?_; refine x_false rfl ?_; refine x_exit rfl ?_; refine x_seq ?_; refine x_seq (x_region ?_); refine r_op (o_move rfl rfl ?_))
        (refine r_op ?_)
        refine o_call rfl (num11_spec 0) rfl ?_
        rintro v B ⟨rfl, rfl⟩
        (simp only [List.nil_append])
        (refine r_op (o_neq_f rfl rfl (by omega) rfl ?_); refine r_op (o_move rfl rfl ?_); refine r_guard rfl (o_move rfl rfl ?_); refine r_guard rfl (o_neq_f rfl rfl (by omega) rfl ?_); refine r_op (o_pick_f rfl rfl rfl ?_); refine r_op (o_move rfl rfl ?_); refine r_guard rfl (o_move rfl rfl ?_); refine r_guard rfl (o_gtr_f rfl rfl (by omega) rfl ?_); refine r_op (o_pick_f rfl rfl rfl ?_); refine r_op (o_move rfl rfl ?_); refine r_guard rfl (o_move rfl rfl ?_))
        (refine r_guard rfl ?_)
        refine o_call rfl (rfailed_spec r b (rst n i).1) rfl ?_
        rintro v B ⟨rfl, rfl⟩
        rw [hfl]
        (simp only [List.cons_append, List.nil_append])
        have SB := rput_spec r b (rst n i).1 (rst n i).2 [98] hok (by omega) (fun s hs => ⟨(hsm s hs).1, by have := (hsm s hs).2; omega⟩) (by decide)
        rw [rput_failed hfl] at SB
        (refine r_guard rfl (o_not rfl rfl ?_); refine r_op (o_pick_f rfl rfl rfl ?_); refine r_nil ?_; refine x_false rfl ?_; refine x_skip ?_; refine x_seq (x_region ?_); refine r_op (o_move rfl rfl ?_))
        (refine r_op ?_)
        refine o_call rfl SB rfl ?_
        rintro v B ⟨rfl, rfl⟩
        (simp only [List.cons_append, List.nil_append])
        (refine r_op (o_move rfl rfl ?_); refine r_op (o_extract rfl rfl rfl ?_); refine r_op (o_extract rfl rfl rfl ?_))
        (refine r_op ?_)
        refine o_alloc rfl (fun p14 => ?_)
        (refine r_do ?_)
        refine o_storeA (us := refC (0, 0)) rfl rfl rfl rfl rfl (Nat.le_refl 2) ?_
        (refine r_op (o_assign rfl rfl ?_); refine r_nil ?_; refine x_seq (x_region ?_); refine r_op (o_move rfl rfl ?_))
        (refine r_op ?_)
        refine o_loadA (us := refC (0, 0)) rfl rfl rfl rfl rfl ?_
        (refine r_op ?_)
        refine o_call rfl (rget_spec r b (rst n i).1 (0, 0) (fun s hs => by have := (hsm s hs).2; omega)) rfl ?_
        rintro v B ⟨rfl, rfl⟩
        rw [hg]
        (simp only [List.cons_append, List.nil_append])
        (refine r_op (o_move rfl rfl ?_); refine r_op (o_extract rfl rfl rfl ?_); refine r_op (o_extract rfl rfl rfl ?_); refine r_op (o_assign rfl rfl ?_); refine r_op (o_assign rfl rfl ?_); refine r_nil ?_; refine x_seq (x_region ?_); refine r_op (o_move rfl rfl ?_))
        (refine r_op ?_)
        refine o_call rfl (num11_spec 14) rfl ?_
        rintro v B ⟨rfl, rfl⟩
        (simp only [List.nil_append])
        (refine r_op (o_neq_f rfl rfl (by omega) rfl ?_); refine r_op (o_move rfl rfl ?_); refine r_guard rfl (o_move rfl rfl ?_))
        (refine r_guard rfl ?_)
        refine o_loadA (us := refC (0, 0)) rfl rfl rfl rfl rfl ?_
        (refine r_guard rfl ?_)
        have SD := rdel_spec r b (rst n i).1 (rst n i).2 (0, 0) hok (by omega) (fun s hs => ⟨(hsm s hs).1.2, by have := (hsm s hs).2; omega⟩)
        rw [rdel_failed hfl] at SD
        refine o_call rfl SD rfl ?_
        rintro v B ⟨rfl, rfl⟩
        (simp only [List.cons_append, List.nil_append])
        (refine r_guard rfl ?_)
        refine o_call rfl (num11_spec 14) rfl ?_
        rintro v B ⟨rfl, rfl⟩
        (simp only [List.nil_append])
        (refine r_guard rfl (o_neq_f rfl rfl (by omega) rfl ?_); refine r_op (o_pick_f rfl rfl rfl ?_); refine r_op (o_move rfl rfl ?_); refine r_guard rfl (o_move rfl rfl ?_))
        (refine r_guard rfl ?_)
        refine o_call rfl (num11_spec 0) rfl ?_
        rintro v B ⟨rfl, rfl⟩
        (simp only [List.nil_append])
        (refine r_guard rfl (o_neq_f rfl rfl (by omega) rfl ?_); refine r_op (o_pick_f rfl rfl rfl ?_); refine r_op (o_move rfl rfl ?_); refine r_guard rfl (o_move rfl rfl ?_))
        (refine r_guard rfl ?_)
        refine o_sneq_f rfl rfl rfl rfl ?_
        (refine r_op (o_pick_f rfl rfl rfl ?_); refine r_op (o_move rfl rfl ?_); refine r_guard rfl (o_move rfl rfl ?_))
        (refine r_guard rfl ?_)
        refine o_call rfl (rentries_spec r b 100 (rst n i).1 (fun s hs => by have := (hsm s hs).2; omega) (by rw [hrl]; omega) (by decide)) rfl ?_
        rintro v B ⟨a5, c5, rfl, rfl⟩
        rw [List.take_of_length_le (by rw [hrl]; omega), hrl]
        (simp only [List.cons_append, List.nil_append])
        (refine r_guard rfl (o_lenS rfl rfl ?_); refine r_guard rfl (o_move rfl rfl ?_); refine r_guard rfl (o_neq_f rfl rfl (by omega) rfl ?_); refine r_op (o_pick_f rfl rfl rfl ?_); refine r_nil ?_; refine x_false rfl ?_; refine x_skip ?_; refine x_inBlock ?_; refine x_region ?_; refine r_op (o_move rfl rfl ?_); refine r_op (o_add rfl rfl (add_i64 (by omega)) rfl ?_); refine r_op (o_assign rfl rfl ?_); refine r_nil ?_)
        refine x_weak (back (n + 1) ⟨by omega, by omega⟩ (by omega)) (by (repeat' (first | exact trivial | refine ⟨rfl, ?_⟩))) Sub.h
    · obtain ⟨hb0, hb14, hfl, hg, hrl⟩ : rbad n i ≠ 0 ∧ rbad n i = 14 ∧ rfail (rst n i).1 = true ∧ rget (rst n i).1 (0, 0) = ([97], 0) ∧ (rls (rst n i).1).length = i := by
        rcases hF with ⟨h1, h2⟩ | h
        · exact absurd h2 (by omega)
        · exact h
      rw [hb14]
      (refine r_op (o_move rfl rfl ?_); refine r_skip rfl rfl rfl ?_; refine r_skip rfl rfl rfl ?_; refine r_op (o_pick_f rfl rfl rfl ?_); refine r_nil ?_; refine x_false rfl ?_; refine x_exit rfl ?_; refine x_seq ?_; refine x_seq (x_region ?_); refine r_op (o_move rfl rfl ?_))
      (refine r_op ?_)
      refine o_call rfl (num11_spec 0) rfl ?_
      rintro v B ⟨rfl, rfl⟩
      (simp only [List.nil_append])
      (refine r_op (o_neq_f rfl rfl (by omega) rfl ?_); refine r_op (o_move rfl rfl ?_); refine r_guard rfl (o_move rfl rfl ?_); refine r_guard rfl (o_neq_f rfl rfl (by omega) rfl ?_); refine r_op (o_pick_f rfl rfl rfl ?_); refine r_op (o_move rfl rfl ?_); refine r_guard rfl (o_move rfl rfl ?_); refine r_guard rfl (o_gtr_f rfl rfl (by omega) rfl ?_); refine r_op (o_pick_f rfl rfl rfl ?_); refine r_op (o_move rfl rfl ?_); refine r_guard rfl (o_move rfl rfl ?_))
      (refine r_guard rfl ?_)
      refine o_call rfl (rfailed_spec r b (rst n i).1) rfl ?_
      rintro v B ⟨rfl, rfl⟩
      rw [hfl]
      (simp only [List.cons_append, List.nil_append])
      have SB := rput_spec r b (rst n i).1 (rst n i).2 [98] hok (by omega) (fun s hs => ⟨(hsm s hs).1, by have := (hsm s hs).2; omega⟩) (by decide)
      rw [rput_failed hfl] at SB
      (refine r_guard rfl (o_not rfl rfl ?_); refine r_op (o_pick_f rfl rfl rfl ?_); refine r_nil ?_; refine x_false rfl ?_; refine x_skip ?_; refine x_seq (x_region ?_); refine r_op (o_move rfl rfl ?_))
      (refine r_op ?_)
      refine o_call rfl SB rfl ?_
      rintro v B ⟨rfl, rfl⟩
      (simp only [List.cons_append, List.nil_append])
      (refine r_op (o_move rfl rfl ?_); refine r_op (o_extract rfl rfl rfl ?_); refine r_op (o_extract rfl rfl rfl ?_))
      (refine r_op ?_)
      refine o_alloc rfl (fun p14 => ?_)
      (refine r_do ?_)
      refine o_storeA (us := refC (0, 0)) rfl rfl rfl rfl rfl (Nat.le_refl 2) ?_
      (refine r_op (o_assign rfl rfl ?_); refine r_nil ?_; refine x_seq (x_region ?_); refine r_op (o_move rfl rfl ?_))
      (refine r_op ?_)
      refine o_loadA (us := refC (0, 0)) rfl rfl rfl rfl rfl ?_
      (refine r_op ?_)
      refine o_call rfl (rget_spec r b (rst n i).1 (0, 0) (fun s hs => by have := (hsm s hs).2; omega)) rfl ?_
      rintro v B ⟨rfl, rfl⟩
      rw [hg]
      (simp only [List.cons_append, List.nil_append])
      (refine r_op (o_move rfl rfl ?_); refine r_op (o_extract rfl rfl rfl ?_); refine r_op (o_extract rfl rfl rfl ?_); refine r_op (o_assign rfl rfl ?_); refine r_op (o_assign rfl rfl ?_); refine r_nil ?_; refine x_seq (x_region ?_); refine r_op (o_move rfl rfl ?_))
      (refine r_op ?_)
      refine o_call rfl (num11_spec 14) rfl ?_
      rintro v B ⟨rfl, rfl⟩
      (simp only [List.nil_append])
      (refine r_op (o_neq_f rfl rfl (by omega) rfl ?_); refine r_op (o_move rfl rfl ?_); refine r_guard rfl (o_move rfl rfl ?_))
      (refine r_guard rfl ?_)
      refine o_loadA (us := refC (0, 0)) rfl rfl rfl rfl rfl ?_
      (refine r_guard rfl ?_)
      have SD := rdel_spec r b (rst n i).1 (rst n i).2 (0, 0) hok (by omega) (fun s hs => ⟨(hsm s hs).1.2, by have := (hsm s hs).2; omega⟩)
      rw [rdel_failed hfl] at SD
      refine o_call rfl SD rfl ?_
      rintro v B ⟨rfl, rfl⟩
      (simp only [List.cons_append, List.nil_append])
      (refine r_guard rfl ?_)
      refine o_call rfl (num11_spec 14) rfl ?_
      rintro v B ⟨rfl, rfl⟩
      (simp only [List.nil_append])
      (refine r_guard rfl (o_neq_f rfl rfl (by omega) rfl ?_); refine r_op (o_pick_f rfl rfl rfl ?_); refine r_op (o_move rfl rfl ?_); refine r_guard rfl (o_move rfl rfl ?_))
      (refine r_guard rfl ?_)
      refine o_call rfl (num11_spec 0) rfl ?_
      rintro v B ⟨rfl, rfl⟩
      (simp only [List.nil_append])
      (refine r_guard rfl (o_neq_f rfl rfl (by omega) rfl ?_); refine r_op (o_pick_f rfl rfl rfl ?_); refine r_op (o_move rfl rfl ?_); refine r_guard rfl (o_move rfl rfl ?_))
      (refine r_guard rfl ?_)
      refine o_sneq_f rfl rfl rfl rfl ?_
      (refine r_op (o_pick_f rfl rfl rfl ?_); refine r_op (o_move rfl rfl ?_); refine r_guard rfl (o_move rfl rfl ?_))
      (refine r_guard rfl ?_)
      refine o_call rfl (rentries_spec r b 100 (rst n i).1 (fun s hs => by have := (hsm s hs).2; omega) (by rw [hrl]; omega) (by decide)) rfl ?_
      rintro v B ⟨a5, c5, rfl, rfl⟩
      rw [List.take_of_length_le (by rw [hrl]; omega), hrl]
      (simp only [List.cons_append, List.nil_append])
      (refine r_guard rfl (o_lenS rfl rfl ?_); refine r_guard rfl (o_move rfl rfl ?_); refine r_guard rfl (o_neq_f rfl rfl (by omega) rfl ?_); refine r_op (o_pick_f rfl rfl rfl ?_); refine r_nil ?_; refine x_false rfl ?_; refine x_skip ?_; refine x_inBlock ?_; refine x_region ?_; refine r_op (o_move rfl rfl ?_); refine r_op (o_add rfl rfl (add_i64 (by omega)) rfl ?_); refine r_op (o_assign rfl rfl ?_); refine r_nil ?_)
      refine x_weak (back (n + 1) ⟨by omega, by omega⟩ (by omega)) (by (repeat' (first | exact trivial | refine ⟨rfl, ?_⟩))) Sub.h
  · (refine r_nil ?_; refine x_false rfl ?_; refine x_exit rfl ?_; refine x_seq (x_region ?_); refine r_op (o_fieldAddr rfl rfl ?_); refine r_op (o_load rfl rfl rfl rfl ?_); refine r_op (o_lenS rfl rfl ?_); refine r_op (o_geq_t rfl rfl (by omega) rfl ?_); refine r_op (o_move rfl rfl ?_))
    (refine r_guard rfl ?_)
    refine o_call rfl wakes11_spec rfl ?_
    rintro v B ⟨rfl, rfl⟩
    (simp only [List.nil_append])
    (refine r_op (o_pick_t rfl rfl rfl ?_); refine r_op (o_assign rfl rfl ?_); refine r_nil ?_)
    exact x_ret rfl [A] ⟨rfl, rfl⟩ Sub.h
end Go.Proofs.Ythneebbmodkjiaa
