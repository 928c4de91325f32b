/- Part of a proof over the seat Ythneebbmodkjiaa: module R2. Its claim's last module says what is proved. -/
import Derived.Test.YthneebbmodkjiaaR1
namespace Go.Proofs.Ythneebbmodkjiaa
open Go.Proofs

/-- A plain disk of flags alone. -/
abbrev fk (off : Bool) (uo ub : Nat) : Dk := ⟨[], off, uo, ub⟩
set_option maxHeartbeats 4000000 in
theorem counts9_spec (b : Nat) (v0 v1 v2 : Value) (left bad : Int) (armed off hurt : Bool) (uo ub : Nat) (f : Int) (hfl : RFl off uo ub left bad armed hurt) :
    Spec Try.prog 104 [dp b, .int .i64 f] [Row b 0 [v0, v1, v2, .int .i64 left, .int .i64 bad, .bool armed, .bool off, .bool hurt]]
      (fun v B => v = .int .i64 ((fk off uo ub).counts f) ∧ ∃ left' bad' hurt', RFl (fk off uo ub).step.off (fk off uo ub).step.uo (fk off uo ub).step.ub left' bad' armed hurt' ∧
        B = [Row b 0 [v0, v1, v2, .int .i64 left', .int .i64 bad', .bool armed, .bool (fk off uo ub).step.off, .bool hurt']]) := by
  have hst := hfl.step []
  have tot : ∀ (l' b' : Int) (o' h' : Bool), RFl (fk off uo ub).step.off (fk off uo ub).step.uo (fk off uo ub).step.ub l' b' armed h' → o' = (fk off uo ub).step.off →
      ∃ left' bad' hurt', RFl (fk off uo ub).step.off (fk off uo ub).step.uo (fk off uo ub).step.ub left' bad' armed hurt' ∧
        [Row b 0 [v0, v1, v2, .int .i64 l', .int .i64 b', .bool armed, .bool o', .bool h']] = [Row b 0 [v0, v1, v2, .int .i64 left', .int .i64 bad', .bool armed, .bool (fk off uo ub).step.off, .bool hurt']] :=
    fun l' b' o' h' h e => ⟨l', b', h', h, by rw [e]⟩
  refine Spec.of_ex Try.func104 rfl Try.ntmps104 rfl fun E cs Γ => ?_
  (simp only [argRho, Nat.reduceAdd, List.cons_append, List.nil_append])
  cases off
  · obtain ⟨u1, u2, hfl⟩ := hfl
    replace hfl := hfl.resolve_left (by simp)
    obtain ⟨a1, a2, a3, a4⟩ := hfl
    have hu : uo = 0 ∨ uo = 1 ∨ 2 ≤ uo := by omega
    have hb : ub = 0 ∨ ub = 1 ∨ 2 ≤ ub := by omega
    cases armed
    · obtain rfl : uo = 0 := by
        rcases hu with h | h | h
        · exact h
        · exact absurd (a1.2 (by omega)) (by simp)
        · exact absurd (a1.2 (by omega)) (by simp)
      cases hurt
      · obtain rfl : ub = 0 := by
          rcases hb with h | h | h
          · exact h
          · exact absurd (a3.2 (by omega)) (by simp)
          · exact absurd (a3.2 (by omega)) (by simp)
        (refine x_seq (x_region ?_); refine r_op (o_assign rfl rfl ?_); refine r_nil ?_; refine x_seq ?_; refine x_seq (x_region ?_); refine r_op (o_move rfl rfl ?_); refine r_op (o_nilCheck rfl rfl ?_); refine r_op (o_fieldAddr rfl rfl ?_); refine r_op (o_load rfl rfl rfl rfl ?_); refine r_nil ?_; refine x_false rfl ?_; refine x_skip ?_; refine x_seq (x_region ?_); refine r_op (o_assign rfl rfl ?_); refine r_nil ?_; refine x_seq ?_; refine x_seq (x_region ?_); refine r_op (o_move rfl rfl ?_); refine r_op (o_nilCheck rfl rfl ?_); refine r_op (o_fieldAddr rfl rfl ?_); refine r_op (o_load rfl rfl rfl rfl ?_); refine r_op (o_move rfl rfl ?_); refine r_skip rfl rfl rfl ?_; refine r_skip rfl rfl rfl ?_; refine r_skip rfl rfl rfl ?_; refine r_skip rfl rfl rfl ?_; refine r_skip rfl rfl rfl ?_; refine r_op (o_pick_f rfl rfl rfl ?_); refine r_nil ?_; refine x_false rfl ?_; refine x_skip ?_; refine x_seq ?_; refine x_seq (x_region ?_); refine r_op (o_move rfl rfl ?_); refine r_op (o_nilCheck rfl rfl ?_); refine r_op (o_fieldAddr rfl rfl ?_); refine r_op (o_load rfl rfl rfl rfl ?_); refine r_nil ?_; refine x_false rfl ?_; refine x_skip ?_; refine x_seq ?_; refine x_seq (x_region ?_); refine r_op (o_move rfl rfl ?_); refine r_nil ?_; refine x_false rfl ?_; refine x_skip ?_; refine x_seq ?_; refine x_seq (x_region ?_); refine r_op (o_move rfl rfl ?_))
        (refine r_op ?_)
        refine o_call rfl (num_spec f 7) rfl ?_
        rintro v B ⟨rfl, rfl⟩
        (simp only [List.nil_append])
        by_cases hf : 0 ≤ f ∧ f ≤ 7
        · rw [decide_eq_true hf]
          (refine r_op (o_not rfl rfl ?_); refine r_nil ?_; refine x_false rfl ?_; refine x_skip ?_; refine x_seq (x_region ?_); refine r_op (o_assign rfl rfl ?_); refine r_nil ?_)
          exact x_ret rfl [_] ⟨by simp [retV, Dk.counts] <;> omega, tot left bad false false (by unfold RFl; simp [Dk.step] <;> omega) (by simp [Dk.step] <;> omega)⟩ Sub.h
        · rw [decide_eq_false hf]
          (refine r_op (o_not rfl rfl ?_); refine r_nil ?_; refine x_true rfl ?_; refine x_seq (x_region ?_); refine r_op (o_assign rfl rfl ?_); refine r_nil ?_)
          exact x_ret rfl [_] ⟨by simp [retV, Dk.counts] <;> omega, tot left bad false false (by unfold RFl; simp [Dk.step] <;> omega) (by simp [Dk.step] <;> omega)⟩ Sub.h
      · have hb1 : 0 < ub := a3.1 rfl
        obtain rfl : bad = ub := a4 hb1
        by_cases h1 : ub = 1
        · subst h1
          (refine x_seq (x_region ?_); refine r_op (o_assign rfl rfl ?_); refine r_nil ?_; refine x_seq ?_; refine x_seq (x_region ?_); refine r_op (o_move rfl rfl ?_); refine r_op (o_nilCheck rfl rfl ?_); refine r_op (o_fieldAddr rfl rfl ?_); refine r_op (o_load rfl rfl rfl rfl ?_); refine r_nil ?_; refine x_false rfl ?_; refine x_skip ?_; refine x_seq (x_region ?_); refine r_op (o_assign rfl rfl ?_); refine r_nil ?_; refine x_seq ?_; refine x_seq (x_region ?_); refine r_op (o_move rfl rfl ?_); refine r_op (o_nilCheck rfl rfl ?_); refine r_op (o_fieldAddr rfl rfl ?_); refine r_op (o_load rfl rfl rfl rfl ?_); refine r_op (o_move rfl rfl ?_); refine r_guard rfl (o_move rfl rfl ?_); refine r_guard rfl (o_nilCheck rfl rfl ?_); refine r_guard rfl (o_fieldAddr rfl rfl ?_); refine r_guard rfl (o_load rfl rfl rfl rfl ?_); refine r_guard rfl (o_not rfl rfl ?_); refine r_op (o_pick_t rfl rfl rfl ?_); refine r_nil ?_; refine x_true rfl ?_; refine x_seq (x_region ?_); refine r_op (o_move rfl rfl ?_); refine r_op (o_nilCheck rfl rfl ?_); refine r_op (o_fieldAddr rfl rfl ?_); refine r_op (o_load rfl rfl rfl rfl ?_); refine r_op (o_sub rfl rfl (sub_i64 (by omega)) rfl ?_); refine r_op (o_nilCheck rfl rfl ?_); refine r_op (o_fieldAddr rfl rfl ?_); refine r_do (o_store rfl rfl rfl rfl (by simp) ?_); try dsimp only [Nat.reduceSub, Nat.reduceAdd, List.set]; refine r_nil ?_; refine x_seq (x_region ?_); refine r_op (o_move rfl rfl ?_); refine r_op (o_nilCheck rfl rfl ?_); refine r_op (o_fieldAddr rfl rfl ?_); refine r_op (o_load rfl rfl rfl rfl ?_); refine r_op (o_leq_t rfl rfl (by omega) rfl ?_); refine r_nil ?_; refine x_true rfl ?_; refine x_seq (x_region ?_); refine r_op (o_move rfl rfl ?_); refine r_op (o_nilCheck rfl rfl ?_); refine r_op (o_fieldAddr rfl rfl ?_); refine r_do (o_store rfl rfl rfl rfl (by simp) ?_); try dsimp only [Nat.reduceSub, Nat.reduceAdd, List.set]; refine r_nil ?_; refine x_region ?_; refine r_op (o_assign rfl rfl ?_); refine r_nil ?_; refine x_seq ?_; refine x_seq (x_region ?_); refine r_op (o_move rfl rfl ?_); refine r_op (o_nilCheck rfl rfl ?_); refine r_op (o_fieldAddr rfl rfl ?_); refine r_op (o_load rfl rfl rfl rfl ?_); refine r_nil ?_; refine x_false rfl ?_; refine x_skip ?_; refine x_seq ?_; refine x_seq (x_region ?_); refine r_op (o_move rfl rfl ?_); refine r_nil ?_; refine x_true rfl ?_; refine x_seq (x_region ?_); refine r_op (o_assign rfl rfl ?_); refine r_nil ?_)
          exact x_ret rfl [_] ⟨by simp [retV, Dk.counts] <;> omega, tot left (((1 : Nat) : Int) - 1) false false (by unfold RFl; simp [Dk.step] <;> omega) (by simp [Dk.step] <;> omega)⟩ Sub.h
        · (refine x_seq (x_region ?_); refine r_op (o_assign rfl rfl ?_); refine r_nil ?_; refine x_seq ?_; refine x_seq (x_region ?_); refine r_op (o_move rfl rfl ?_); refine r_op (o_nilCheck rfl rfl ?_); refine r_op (o_fieldAddr rfl rfl ?_); refine r_op (o_load rfl rfl rfl rfl ?_); refine r_nil ?_; refine x_false rfl ?_; refine x_skip ?_; refine x_seq (x_region ?_); refine r_op (o_assign rfl rfl ?_); refine r_nil ?_; refine x_seq ?_; refine x_seq (x_region ?_); refine r_op (o_move rfl rfl ?_); refine r_op (o_nilCheck rfl rfl ?_); refine r_op (o_fieldAddr rfl rfl ?_); refine r_op (o_load rfl rfl rfl rfl ?_); refine r_op (o_move rfl rfl ?_); refine r_guard rfl (o_move rfl rfl ?_); refine r_guard rfl (o_nilCheck rfl rfl ?_); refine r_guard rfl (o_fieldAddr rfl rfl ?_); refine r_guard rfl (o_load rfl rfl rfl rfl ?_); refine r_guard rfl (o_not rfl rfl ?_); refine r_op (o_pick_t rfl rfl rfl ?_); refine r_nil ?_; refine x_true rfl ?_; refine x_seq (x_region ?_); refine r_op (o_move rfl rfl ?_); refine r_op (o_nilCheck rfl rfl ?_); refine r_op (o_fieldAddr rfl rfl ?_); refine r_op (o_load rfl rfl rfl rfl ?_); refine r_op (o_sub rfl rfl (sub_i64 (by omega)) rfl ?_); refine r_op (o_nilCheck rfl rfl ?_); refine r_op (o_fieldAddr rfl rfl ?_); refine r_do (o_store rfl rfl rfl rfl (by simp) ?_); try dsimp only [Nat.reduceSub, Nat.reduceAdd, List.set]; refine r_nil ?_; refine x_seq (x_region ?_); refine r_op (o_move rfl rfl ?_); refine r_op (o_nilCheck rfl rfl ?_); refine r_op (o_fieldAddr rfl rfl ?_); refine r_op (o_load rfl rfl rfl rfl ?_); refine r_op (o_leq_f rfl rfl (by omega) rfl ?_); refine r_nil ?_; refine x_false rfl ?_; refine x_skip ?_; refine x_seq ?_; refine x_seq (x_region ?_); refine r_op (o_move rfl rfl ?_); refine r_op (o_nilCheck rfl rfl ?_); refine r_op (o_fieldAddr rfl rfl ?_); refine r_op (o_load rfl rfl rfl rfl ?_); refine r_nil ?_; refine x_false rfl ?_; refine x_skip ?_; refine x_seq ?_; refine x_seq (x_region ?_); refine r_op (o_move rfl rfl ?_); refine r_nil ?_; refine x_false rfl ?_; refine x_skip ?_; refine x_seq ?_; refine x_seq (x_region ?_); refine r_op (o_move rfl rfl ?_))
          (refine r_op ?_)
          refine o_call rfl (num_spec f 7) rfl ?_
          rintro v B ⟨rfl, rfl⟩
          (simp only [List.nil_append])
          by_cases hf : 0 ≤ f ∧ f ≤ 7
          · rw [decide_eq_true hf]
            (refine r_op (o_not rfl rfl ?_); refine r_nil ?_; refine x_false rfl ?_; refine x_skip ?_; refine x_seq (x_region ?_); refine r_op (o_assign rfl rfl ?_); refine r_nil ?_)
            exact x_ret rfl [_] ⟨by simp [retV, Dk.counts] <;> omega, tot left ((ub : Int) - 1) false true (by unfold RFl; simp [Dk.step] <;> omega) (by simp [Dk.step] <;> omega)⟩ Sub.h
          · rw [decide_eq_false hf]
            (refine r_op (o_not rfl rfl ?_); refine r_nil ?_; refine x_true rfl ?_; refine x_seq (x_region ?_); refine r_op (o_assign rfl rfl ?_); refine r_nil ?_)
            exact x_ret rfl [_] ⟨by simp [retV, Dk.counts] <;> omega, tot left ((ub : Int) - 1) false true (by unfold RFl; simp [Dk.step] <;> omega) (by simp [Dk.step] <;> omega)⟩ Sub.h
    · have hu1 : 0 < uo := a1.1 rfl
      obtain rfl : left = uo := a2 hu1
      by_cases h0 : uo = 1
      · subst h0
        cases hurt
        · (refine x_seq (x_region ?_); refine r_op (o_assign rfl rfl ?_); refine r_nil ?_; refine x_seq ?_; refine x_seq (x_region ?_); refine r_op (o_move rfl rfl ?_); refine r_op (o_nilCheck rfl rfl ?_); refine r_op (o_fieldAddr rfl rfl ?_); refine r_op (o_load rfl rfl rfl rfl ?_); refine r_nil ?_; refine x_true rfl ?_; refine x_seq (x_region ?_); refine r_op (o_move rfl rfl ?_); refine r_op (o_nilCheck rfl rfl ?_); refine r_op (o_fieldAddr rfl rfl ?_); refine r_op (o_load rfl rfl rfl rfl ?_); refine r_op (o_sub rfl rfl (sub_i64 (by omega)) rfl ?_); refine r_op (o_nilCheck rfl rfl ?_); refine r_op (o_fieldAddr rfl rfl ?_); refine r_do (o_store rfl rfl rfl rfl (by simp) ?_); try dsimp only [Nat.reduceSub, Nat.reduceAdd, List.set]; refine r_nil ?_; refine x_seq (x_region ?_); refine r_op (o_move rfl rfl ?_); refine r_op (o_nilCheck rfl rfl ?_); refine r_op (o_fieldAddr rfl rfl ?_); refine r_op (o_load rfl rfl rfl rfl ?_); refine r_op (o_leq_t rfl rfl (by omega) rfl ?_); refine r_nil ?_; refine x_true rfl ?_; refine x_region ?_; refine r_op (o_move rfl rfl ?_); refine r_op (o_nilCheck rfl rfl ?_); refine r_op (o_fieldAddr rfl rfl ?_); refine r_do (o_store rfl rfl rfl rfl (by simp) ?_); try dsimp only [Nat.reduceSub, Nat.reduceAdd, List.set]; refine r_nil ?_; refine x_seq (x_region ?_); refine r_op (o_assign rfl rfl ?_); refine r_nil ?_; refine x_seq ?_; refine x_seq (x_region ?_); refine r_op (o_move rfl rfl ?_); refine r_op (o_nilCheck rfl rfl ?_); refine r_op (o_fieldAddr rfl rfl ?_); refine r_op (o_load rfl rfl rfl rfl ?_); refine r_op (o_move rfl rfl ?_); refine r_skip rfl rfl rfl ?_; refine r_skip rfl rfl rfl ?_; refine r_skip rfl rfl rfl ?_; refine r_skip rfl rfl rfl ?_; refine r_skip rfl rfl rfl ?_; refine r_op (o_pick_f rfl rfl rfl ?_); refine r_nil ?_; refine x_false rfl ?_; refine x_skip ?_; refine x_seq ?_; refine x_seq (x_region ?_); refine r_op (o_move rfl rfl ?_); refine r_op (o_nilCheck rfl rfl ?_); refine r_op (o_fieldAddr rfl rfl ?_); refine r_op (o_load rfl rfl rfl rfl ?_); refine r_nil ?_; refine x_true rfl ?_; refine x_seq (x_region ?_); refine r_op (o_assign rfl rfl ?_); refine r_nil ?_)
          exact x_ret rfl [_] ⟨by simp [retV, Dk.counts], tot (((1 : Nat) : Int) - 1) bad true false (by unfold RFl; simp [Dk.step] <;> omega) (by simp [Dk.step])⟩ Sub.h
        · (refine x_seq (x_region ?_); refine r_op (o_assign rfl rfl ?_); refine r_nil ?_; refine x_seq ?_; refine x_seq (x_region ?_); refine r_op (o_move rfl rfl ?_); refine r_op (o_nilCheck rfl rfl ?_); refine r_op (o_fieldAddr rfl rfl ?_); refine r_op (o_load rfl rfl rfl rfl ?_); refine r_nil ?_; refine x_true rfl ?_; refine x_seq (x_region ?_); refine r_op (o_move rfl rfl ?_); refine r_op (o_nilCheck rfl rfl ?_); refine r_op (o_fieldAddr rfl rfl ?_); refine r_op (o_load rfl rfl rfl rfl ?_); refine r_op (o_sub rfl rfl (sub_i64 (by omega)) rfl ?_); refine r_op (o_nilCheck rfl rfl ?_); refine r_op (o_fieldAddr rfl rfl ?_); refine r_do (o_store rfl rfl rfl rfl (by simp) ?_); try dsimp only [Nat.reduceSub, Nat.reduceAdd, List.set]; refine r_nil ?_; refine x_seq (x_region ?_); refine r_op (o_move rfl rfl ?_); refine r_op (o_nilCheck rfl rfl ?_); refine r_op (o_fieldAddr rfl rfl ?_); refine r_op (o_load rfl rfl rfl rfl ?_); refine r_op (o_leq_t rfl rfl (by omega) rfl ?_); refine r_nil ?_; refine x_true rfl ?_; refine x_region ?_; refine r_op (o_move rfl rfl ?_); refine r_op (o_nilCheck rfl rfl ?_); refine r_op (o_fieldAddr rfl rfl ?_); refine r_do (o_store rfl rfl rfl rfl (by simp) ?_); try dsimp only [Nat.reduceSub, Nat.reduceAdd, List.set]; refine r_nil ?_; refine x_seq (x_region ?_); refine r_op (o_assign rfl rfl ?_); refine r_nil ?_; refine x_seq ?_; refine x_seq (x_region ?_); refine r_op (o_move rfl rfl ?_); refine r_op (o_nilCheck rfl rfl ?_); refine r_op (o_fieldAddr rfl rfl ?_); refine r_op (o_load rfl rfl rfl rfl ?_); refine r_op (o_move rfl rfl ?_); refine r_guard rfl (o_move rfl rfl ?_); refine r_guard rfl (o_nilCheck rfl rfl ?_); refine r_guard rfl (o_fieldAddr rfl rfl ?_); refine r_guard rfl (o_load rfl rfl rfl rfl ?_); refine r_guard rfl (o_not rfl rfl ?_); refine r_op (o_pick_t rfl rfl rfl ?_); refine r_nil ?_; refine x_false rfl ?_; refine x_skip ?_; refine x_seq ?_; refine x_seq (x_region ?_); refine r_op (o_move rfl rfl ?_); refine r_op (o_nilCheck rfl rfl ?_); refine r_op (o_fieldAddr rfl rfl ?_); refine r_op (o_load rfl rfl rfl rfl ?_); refine r_nil ?_; refine x_true rfl ?_; refine x_seq (x_region ?_); refine r_op (o_assign rfl rfl ?_); refine r_nil ?_)
          exact x_ret rfl [_] ⟨by simp [retV, Dk.counts], tot (((1 : Nat) : Int) - 1) bad true true (by unfold RFl; simp [Dk.step] <;> omega) (by simp [Dk.step])⟩ Sub.h
      · cases hurt
        · obtain rfl : ub = 0 := by
            rcases hb with h | h | h
            · exact h
            · exact absurd (a3.2 (by omega)) (by simp)
            · exact absurd (a3.2 (by omega)) (by simp)
          (refine x_seq (x_region ?_); refine r_op (o_assign rfl rfl ?_); refine r_nil ?_; refine x_seq ?_; refine x_seq (x_region ?_); refine r_op (o_move rfl rfl ?_); refine r_op (o_nilCheck rfl rfl ?_); refine r_op (o_fieldAddr rfl rfl ?_); refine r_op (o_load rfl rfl rfl rfl ?_); refine r_nil ?_; refine x_true rfl ?_; refine x_seq (x_region ?_); refine r_op (o_move rfl rfl ?_); refine r_op (o_nilCheck rfl rfl ?_); refine r_op (o_fieldAddr rfl rfl ?_); refine r_op (o_load rfl rfl rfl rfl ?_); refine r_op (o_sub rfl rfl (sub_i64 (by omega)) rfl ?_); refine r_op (o_nilCheck rfl rfl ?_); refine r_op (o_fieldAddr rfl rfl ?_); refine r_do (o_store rfl rfl rfl rfl (by simp) ?_); try dsimp only [Nat.reduceSub, Nat.reduceAdd, List.set]; refine r_nil ?_; refine x_seq (x_region ?_); refine r_op (o_move rfl rfl ?_); refine r_op (o_nilCheck rfl rfl ?_); refine r_op (o_fieldAddr rfl rfl ?_); refine r_op (o_load rfl rfl rfl rfl ?_); refine r_op (o_leq_f rfl rfl (by omega) rfl ?_); refine r_nil ?_; refine x_false rfl ?_; refine x_skip ?_; refine x_seq (x_region ?_); refine r_op (o_assign rfl rfl ?_); refine r_nil ?_; refine x_seq ?_; refine x_seq (x_region ?_); refine r_op (o_move rfl rfl ?_); refine r_op (o_nilCheck rfl rfl ?_); refine r_op (o_fieldAddr rfl rfl ?_); refine r_op (o_load rfl rfl rfl rfl ?_); refine r_op (o_move rfl rfl ?_); refine r_skip rfl rfl rfl ?_; refine r_skip rfl rfl rfl ?_; refine r_skip rfl rfl rfl ?_; refine r_skip rfl rfl rfl ?_; refine r_skip rfl rfl rfl ?_; refine r_op (o_pick_f rfl rfl rfl ?_); refine r_nil ?_; refine x_false rfl ?_; refine x_skip ?_; refine x_seq ?_; refine x_seq (x_region ?_); refine r_op (o_move rfl rfl ?_); refine r_op (o_nilCheck rfl rfl ?_); refine r_op (o_fieldAddr rfl rfl ?_); refine r_op (o_load rfl rfl rfl rfl ?_); refine r_nil ?_; refine x_false rfl ?_; refine x_skip ?_; refine x_seq ?_; refine x_seq (x_region ?_); refine r_op (o_move rfl rfl ?_); refine r_nil ?_; refine x_false rfl ?_; refine x_skip ?_; refine x_seq ?_; refine x_seq (x_region ?_); refine r_op (o_move rfl rfl ?_))
          (refine r_op ?_)
          refine o_call rfl (num_spec f 7) rfl ?_
          rintro v B ⟨rfl, rfl⟩
          (simp only [List.nil_append])
          by_cases hf : 0 ≤ f ∧ f ≤ 7
          · rw [decide_eq_true hf]
            (refine r_op (o_not rfl rfl ?_); refine r_nil ?_; refine x_false rfl ?_; refine x_skip ?_; refine x_seq (x_region ?_); refine r_op (o_assign rfl rfl ?_); refine r_nil ?_)
            exact x_ret rfl [_] ⟨by simp [retV, Dk.counts] <;> omega, tot ((uo : Int) - 1) bad false false (by unfold RFl; simp [Dk.step] <;> omega) (by simp [Dk.step] <;> omega)⟩ Sub.h
          · rw [decide_eq_false hf]
            (refine r_op (o_not rfl rfl ?_); refine r_nil ?_; refine x_true rfl ?_; refine x_seq (x_region ?_); refine r_op (o_assign rfl rfl ?_); refine r_nil ?_)
            exact x_ret rfl [_] ⟨by simp [retV, Dk.counts] <;> omega, tot ((uo : Int) - 1) bad false false (by unfold RFl; simp [Dk.step] <;> omega) (by simp [Dk.step] <;> omega)⟩ Sub.h
        · have hb1 : 0 < ub := a3.1 rfl
          obtain rfl : bad = ub := a4 hb1
          by_cases h1 : ub = 1
          · subst h1
            (refine x_seq (x_region ?_); refine r_op (o_assign rfl rfl ?_); refine r_nil ?_; refine x_seq ?_; refine x_seq (x_region ?_); refine r_op (o_move rfl rfl ?_); refine r_op (o_nilCheck rfl rfl ?_); refine r_op (o_fieldAddr rfl rfl ?_); refine r_op (o_load rfl rfl rfl rfl ?_); refine r_nil ?_; refine x_true rfl ?_; refine x_seq (x_region ?_); refine r_op (o_move rfl rfl ?_); refine r_op (o_nilCheck rfl rfl ?_); refine r_op (o_fieldAddr rfl rfl ?_); refine r_op (o_load rfl rfl rfl rfl ?_); refine r_op (o_sub rfl rfl (sub_i64 (by omega)) rfl ?_); refine r_op (o_nilCheck rfl rfl ?_); refine r_op (o_fieldAddr rfl rfl ?_); refine r_do (o_store rfl rfl rfl rfl (by simp) ?_); try dsimp only [Nat.reduceSub, Nat.reduceAdd, List.set]; refine r_nil ?_; refine x_seq (x_region ?_); refine r_op (o_move rfl rfl ?_); refine r_op (o_nilCheck rfl rfl ?_); refine r_op (o_fieldAddr rfl rfl ?_); refine r_op (o_load rfl rfl rfl rfl ?_); refine r_op (o_leq_f rfl rfl (by omega) rfl ?_); refine r_nil ?_; refine x_false rfl ?_; refine x_skip ?_; refine x_seq (x_region ?_); refine r_op (o_assign rfl rfl ?_); refine r_nil ?_; refine x_seq ?_; refine x_seq (x_region ?_); refine r_op (o_move rfl rfl ?_); refine r_op (o_nilCheck rfl rfl ?_); refine r_op (o_fieldAddr rfl rfl ?_); refine r_op (o_load rfl rfl rfl rfl ?_); refine r_op (o_move rfl rfl ?_); refine r_guard rfl (o_move rfl rfl ?_); refine r_guard rfl (o_nilCheck rfl rfl ?_); refine r_guard rfl (o_fieldAddr rfl rfl ?_); refine r_guard rfl (o_load rfl rfl rfl rfl ?_); refine r_guard rfl (o_not rfl rfl ?_); refine r_op (o_pick_t rfl rfl rfl ?_); refine r_nil ?_; refine x_true rfl ?_; refine x_seq (x_region ?_); refine r_op (o_move rfl rfl ?_); refine r_op (o_nilCheck rfl rfl ?_); refine r_op (o_fieldAddr rfl rfl ?_); refine r_op (o_load rfl rfl rfl rfl ?_); refine r_op (o_sub rfl rfl (sub_i64 (by omega)) rfl ?_); refine r_op (o_nilCheck rfl rfl ?_); refine r_op (o_fieldAddr rfl rfl ?_); refine r_do (o_store rfl rfl rfl rfl (by simp) ?_); try dsimp only [Nat.reduceSub, Nat.reduceAdd, List.set]; refine r_nil ?_; refine x_seq (x_region ?_); refine r_op (o_move rfl rfl ?_); refine r_op (o_nilCheck rfl rfl ?_); refine r_op (o_fieldAddr rfl rfl ?_); refine r_op (o_load rfl rfl rfl rfl ?_); refine r_op (o_leq_t rfl rfl (by omega) rfl ?_); refine r_nil ?_; refine x_true rfl ?_; refine x_seq (x_region ?_); refine r_op (o_move rfl rfl ?_); refine r_op (o_nilCheck rfl rfl ?_); refine r_op (o_fieldAddr rfl rfl ?_); refine r_do (o_store rfl rfl rfl rfl (by simp) ?_); try dsimp only [Nat.reduceSub, Nat.reduceAdd, List.set]; refine r_nil ?_; refine x_region ?_; refine r_op (o_assign rfl rfl ?_); refine r_nil ?_; refine x_seq ?_; refine x_seq (x_region ?_); refine r_op (o_move rfl rfl ?_); refine r_op (o_nilCheck rfl rfl ?_); refine r_op (o_fieldAddr rfl rfl ?_); refine r_op (o_load rfl rfl rfl rfl ?_); refine r_nil ?_; refine x_false rfl ?_; refine x_skip ?_; refine x_seq ?_; refine x_seq (x_region ?_); refine r_op (o_move rfl rfl ?_); refine r_nil ?_; refine x_true rfl ?_; refine x_seq (x_region ?_); refine r_op (o_assign rfl rfl ?_); refine r_nil ?_)
            exact x_ret rfl [_] ⟨by simp [retV, Dk.counts] <;> omega, tot ((uo : Int) - 1) (((1 : Nat) : Int) - 1) false false (by unfold RFl; simp [Dk.step] <;> omega) (by simp [Dk.step] <;> omega)⟩ Sub.h
          · (refine x_seq (x_region ?_); refine r_op (o_assign rfl rfl ?_); refine r_nil ?_; refine x_seq ?_; refine x_seq (x_region ?_); refine r_op (o_move rfl rfl ?_); refine r_op (o_nilCheck rfl rfl ?_); refine r_op (o_fieldAddr rfl rfl ?_); refine r_op (o_load rfl rfl rfl rfl ?_); refine r_nil ?_; refine x_true rfl ?_; refine x_seq (x_region ?_); refine r_op (o_move rfl rfl ?_); refine r_op (o_nilCheck rfl rfl ?_); refine r_op (o_fieldAddr rfl rfl ?_); refine r_op (o_load rfl rfl rfl rfl ?_); refine r_op (o_sub rfl rfl (sub_i64 (by omega)) rfl ?_); refine r_op (o_nilCheck rfl rfl ?_); refine r_op (o_fieldAddr rfl rfl ?_); refine r_do (o_store rfl rfl rfl rfl (by simp) ?_); try dsimp only [Nat.reduceSub, Nat.reduceAdd, List.set]; refine r_nil ?_; refine x_seq (x_region ?_); refine r_op (o_move rfl rfl ?_); refine r_op (o_nilCheck rfl rfl ?_); refine r_op (o_fieldAddr rfl rfl ?_); refine r_op (o_load rfl rfl rfl rfl ?_); refine r_op (o_leq_f rfl rfl (by omega) rfl ?_); refine r_nil ?_; refine x_false rfl ?_; refine x_skip ?_; refine x_seq (x_region ?_); refine r_op (o_assign rfl rfl ?_); refine r_nil ?_; refine x_seq ?_; refine x_seq (x_region ?_); refine r_op (o_move rfl rfl ?_); refine r_op (o_nilCheck rfl rfl ?_); refine r_op (o_fieldAddr rfl rfl ?_); refine r_op (o_load rfl rfl rfl rfl ?_); refine r_op (o_move rfl rfl ?_); refine r_guard rfl (o_move rfl rfl ?_); refine r_guard rfl (o_nilCheck rfl rfl ?_); refine r_guard rfl (o_fieldAddr rfl rfl ?_); refine r_guard rfl (o_load rfl rfl rfl rfl ?_); refine r_guard rfl (o_not rfl rfl ?_); refine r_op (o_pick_t rfl rfl rfl ?_); refine r_nil ?_; refine x_true rfl ?_; refine x_seq (x_region ?_); refine r_op (o_move rfl rfl ?_); refine r_op (o_nilCheck rfl rfl ?_); refine r_op (o_fieldAddr rfl rfl ?_); refine r_op (o_load rfl rfl rfl rfl ?_); refine r_op (o_sub rfl rfl (sub_i64 (by omega)) rfl ?_); refine r_op (o_nilCheck rfl rfl ?_); refine r_op (o_fieldAddr rfl rfl ?_); refine r_do (o_store rfl rfl rfl rfl (by simp) ?_); try dsimp only [Nat.reduceSub, Nat.reduceAdd, List.set]; refine r_nil ?_; refine x_seq (x_region ?_); refine r_op (o_move rfl rfl ?_); refine r_op (o_nilCheck rfl rfl ?_); refine r_op (o_fieldAddr rfl rfl ?_); refine r_op (o_load rfl rfl rfl rfl ?_); refine r_op (o_leq_f rfl rfl (by omega) rfl ?_); refine r_nil ?_; refine x_false rfl ?_; refine x_skip ?_; refine x_seq ?_; refine x_seq (x_region ?_); refine r_op (o_move rfl rfl ?_); refine r_op (o_nilCheck rfl rfl ?_); refine r_op (o_fieldAddr rfl rfl ?_); refine r_op (o_load rfl rfl rfl rfl ?_); refine r_nil ?_; refine x_false rfl ?_; refine x_skip ?_; refine x_seq ?_; refine x_seq (x_region ?_); refine r_op (o_move rfl rfl ?_); refine r_nil ?_; refine x_false rfl ?_; refine x_skip ?_; refine x_seq ?_; refine x_seq (x_region ?_); refine r_op (o_move rfl rfl ?_))
            (refine r_op ?_)
            refine o_call rfl (num_spec f 7) rfl ?_
            rintro v B ⟨rfl, rfl⟩
            (simp only [List.nil_append])
            by_cases hf : 0 ≤ f ∧ f ≤ 7
            · rw [decide_eq_true hf]
              (refine r_op (o_not rfl rfl ?_); refine r_nil ?_; refine x_false rfl ?_; refine x_skip ?_; refine x_seq (x_region ?_); refine r_op (o_assign rfl rfl ?_); refine r_nil ?_)
              exact x_ret rfl [_] ⟨by simp [retV, Dk.counts] <;> omega, tot ((uo : Int) - 1) ((ub : Int) - 1) false true (by unfold RFl; simp [Dk.step] <;> omega) (by simp [Dk.step] <;> omega)⟩ Sub.h
            · rw [decide_eq_false hf]
              (refine r_op (o_not rfl rfl ?_); refine r_nil ?_; refine x_true rfl ?_; refine x_seq (x_region ?_); refine r_op (o_assign rfl rfl ?_); refine r_nil ?_)
              exact x_ret rfl [_] ⟨by simp [retV, Dk.counts] <;> omega, tot ((uo : Int) - 1) ((ub : Int) - 1) false true (by unfold RFl; simp [Dk.step] <;> omega) (by simp [Dk.step] <;> omega)⟩ Sub.h
  · have hz : ∀ l' b' h', RFl (fk true uo ub).step.off (fk true uo ub).step.uo (fk true uo ub).step.ub l' b' armed h' := fun l' b' h' => ⟨hst.1, hst.2, .inl rfl⟩
    cases armed
    · cases hurt
      · (refine x_seq (x_region ?_); refine r_op (o_assign rfl rfl ?_); refine r_nil ?_; refine x_seq ?_; refine x_seq (x_region ?_); refine r_op (o_move rfl rfl ?_); refine r_op (o_nilCheck rfl rfl ?_); refine r_op (o_fieldAddr rfl rfl ?_); refine r_op (o_load rfl rfl rfl rfl ?_); refine r_nil ?_; refine x_false rfl ?_; refine x_skip ?_; refine x_seq (x_region ?_); refine r_op (o_assign rfl rfl ?_); refine r_nil ?_; refine x_seq ?_; refine x_seq (x_region ?_); refine r_op (o_move rfl rfl ?_); refine r_op (o_nilCheck rfl rfl ?_); refine r_op (o_fieldAddr rfl rfl ?_); refine r_op (o_load rfl rfl rfl rfl ?_); refine r_op (o_move rfl rfl ?_); refine r_skip rfl rfl rfl ?_; refine r_skip rfl rfl rfl ?_; refine r_skip rfl rfl rfl ?_; refine r_skip rfl rfl rfl ?_; refine r_skip rfl rfl rfl ?_; refine r_op (o_pick_f rfl rfl rfl ?_); refine r_nil ?_; refine x_false rfl ?_; refine x_skip ?_; refine x_seq ?_; refine x_seq (x_region ?_); refine r_op (o_move rfl rfl ?_); refine r_op (o_nilCheck rfl rfl ?_); refine r_op (o_fieldAddr rfl rfl ?_); refine r_op (o_load rfl rfl rfl rfl ?_); refine r_nil ?_; refine x_true rfl ?_; refine x_seq (x_region ?_); refine r_op (o_assign rfl rfl ?_); refine r_nil ?_)
        exact x_ret rfl [_] ⟨by simp [retV, Dk.counts], tot left bad true false (hz _ _ _) rfl⟩ Sub.h
      · (refine x_seq (x_region ?_); refine r_op (o_assign rfl rfl ?_); refine r_nil ?_; refine x_seq ?_; refine x_seq (x_region ?_); refine r_op (o_move rfl rfl ?_); refine r_op (o_nilCheck rfl rfl ?_); refine r_op (o_fieldAddr rfl rfl ?_); refine r_op (o_load rfl rfl rfl rfl ?_); refine r_nil ?_; refine x_false rfl ?_; refine x_skip ?_; refine x_seq (x_region ?_); refine r_op (o_assign rfl rfl ?_); refine r_nil ?_; refine x_seq ?_; refine x_seq (x_region ?_); refine r_op (o_move rfl rfl ?_); refine r_op (o_nilCheck rfl rfl ?_); refine r_op (o_fieldAddr rfl rfl ?_); refine r_op (o_load rfl rfl rfl rfl ?_); refine r_op (o_move rfl rfl ?_); refine r_guard rfl (o_move rfl rfl ?_); refine r_guard rfl (o_nilCheck rfl rfl ?_); refine r_guard rfl (o_fieldAddr rfl rfl ?_); refine r_guard rfl (o_load rfl rfl rfl rfl ?_); refine r_guard rfl (o_not rfl rfl ?_); refine r_op (o_pick_t rfl rfl rfl ?_); refine r_nil ?_; refine x_false rfl ?_; refine x_skip ?_; refine x_seq ?_; refine x_seq (x_region ?_); refine r_op (o_move rfl rfl ?_); refine r_op (o_nilCheck rfl rfl ?_); refine r_op (o_fieldAddr rfl rfl ?_); refine r_op (o_load rfl rfl rfl rfl ?_); refine r_nil ?_; refine x_true rfl ?_; refine x_seq (x_region ?_); refine r_op (o_assign rfl rfl ?_); refine r_nil ?_)
        exact x_ret rfl [_] ⟨by simp [retV, Dk.counts], tot left bad true true (hz _ _ _) rfl⟩ Sub.h
    · (refine x_seq (x_region ?_); refine r_op (o_assign rfl rfl ?_); refine r_nil ?_; refine x_seq ?_; refine x_seq (x_region ?_); refine r_op (o_move rfl rfl ?_); refine r_op (o_nilCheck rfl rfl ?_); refine r_op (o_fieldAddr rfl rfl ?_); refine r_op (o_load rfl rfl rfl rfl ?_); refine r_nil ?_; refine x_true rfl ?_; refine x_seq (x_region ?_); refine r_op (o_move rfl rfl ?_); refine r_op (o_nilCheck rfl rfl ?_); refine r_op (o_fieldAddr rfl rfl ?_); refine r_op (o_load rfl rfl rfl rfl ?_))
      (refine r_op ?_)
      refine o_subW rfl rfl rfl ?_
      (refine r_op (o_nilCheck rfl rfl ?_); refine r_op (o_fieldAddr rfl rfl ?_); refine r_do (o_store rfl rfl rfl rfl (by simp) ?_); try dsimp only [Nat.reduceSub, Nat.reduceAdd, List.set]; refine r_nil ?_; refine x_seq (x_region ?_); refine r_op (o_move rfl rfl ?_); refine r_op (o_nilCheck rfl rfl ?_); refine r_op (o_fieldAddr rfl rfl ?_); refine r_op (o_load rfl rfl rfl rfl ?_))
      (refine r_op ?_)
      refine o_leq rfl rfl rfl (fun h1 => ?_) (fun h1 => ?_)
      · cases hurt
        · (refine r_nil ?_; refine x_true rfl ?_; refine x_region ?_; refine r_op (o_move rfl rfl ?_); refine r_op (o_nilCheck rfl rfl ?_); refine r_op (o_fieldAddr rfl rfl ?_); refine r_do (o_store rfl rfl rfl rfl (by simp) ?_); try dsimp only [Nat.reduceSub, Nat.reduceAdd, List.set]; refine r_nil ?_; refine x_seq (x_region ?_); refine r_op (o_assign rfl rfl ?_); refine r_nil ?_; refine x_seq ?_; refine x_seq (x_region ?_); refine r_op (o_move rfl rfl ?_); refine r_op (o_nilCheck rfl rfl ?_); refine r_op (o_fieldAddr rfl rfl ?_); refine r_op (o_load rfl rfl rfl rfl ?_); refine r_op (o_move rfl rfl ?_); refine r_skip rfl rfl rfl ?_; refine r_skip rfl rfl rfl ?_; refine r_skip rfl rfl rfl ?_; refine r_skip rfl rfl rfl ?_; refine r_skip rfl rfl rfl ?_; refine r_op (o_pick_f rfl rfl rfl ?_); refine r_nil ?_; refine x_false rfl ?_; refine x_skip ?_; refine x_seq ?_; refine x_seq (x_region ?_); refine r_op (o_move rfl rfl ?_); refine r_op (o_nilCheck rfl rfl ?_); refine r_op (o_fieldAddr rfl rfl ?_); refine r_op (o_load rfl rfl rfl rfl ?_); refine r_nil ?_; refine x_true rfl ?_; refine x_seq (x_region ?_); refine r_op (o_assign rfl rfl ?_); refine r_nil ?_)
          exact x_ret rfl [_] ⟨by simp [retV, Dk.counts], tot (IntKind.i64.wrap (left - 1)) bad true false (hz _ _ _) rfl⟩ Sub.h
        · (refine r_nil ?_; refine x_true rfl ?_; refine x_region ?_; refine r_op (o_move rfl rfl ?_); refine r_op (o_nilCheck rfl rfl ?_); refine r_op (o_fieldAddr rfl rfl ?_); refine r_do (o_store rfl rfl rfl rfl (by simp) ?_); try dsimp only [Nat.reduceSub, Nat.reduceAdd, List.set]; refine r_nil ?_; refine x_seq (x_region ?_); refine r_op (o_assign rfl rfl ?_); refine r_nil ?_; refine x_seq ?_; refine x_seq (x_region ?_); refine r_op (o_move rfl rfl ?_); refine r_op (o_nilCheck rfl rfl ?_); refine r_op (o_fieldAddr rfl rfl ?_); refine r_op (o_load rfl rfl rfl rfl ?_); refine r_op (o_move rfl rfl ?_); refine r_guard rfl (o_move rfl rfl ?_); refine r_guard rfl (o_nilCheck rfl rfl ?_); refine r_guard rfl (o_fieldAddr rfl rfl ?_); refine r_guard rfl (o_load rfl rfl rfl rfl ?_); refine r_guard rfl (o_not rfl rfl ?_); refine r_op (o_pick_t rfl rfl rfl ?_); refine r_nil ?_; refine x_false rfl ?_; refine x_skip ?_; refine x_seq ?_; refine x_seq (x_region ?_); refine r_op (o_move rfl rfl ?_); refine r_op (o_nilCheck rfl rfl ?_); refine r_op (o_fieldAddr rfl rfl ?_); refine r_op (o_load rfl rfl rfl rfl ?_); refine r_nil ?_; refine x_true rfl ?_; refine x_seq (x_region ?_); refine r_op (o_assign rfl rfl ?_); refine r_nil ?_)
          exact x_ret rfl [_] ⟨by simp [retV, Dk.counts], tot (IntKind.i64.wrap (left - 1)) bad true true (hz _ _ _) rfl⟩ Sub.h
      · cases hurt
        · (refine r_nil ?_; refine x_false rfl ?_; refine x_skip ?_; refine x_seq (x_region ?_); refine r_op (o_assign rfl rfl ?_); refine r_nil ?_; refine x_seq ?_; refine x_seq (x_region ?_); refine r_op (o_move rfl rfl ?_); refine r_op (o_nilCheck rfl rfl ?_); refine r_op (o_fieldAddr rfl rfl ?_); refine r_op (o_load rfl rfl rfl rfl ?_); refine r_op (o_move rfl rfl ?_); refine r_skip rfl rfl rfl ?_; refine r_skip rfl rfl rfl ?_; refine r_skip rfl rfl rfl ?_; refine r_skip rfl rfl rfl ?_; refine r_skip rfl rfl rfl ?_; refine r_op (o_pick_f rfl rfl rfl ?_); refine r_nil ?_; refine x_false rfl ?_; refine x_skip ?_; refine x_seq ?_; refine x_seq (x_region ?_); refine r_op (o_move rfl rfl ?_); refine r_op (o_nilCheck rfl rfl ?_); refine r_op (o_fieldAddr rfl rfl ?_); refine r_op (o_load rfl rfl rfl rfl ?_); refine r_nil ?_; refine x_true rfl ?_; refine x_seq (x_region ?_); refine r_op (o_assign rfl rfl ?_); refine r_nil ?_)
          exact x_ret rfl [_] ⟨by simp [retV, Dk.counts], tot (IntKind.i64.wrap (left - 1)) bad true false (hz _ _ _) rfl⟩ Sub.h
        · (refine r_nil ?_; refine x_false rfl ?_; refine x_skip ?_; refine x_seq (x_region ?_); refine r_op (o_assign rfl rfl ?_); refine r_nil ?_; refine x_seq ?_; refine x_seq (x_region ?_); refine r_op (o_move rfl rfl ?_); refine r_op (o_nilCheck rfl rfl ?_); refine r_op (o_fieldAddr rfl rfl ?_); refine r_op (o_load rfl rfl rfl rfl ?_); refine r_op (o_move rfl rfl ?_); refine r_guard rfl (o_move rfl rfl ?_); refine r_guard rfl (o_nilCheck rfl rfl ?_); refine r_guard rfl (o_fieldAddr rfl rfl ?_); refine r_guard rfl (o_load rfl rfl rfl rfl ?_); refine r_guard rfl (o_not rfl rfl ?_); refine r_op (o_pick_t rfl rfl rfl ?_); refine r_nil ?_; refine x_false rfl ?_; refine x_skip ?_; refine x_seq ?_; refine x_seq (x_region ?_); refine r_op (o_move rfl rfl ?_); refine r_op (o_nilCheck rfl rfl ?_); refine r_op (o_fieldAddr rfl rfl ?_); refine r_op (o_load rfl rfl rfl rfl ?_); refine r_nil ?_; refine x_true rfl ?_; refine x_seq (x_region ?_); refine r_op (o_assign rfl rfl ?_); refine r_nil ?_)
          exact x_ret rfl [_] ⟨by simp [retV, Dk.counts], tot (IntKind.i64.wrap (left - 1)) bad true true (hz _ _ _) rfl⟩ Sub.h

theorem size9_spec (b : Nat) (d : Dk) (f : Int) : Spec Try.prog 45 [dp b, .int .i64 f] [DiskR b d] (fun v B => v = .tuple #[.int .i64 (d.size f).1, .int .i64 (d.size f).2] ∧ B = [DiskR b d]) := by
  refine Spec.of_ex Try.func45 rfl Try.ntmps45 rfl fun E cs Γ => ?_
  (simp only [argRho, Nat.reduceAdd, List.cons_append, List.nil_append])
  refine x_open (fun E w s => s.diskR) fun ⟨q, hq⟩ => ?_
  dsimp only
  obtain ⟨o, ho⟩ : ∃ o, d.off = o := ⟨_, rfl⟩
  have hback := Ent.diskR (b := b) q hq Γ
  rw [ho] at hback ⊢
  cases o
  · (refine x_seq (x_region ?_); refine r_op (o_assign rfl rfl ?_); refine r_op (o_assign rfl rfl ?_); refine r_nil ?_; refine x_seq ?_; refine x_seq (x_region ?_); refine r_op (o_move rfl rfl ?_); refine r_op (o_nilCheck rfl rfl ?_); refine r_op (o_fieldAddr rfl rfl ?_); refine r_op (o_load rfl rfl rfl rfl ?_); refine r_nil ?_; refine x_false rfl ?_; refine x_skip ?_; refine x_seq ?_; refine x_seq (x_region ?_); refine r_op (o_move rfl rfl ?_))
    (refine r_op ?_)
    refine o_call rfl (num_spec f 7) rfl ?_
    rintro v B ⟨rfl, rfl⟩
    (simp only [List.nil_append])
    by_cases hf : 0 ≤ f ∧ f ≤ 7
    · rw [decide_eq_true hf]
      obtain ⟨i, rfl⟩ : ∃ i : Nat, f = i := ⟨f.toNat, by omega⟩
      have hi : i < q.fs.length := by rw [hq.len]; omega
      have hk : d.asks i = 0 := by unfold Dk.asks; rw [ho]; simp; omega
      have RN := Sl.reads 1 q.la q.fs.length q.lc (nowsV q.fs) (by simp)
      (refine r_op (o_not rfl rfl ?_); refine r_nil ?_; refine x_false rfl ?_; refine x_skip ?_; refine x_seq (x_region ?_); refine r_op (o_move rfl rfl ?_); refine r_op (o_nilCheck rfl rfl ?_); refine r_op (o_fieldAddr rfl rfl ?_); refine r_op (o_load rfl rfl rfl rfl ?_); refine r_op (o_move rfl rfl ?_))
      (refine r_op ?_)
      refine o_indexR rfl rfl RN (j := i) rfl hi rfl (fun b1 off ha => ?_)
      (refine r_op ?_)
      refine o_loadR rfl RN ha (i := i) (by omega) (mget (fun x : FX => sv x.now) hi) rfl ?_
      (refine r_op (o_lenS rfl rfl ?_); refine r_op (o_assign rfl rfl ?_); refine r_op (o_assign rfl rfl ?_); refine r_nil ?_)
      refine x_ret rfl [DiskR b d] ⟨?_, rfl⟩ (hback.trans Sub.h)
      simp [retV, Dk.size, hk, hq.get hi, FX.abs]
    · rw [decide_eq_false hf]
      have hk : d.asks f = 3 := by unfold Dk.asks; rw [ho, if_neg (by simp), if_pos (by omega)]
      (refine r_op (o_not rfl rfl ?_); refine r_nil ?_; refine x_true rfl ?_; refine x_seq (x_region ?_); refine r_op (o_assign rfl rfl ?_); refine r_op (o_assign rfl rfl ?_); refine r_nil ?_)
      refine x_ret rfl [DiskR b d] ⟨?_, rfl⟩ (hback.trans Sub.h)
      simp [retV, Dk.size, hk]
  · have hk : d.asks f = 13 := by unfold Dk.asks; rw [ho]; rfl
    (refine x_seq (x_region ?_); refine r_op (o_assign rfl rfl ?_); refine r_op (o_assign rfl rfl ?_); refine r_nil ?_; refine x_seq ?_; refine x_seq (x_region ?_); refine r_op (o_move rfl rfl ?_); refine r_op (o_nilCheck rfl rfl ?_); refine r_op (o_fieldAddr rfl rfl ?_); refine r_op (o_load rfl rfl rfl rfl ?_); refine r_nil ?_; refine x_true rfl ?_; refine x_seq (x_region ?_); refine r_op (o_assign rfl rfl ?_); refine r_op (o_assign rfl rfl ?_); refine r_nil ?_)
    refine x_ret rfl [DiskR b d] ⟨?_, rfl⟩ (hback.trans Sub.h)
    simp [retV, Dk.size, hk]

theorem arm9_spec (b : Nat) (d : Dk) (n : Int) (hn : n ≤ 9223372036854775807) : Spec Try.prog 51 [dp b, .int .i64 n] [DiskR b d] (fun v B => v = .tuple #[] ∧ B = [DiskR b (d.power n)]) := by
  refine Spec.of_ex Try.func51 rfl Try.ntmps51 rfl fun E cs Γ => ?_
  (simp only [argRho, Nat.reduceAdd, List.cons_append, List.nil_append])
  refine x_open (fun E w s => s.diskR) fun ⟨q, hq⟩ => ?_
  dsimp only
  obtain ⟨h1, h2, h3⟩ := hq.fl
  by_cases h0 : n < 1
  · have := Ent.diskR (b := b) (d := d.power n) q ⟨hq.fs, hq.len, by unfold Dk.power; simp; omega, h2, .inl (by unfold Dk.power; simp [h0])⟩ Γ
    rw [show (d.power n).off = true by unfold Dk.power; simp [h0]] at this
    (refine x_seq ?_; refine x_seq (x_region ?_); refine r_op (o_move rfl rfl ?_); refine r_op (o_lss_t rfl rfl (by omega) rfl ?_); refine r_nil ?_; refine x_true rfl ?_; refine x_seq (x_region ?_); refine r_op (o_move rfl rfl ?_); refine r_op (o_nilCheck rfl rfl ?_); refine r_op (o_fieldAddr rfl rfl ?_); refine r_do (o_store rfl rfl rfl rfl (by simp) ?_); try dsimp only [Nat.reduceSub, Nat.reduceAdd, List.set]; refine r_nil ?_)
    exact x_ret rfl [DiskR b (d.power n)] ⟨rfl, rfl⟩ (this.trans Sub.h)
  · have := Ent.diskR (b := b) (d := d.power n) { q with armed := true, left := n } ⟨hq.fs, hq.len, by unfold Dk.power; simp; omega, h2, by
      rcases h3 with h3 | ⟨g1, g2, g3, g4⟩
      · exact .inl (by unfold Dk.power; simp [h3])
      · refine .inr ⟨?_, ?_, g3, g4⟩
        · unfold Dk.power; simp; omega
        · unfold Dk.power; simp; omega⟩ Γ
    rw [show (d.power n).off = d.off by unfold Dk.power; simp [h0]] at this
    (refine x_seq ?_; refine x_seq (x_region ?_); refine r_op (o_move rfl rfl ?_); refine r_op (o_lss_f rfl rfl (by omega) rfl ?_); refine r_nil ?_; refine x_false rfl ?_; refine x_skip ?_; refine x_region ?_; refine r_op (o_move rfl rfl ?_); refine r_op (o_move rfl rfl ?_); refine r_op (o_move rfl rfl ?_); refine r_op (o_nilCheck rfl rfl ?_); refine r_op (o_fieldAddr rfl rfl ?_); refine r_do (o_store rfl rfl rfl rfl (by simp) ?_); try dsimp only [Nat.reduceSub, Nat.reduceAdd, List.set]; refine r_op (o_nilCheck rfl rfl ?_); refine r_op (o_fieldAddr rfl rfl ?_); refine r_do (o_store rfl rfl rfl rfl (by simp) ?_); try dsimp only [Nat.reduceSub, Nat.reduceAdd, List.set]; refine r_nil ?_)
    exact x_end [DiskR b (d.power n)] ⟨rfl, rfl⟩ (this.trans Sub.h)

theorem fail9_spec (b : Nat) (d : Dk) (n : Int) (hn : n ≤ 9223372036854775807) : Spec Try.prog 52 [dp b, .int .i64 n] [DiskR b d] (fun v B => v = .tuple #[] ∧ B = [DiskR b (d.hurt n)]) := by
  refine Spec.of_ex Try.func52 rfl Try.ntmps52 rfl fun E cs Γ => ?_
  (simp only [argRho, Nat.reduceAdd, List.cons_append, List.nil_append])
  refine x_open (fun E w s => s.diskR) fun ⟨q, hq⟩ => ?_
  dsimp only
  obtain ⟨h1, h2, h3⟩ := hq.fl
  have hd : ∀ o : Bool, (o = true ↔ 1 ≤ n) → Ent (Row b 0 [.slice q.la q.fs.length q.lc, .slice q.sa q.fs.length q.sc, .slice q.na q.fs.length q.nc, .int .i64 q.left, .int .i64 n, .bool q.armed, .bool d.off, .bool o] ::
      Sl 1 q.la q.fs.length q.lc (nowsV q.fs) :: Sl 1 q.sa q.fs.length q.sc (safesV q.fs) :: Sl 1 q.na q.fs.length q.nc (hdrsV q.fs) :: PC q.fs :: Γ) (DiskR b (d.hurt n) :: Γ) := by
    intro o ho
    refine Ent.diskR (b := b) (d := d.hurt n) { q with bad := n, hurt := o } ⟨hq.fs, hq.len, h1, by unfold Dk.hurt; simp; omega, ?_⟩ Γ
    rcases h3 with h3 | ⟨g1, g2, g3, g4⟩
    · exact .inl h3
    · refine .inr ⟨g1, g2, ?_, ?_⟩
      · refine ho.trans ?_; unfold Dk.hurt; simp; omega
      · unfold Dk.hurt; simp; omega
  (refine x_region ?_; refine r_op (o_move rfl rfl ?_); refine r_op (o_move rfl rfl ?_); refine r_op (o_move rfl rfl ?_))
  (refine r_op ?_)
  refine o_geq rfl rfl rfl (fun h => ?_) (fun h => ?_)
  · (refine r_op (o_move rfl rfl ?_); refine r_op (o_nilCheck rfl rfl ?_); refine r_op (o_fieldAddr rfl rfl ?_); refine r_do (o_store rfl rfl rfl rfl (by simp) ?_); try dsimp only [Nat.reduceSub, Nat.reduceAdd, List.set]; refine r_op (o_nilCheck rfl rfl ?_); refine r_op (o_fieldAddr rfl rfl ?_); refine r_do (o_store rfl rfl rfl rfl (by simp) ?_); try dsimp only [Nat.reduceSub, Nat.reduceAdd, List.set]; refine r_nil ?_)
    exact x_end [DiskR b (d.hurt n)] ⟨rfl, rfl⟩ ((hd true (by simp; omega)).trans Sub.h)
  · (refine r_op (o_move rfl rfl ?_); refine r_op (o_nilCheck rfl rfl ?_); refine r_op (o_fieldAddr rfl rfl ?_); refine r_do (o_store rfl rfl rfl rfl (by simp) ?_); try dsimp only [Nat.reduceSub, Nat.reduceAdd, List.set]; refine r_op (o_nilCheck rfl rfl ?_); refine r_op (o_fieldAddr rfl rfl ?_); refine r_do (o_store rfl rfl rfl rfl (by simp) ?_); try dsimp only [Nat.reduceSub, Nat.reduceAdd, List.set]; refine r_nil ?_)
    exact x_end [DiskR b (d.hurt n)] ⟨rfl, rfl⟩ ((hd false (by simp; omega)).trans Sub.h)
end Go.Proofs.Ythneebbmodkjiaa
