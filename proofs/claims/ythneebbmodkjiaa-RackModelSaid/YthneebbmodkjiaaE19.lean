/- Part of a proof over the seat Ythneebbmodkjiaa: module E19. Its claim's last module says what is proved. -/
import Derived.Test.YthneebbmodkjiaaE17
namespace Go.Proofs.Ythneebbmodkjiaa
open Go.Proofs

theorem Calm.fit {bs : List (List UInt8)} (h : Calm bs) : (newD bs).fit := h.okn.fit (by decide)
/-- A disk of a crash of a calm one. -/
theorem again_spec {A : HP} {a : Option Addr} {cap : Nat} {ps : List Int} (b : Nat) {bs : List (List UInt8)} (hc : Calm bs) (R : Reads A 1 a ps.length (ps.map iv)) (hl : ps.length ≤ 2 ^ 63 - 1) (hps : ∀ p ∈ ps, p ≤ 9223372036854775807) :
    Spec Try.prog 72 [dp b, .slice a ps.length cap] [DiskI b (newD bs), A] (fun v B => ∃ b', v = dp b' ∧ B = [A, DiskI b' (newD bs)]) := by
  refine Spec.of_ex Try.func72 rfl Try.ntmps72 rfl fun E cs Γ => ?_
  (simp only [argRho, Nat.reduceAdd, List.cons_append, List.nil_append])
  (refine x_seq (x_region ?_); refine r_op (o_assign rfl rfl ?_); refine r_nil ?_; refine x_seq ?_; refine x_seq (x_region ?_); refine r_op (o_move rfl rfl ?_))
  (refine r_op ?_)
  refine o_peq (.inl rfl) rfl rfl (.inr rfl) rfl ?_
  (refine r_nil ?_; refine x_false rfl ?_; refine x_skip ?_; refine x_seq (x_region ?_); refine r_op (o_move rfl rfl ?_); refine r_op (o_move rfl rfl ?_))
  (refine r_op ?_)
  refine o_call rfl (crash_spec b (newD bs) R hl hps hc.fit) rfl ?_
  rintro v B ⟨a', cap', q, rfl, hq, rfl⟩
  (simp only [List.cons_append, List.nil_append])
  have hq2 : cont q = bs := by
    rw [hq, newD_fs hc.h8]; exact keepAll_new bs ps
  have RC := CellsX.rd a' cap' q
  (refine r_op ?_)
  refine o_call rfl (disk_spec RC (by rw [hq2]; exact hc)) rfl ?_
  rintro v B ⟨b', rfl, rfl⟩
  (simp only [List.cons_append, List.nil_append])
  rw [hq2]
  (refine r_op (o_assign rfl rfl ?_); refine r_nil ?_)
  exact x_ret rfl [A, DiskI b' (newD bs)] ⟨b', rfl, rfl⟩ Sub.h
theorem find_spec {A : HP} {a : Option Addr} {c : Nat} {l : List (Nat × Tx)} (slot : Int) (R : Reads A 2 a l.length (l.flatMap yv)) (hl : l.length ≤ 2 ^ 40) :
    Spec Try.prog 71 [.slice a l.length c, .int .i64 slot] [A] (fun v B => v = .int .i64 (if (l.findIdx fun y => decide ((y.1 : Int) = slot)) < l.length then (l.findIdx fun y => decide ((y.1 : Int) = slot) : Nat) else -1) ∧ B = [A]) := by
  refine Spec.of_ex Try.func71 rfl Try.ntmps71 rfl fun E cs Γ => ?_
  (simp only [argRho, Nat.reduceAdd, List.cons_append, List.nil_append])
  (refine x_seq (x_region ?_); refine r_op (o_assign rfl rfl ?_); refine r_nil ?_; refine x_seq ?_; refine x_seq (x_region ?_); refine r_op (o_assign rfl rfl ?_); refine r_nil ?_; refine x_block ?_)
  refine x_loop (α := Nat) (fun i => i ≤ l.length ∧ ∀ k (h : k < l.length), k < i → (l[k].1 : Int) ≠ slot) (fun i => [(0, .slice a l.length c), (1, .int .i64 slot), (5, .int .i64 i)]) (fun i => A :: Γ)
    (fun i => l.length - i) 0 ⟨Nat.zero_le _, fun k _ h => by omega⟩ ⟨rfl, rfl, rfl, trivial⟩ (.refl _) ?_
  rintro i ⟨hi, hk⟩ back
  (refine x_seq ?_; refine x_seq (x_region ?_); refine r_op (o_move rfl rfl ?_); refine r_op (o_move rfl rfl ?_); refine r_op (o_lenS rfl rfl ?_))
  (refine r_op ?_)
  refine o_lss rfl rfl rfl (fun h => ?_) (fun h => ?_)
  · have hi1 : i < l.length := by omega
    (refine r_nil ?_; refine x_true rfl ?_; refine x_skip ?_; refine x_seq ?_; refine x_block ?_; refine x_seq (x_region ?_); refine r_op (o_move rfl rfl ?_); refine r_op (o_move rfl rfl ?_))
    (refine r_op ?_)
    refine o_indexR rfl rfl R (j := i) rfl hi1 rfl (fun b1 off ha => ?_)
    (refine r_op (o_fieldAddr rfl rfl ?_))
    (refine r_op ?_)
    refine o_loadR rfl R ha (i := i * 2 + 0) (by omega) ((fget yv_cl hi1 0 (by decide)).trans rfl) rfl ?_
    (refine r_op (o_move rfl rfl ?_))
    (refine r_op ?_)
    refine o_eql rfl rfl rfl (fun h2 => ?_) (fun h2 => ?_)
    · have hf : l.findIdx (fun y => decide ((y.1 : Int) = slot)) = i := by
        rw [List.findIdx_eq hi1]
        exact ⟨by simpa using h2, fun k hki => by simpa using hk k (by omega) hki⟩
      (refine r_nil ?_; refine x_true rfl ?_; refine x_seq (x_region ?_); refine r_op (o_move rfl rfl ?_); refine r_op (o_assign rfl rfl ?_); refine r_nil ?_)
      exact x_ret rfl [A] ⟨by rw [hf, if_pos hi1]; rfl, rfl⟩ Sub.h
    · (refine r_nil ?_; refine x_false rfl ?_; refine x_skip ?_; refine x_inBlock ?_; refine x_region ?_; refine r_op (o_move rfl rfl ?_); refine r_op (o_add rfl rfl (add_i64 (by omega)) rfl ?_); refine r_op (o_assign rfl rfl ?_); refine r_nil ?_)
      refine x_weak (back (i + 1) ⟨by omega, fun k h3 h4 => by
        rcases Nat.lt_succ_iff_lt_or_eq.1 h4 with h4 | rfl
        · exact hk k h3 h4
        · exact h2⟩ (by omega)) (by (repeat' (first | exact trivial | refine ⟨rfl, ?_⟩))) Sub.h
  · have e : i = l.length := by omega
    subst e
    have hf : l.findIdx (fun y => decide ((y.1 : Int) = slot)) = l.length := by
      rw [List.findIdx_eq_length]
      intro y hy
      obtain ⟨k, hk1, rfl⟩ := List.getElem_of_mem hy
      simpa using hk k hk1 hk1
    (refine r_nil ?_; refine x_false rfl ?_; refine x_exit rfl ?_; refine x_seq (x_region ?_); refine r_op (o_assign rfl rfl ?_); refine r_nil ?_)
    exact x_ret rfl [A] ⟨by rw [hf, if_neg (Nat.lt_irrefl _)]; rfl, rfl⟩ Sub.h
end Go.Proofs.Ythneebbmodkjiaa
