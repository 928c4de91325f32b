/- Part of a proof over the seat Ythneebbmodkjiaa: module D6. Its claim's last module says what is proved. -/
import Derived.Test.YthneebbmodkjiaaD5
namespace Go.Proofs.Ythneebbmodkjiaa
open Go.Proofs

/-- Bytes in which others stand at a place. -/
def over (b : List UInt8) (p : Nat) (x : List UInt8) : List UInt8 := (b ++ List.replicate (p - b.length) 0).take p ++ x ++ b.drop (p + x.length)
theorem over_length (b : List UInt8) (p : Nat) (x : List UInt8) : (over b p x).length = max b.length (p + x.length) := by
  simp [over]; omega
theorem over_pad (b : List UInt8) (p : Nat) (x : List UInt8) (h : b.length < p) : over (b ++ List.replicate (p - b.length) 0) p x = over b p x := by
  simp only [over, List.length_append, List.length_replicate]
  rw [show p - (b.length + (p - b.length)) = 0 by omega]
  simp only [List.replicate_zero, List.append_nil]
  congr 1
  rw [List.drop_eq_nil_of_le (by simp; omega), List.drop_eq_nil_of_le (by omega)]

theorem drop_nil8 (l : List UInt8) (i : Nat) (h : l.length ≤ i) : l.drop i = [] := List.drop_eq_nil_of_le h
theorem over_cut (cs xs : List UInt8) (p : Nat) (h : p ≤ cs.length) : cs.take p ++ xs.take (min xs.length (cs.length - p)) ++ cs.drop (p + min xs.length (cs.length - p)) ++ xs.drop (min xs.length (cs.length - p)) = over cs p xs := by
  simp only [over, show p - cs.length = 0 by omega, List.replicate_zero, List.append_nil]
  by_cases hq : xs.length ≤ cs.length - p
  · rw [Nat.min_eq_left hq, List.drop_length, List.append_nil, List.take_length]
  · rw [Nat.min_eq_right (by omega), drop_nil8 cs (p + (cs.length - p)) (by omega), drop_nil8 cs (p + xs.length) (by omega), List.append_nil, List.append_nil, List.append_assoc, List.take_append_drop]

theorem laid_spec {A : HP} {a a2 : Option Addr} {cap len2 cap2 p : Nat} {bs xs : List UInt8} (R : Reads A 1 a2 len2 (xs.map bv)) (hl : bs.length ≤ 2 ^ 40) (hp : p ≤ 2 ^ 40) (hx : len2 ≤ 2 ^ 40) (hc2 : len2 ≤ cap2) :
    Spec Try.prog 98 [.slice a bs.length cap, .int .i64 p, .slice a2 len2 cap2] [Sl 1 a bs.length cap (bs.map bv), A]
      (fun v B => ∃ a' cap', v = .slice a' (over bs p xs).length cap' ∧ B = [Sl 1 a' (over bs p xs).length cap' ((over bs p xs).map bv), A]) := by
  have hl2 : xs.length = len2 := by simpa using R.1
  refine Spec.of_ex Try.func98 rfl Try.ntmps98 rfl fun E fs Γ => ?_
  (simp only [argRho, Nat.reduceAdd, List.cons_append, List.nil_append])
  (refine x_seq ?_); (refine x_region ?_)
  (refine r_op ?_); (refine o_assign rfl rfl ?_)
  (refine r_nil ?_)
  refine x_cut (α := Option Addr × Nat × List UInt8) (fun q => p ≤ q.2.2.length ∧ q.2.2.length ≤ 2 ^ 41 ∧ over q.2.2 p xs = over bs p xs) (fun q => [(0, .slice q.1 q.2.2.length q.2.1), (1, .int .i64 p), (2, .slice a2 len2 cap2)]) (fun q => Sl 1 q.1 q.2.2.length q.2.1 (q.2.2.map bv) :: A :: Γ) ?_ ?_
  · rintro ⟨a', c', cs⟩ ⟨h1, h2, h3⟩
    dsimp only at h1 h2 h3 ⊢
    refine x_sl a' fun _ hcap => ?_
    (refine x_seq (x_region ?_); refine r_op (o_move rfl rfl ?_); refine r_op (o_move rfl rfl ?_))
    (refine r_op ?_)
    refine o_sliceLo rfl rfl (jl := p) rfl (by omega) rfl ?_
    (refine r_op (o_move rfl rfl ?_))
    (refine r_op ?_)
    refine o_copy rfl rfl R (by omega) (bv_one xs) rfl ?_
    (refine r_op (o_assign rfl rfl ?_); refine r_nil ?_; refine x_seq (x_region ?_); refine r_op (o_move rfl rfl ?_); refine r_op (o_move rfl rfl ?_); refine r_op (o_move rfl rfl ?_))
    (refine r_op ?_)
    refine o_sliceLo rfl rfl (jl := min len2 (cs.length - p)) rfl (by omega) rfl ?_
    have R2 := R.sub cap2 (min len2 (cs.length - p)) len2 (by omega) (by omega) hc2
    (refine r_op ?_)
    refine o_append rfl rfl R2 (by rfl) (by rfl) ?_ (by omega) rfl (fun a3 c3 hc3 => ?_)
    · rw [List.all_eq_true]
      intro v hv
      exact List.all_eq_true.1 (bv_one xs) v (List.mem_of_mem_drop (List.mem_of_mem_take hv))
    (refine r_op (o_assign rfl rfl ?_); refine r_nil ?_)
    have e : List.take p (List.map bv cs) ++ List.take (min len2 (cs.length - p)) (List.map bv xs) ++ List.drop (p + min len2 (cs.length - p)) (List.map bv cs) ++ List.take ((len2 - min len2 (cs.length - p)) * 1) (List.drop (min len2 (cs.length - p) * 1) (List.map bv xs)) = (over bs p xs).map bv := by
      rw [← h3, ← over_cut cs xs p h1, hl2]
      simp only [Nat.mul_one, List.map_append, List.map_take, List.map_drop]
      rw [List.take_of_length_le (l := List.drop (min len2 (cs.length - p)) (List.map bv xs)) (by simp; omega)]
    have el : cs.length + (len2 - min len2 (cs.length - p)) = (over bs p xs).length := by rw [← h3, over_length]; omega
    rw [e, el]
    refine x_ret rfl [Sl 1 a3 (over bs p xs).length c3 ((over bs p xs).map bv), A] ⟨a3, c3, rfl, rfl⟩ Sub.h
  · intro td back
    by_cases h : bs.length < p
    · (refine x_seq (x_region ?_); refine r_op (o_move rfl rfl ?_); refine r_op (o_move rfl rfl ?_); refine r_op (o_lenS rfl rfl ?_); refine r_op (o_gtr_t rfl rfl (by omega) rfl ?_); refine r_nil ?_; refine x_true rfl ?_; refine x_region ?_; refine r_op (o_move rfl rfl ?_); refine r_op (o_move rfl rfl ?_); refine r_op (o_move rfl rfl ?_); refine r_op (o_lenS rfl rfl ?_); refine r_op (o_sub rfl rfl (sub_i64 (by omega)) rfl ?_))
      (refine r_op ?_)
      refine o_appendZ rfl rfl (m := p - bs.length) (by omega) (by rfl) (by rfl) (by rfl) (by omega) rfl (fun a3 c3 hc => ?_)
      (refine r_op (o_assign rfl rfl ?_); refine r_nil ?_)
      have e : List.map bv bs ++ zs [Value.int IntKind.u8 0] (p - bs.length) = (bs ++ List.replicate (p - bs.length) 0).map bv := by
        rw [zs_one]; simp [bv]
      have el : bs.length + (p - bs.length) = (bs ++ List.replicate (p - bs.length) (0 : UInt8)).length := by simp
      rw [e, el]
      refine x_weak (back (a3, c3, bs ++ List.replicate (p - bs.length) 0) ⟨by simp; omega, by simp; omega, over_pad bs p xs h⟩) (by (repeat' (first | exact trivial | refine ⟨rfl, ?_⟩))) Sub.h
    · (refine x_seq (x_region ?_); refine r_op (o_move rfl rfl ?_); refine r_op (o_move rfl rfl ?_); refine r_op (o_lenS rfl rfl ?_); refine r_op (o_gtr_f rfl rfl (by omega) rfl ?_); refine r_nil ?_; refine x_false rfl ?_; refine x_skip ?_)
      refine x_weak (back (a, cap, bs) ⟨by dsimp only; omega, by dsimp only; omega, rfl⟩) (by (repeat' (first | exact trivial | refine ⟨rfl, ?_⟩))) Sub.h
end Go.Proofs.Ythneebbmodkjiaa
