/- Part of a proof over the seat Ythneebbmodkjiaa: module E8. Its claim's last module says what is proved. -/
import Derived.Test.YthneebbmodkjiaaE7
namespace Go.Proofs.Ythneebbmodkjiaa
open Go.Proofs

/-! ### Sizes -/
theorem slot_spec (k : Int) : Spec Try.prog 113 [.int .i64 k] [] (fun v B => v = (if k < 0 ∨ 4 ≤ k then .tuple #[.int .i64 0, .int .i64 1] else .tuple #[.int .i64 ((128 * 2 ^ k.toNat : Nat) : Int), .int .i64 0]) ∧ B = []) := by
  refine Spec.of_ex Try.func113 rfl Try.ntmps113 rfl fun E cs Γ => ?_
  (simp only [argRho, List.nil_append])
  by_cases h1 : k < 0
  · (refine x_seq (x_region ?_); refine r_op (o_assign rfl rfl ?_); refine r_op (o_assign rfl rfl ?_); refine r_nil ?_; refine x_seq ?_; refine x_seq (x_region ?_); refine r_op (o_move rfl rfl ?_); refine r_op (o_lss_t rfl rfl (by omega) rfl ?_); refine r_op (o_move rfl rfl ?_); refine r_skip rfl rfl rfl ?_; refine r_skip rfl rfl rfl ?_; refine r_op (o_pick_t rfl rfl rfl ?_); refine r_nil ?_; refine x_true rfl ?_; refine x_seq (x_region ?_); refine r_op (o_assign rfl rfl ?_); refine r_op (o_assign rfl rfl ?_); refine r_nil ?_)
    exact x_ret rfl [] ⟨by rw [if_pos (.inl h1)]; rfl, rfl⟩ Sub.h
  · by_cases h2 : 4 ≤ k
    · (refine x_seq (x_region ?_); refine r_op (o_assign rfl rfl ?_); refine r_op (o_assign rfl rfl ?_); refine r_nil ?_; refine x_seq ?_; refine x_seq (x_region ?_); refine r_op (o_move rfl rfl ?_); refine r_op (o_lss_f rfl rfl (by omega) rfl ?_); refine r_op (o_move rfl rfl ?_); refine r_guard rfl (o_move rfl rfl ?_); refine r_guard rfl (o_geq_t rfl rfl (by omega) rfl ?_); refine r_op (o_pick_f rfl rfl rfl ?_); refine r_nil ?_; refine x_true rfl ?_; refine x_seq (x_region ?_); refine r_op (o_assign rfl rfl ?_); refine r_op (o_assign rfl rfl ?_); refine r_nil ?_)
      exact x_ret rfl [] ⟨by rw [if_pos (.inr h2)]; rfl, rfl⟩ Sub.h
    · obtain ⟨i, rfl⟩ : ∃ i : Nat, k = i := ⟨k.toNat, by omega⟩
      (refine x_seq (x_region ?_); refine r_op (o_assign rfl rfl ?_); refine r_op (o_assign rfl rfl ?_); refine r_nil ?_; refine x_seq ?_; refine x_seq (x_region ?_); refine r_op (o_move rfl rfl ?_); refine r_op (o_lss_f rfl rfl (by omega) rfl ?_); refine r_op (o_move rfl rfl ?_); refine r_guard rfl (o_move rfl rfl ?_); refine r_guard rfl (o_geq_f rfl rfl (by omega) rfl ?_); refine r_op (o_pick_f rfl rfl rfl ?_); refine r_nil ?_; refine x_false rfl ?_; refine x_skip ?_; refine x_seq (x_region ?_); refine r_op (o_move rfl rfl ?_))
      have hi : i = 0 ∨ i = 1 ∨ i = 2 ∨ i = 3 := by omega
      rw [if_neg (by omega)]
      (refine r_op ?_)
      refine o_shl rfl rfl ⟨by omega, by simp [IntKind.bits]; omega⟩ (in_i64 (by rcases hi with rfl | rfl | rfl | rfl <;> decide)) rfl ?_
      (refine r_op (o_assign rfl rfl ?_); refine r_op (o_assign rfl rfl ?_); refine r_nil ?_)
      exact x_ret rfl [] ⟨by rcases hi with rfl | rfl | rfl | rfl <;> rfl, rfl⟩ Sub.h
def fitsB (n : Int) : Bool := n == 128 || n == 256 || n == 512 || n == 1024
theorem fits_spec (n : Int) : Spec Try.prog 106 [.int .i64 n] [] (fun v B => v = .bool (fitsB n) ∧ B = []) := by
  refine Spec.of_ex Try.func106 rfl Try.ntmps106 rfl fun E cs Γ => ?_
  (simp only [argRho, List.nil_append])
  (refine x_seq (x_region ?_); refine r_op (o_assign rfl rfl ?_); refine r_nil ?_; refine x_seq ?_; refine x_seq (x_region ?_); refine r_op (o_move rfl rfl ?_); refine r_nil ?_; refine x_block ?_)
  refine x_loop (α := Nat) (fun i => i ≤ 4 ∧ ∀ k < i, n ≠ ((128 * 2 ^ k : Nat) : Int)) (fun i => [(0, .int .i64 n), (6, .int .i64 i)]) (fun _ => Γ) (fun i => 4 - i) 0 ⟨by omega, fun k h => by omega⟩ ⟨rfl, rfl, trivial⟩ (.refl _) ?_
  rintro i ⟨hi, hk⟩ back
  (refine x_seq (x_region ?_))
  by_cases h : i < 4
  · (refine r_op (o_lss_t rfl rfl (by omega) rfl ?_); refine r_nil ?_; refine x_seq ?_; refine x_true rfl ?_; refine x_skip ?_; refine x_seq ?_; refine x_block ?_; refine x_seq (x_region ?_); refine r_op (o_move rfl rfl ?_); refine r_op (o_assign rfl rfl ?_); refine r_nil ?_; refine x_seq (x_region ?_); refine r_op (o_move rfl rfl ?_))
    (refine r_op ?_)
    refine o_call rfl (slot_spec i) rfl ?_
    rintro v B ⟨rfl, rfl⟩
    rw [if_neg (by omega)]
    (simp only [List.nil_append])
    rw [Int.toNat_natCast]
    by_cases he : n = ((128 * 2 ^ i : Nat) : Int)
    · have hf : fitsB n = true := by
        have : i = 0 ∨ i = 1 ∨ i = 2 ∨ i = 3 := by omega
        rcases this with rfl | rfl | rfl | rfl <;> rw [he] <;> rfl
      subst he
      (refine r_op (o_move rfl rfl ?_); refine r_op (o_extract rfl rfl rfl ?_); refine r_op (o_extract rfl rfl rfl ?_); refine r_op (o_assign rfl rfl ?_); refine r_op (o_assign rfl rfl ?_); refine r_nil ?_; refine x_seq (x_region ?_); refine r_op (o_move rfl rfl ?_); refine r_op (o_eql_t rfl rfl (by omega) rfl ?_); refine r_op (o_move rfl rfl ?_); refine r_guard rfl (o_move rfl rfl ?_); refine r_guard rfl (o_move rfl rfl ?_); refine r_guard rfl (o_eql_t rfl rfl (by omega) rfl ?_); refine r_op (o_pick_t rfl rfl rfl ?_); refine r_nil ?_; refine x_true rfl ?_; refine x_seq (x_region ?_); refine r_op (o_assign rfl rfl ?_); refine r_nil ?_)
      exact x_ret rfl [] ⟨by rw [hf]; rfl, rfl⟩ Sub.h
    · (refine r_op (o_move rfl rfl ?_); refine r_op (o_extract rfl rfl rfl ?_); refine r_op (o_extract rfl rfl rfl ?_); refine r_op (o_assign rfl rfl ?_); refine r_op (o_assign rfl rfl ?_); refine r_nil ?_; refine x_seq (x_region ?_); refine r_op (o_move rfl rfl ?_); refine r_op (o_eql_t rfl rfl (by omega) rfl ?_); refine r_op (o_move rfl rfl ?_); refine r_guard rfl (o_move rfl rfl ?_); refine r_guard rfl (o_move rfl rfl ?_); refine r_guard rfl (o_eql_f rfl rfl (by omega) rfl ?_); refine r_op (o_pick_t rfl rfl rfl ?_); refine r_nil ?_; refine x_false rfl ?_; refine x_skip ?_; refine x_inBlock ?_; refine x_region ?_; refine r_op (o_add rfl rfl (add_i64 (by omega)) rfl ?_); refine r_op (o_move rfl rfl ?_); refine r_nil ?_)
      refine x_weak (back (i + 1) ⟨by omega, fun k h => by
        rcases Nat.lt_succ_iff_lt_or_eq.1 h with h | rfl
        · exact hk k h
        · exact he⟩ (by omega)) (by (repeat' (first | exact trivial | refine ⟨rfl, ?_⟩))) Sub.h
  · have e : i = 4 := by omega
    subst e
    have hf : fitsB n = false := by
      have h0 := hk 0 (by omega)
      have h1 := hk 1 (by omega)
      have h2 := hk 2 (by omega)
      have h3 := hk 3 (by omega)
      unfold fitsB
      simp only [Bool.or_eq_false_iff, beq_eq_false_iff_ne]
      exact ⟨⟨⟨h0, h1⟩, h2⟩, h3⟩
    (refine r_op (o_lss_f rfl rfl (by omega) rfl ?_); refine r_nil ?_; refine x_seq ?_; refine x_false rfl ?_; refine x_exit rfl ?_; refine x_seq (x_region ?_); refine r_op (o_assign rfl rfl ?_); refine r_nil ?_)
    exact x_ret rfl [] ⟨by rw [hf]; rfl, rfl⟩ Sub.h
/-- The size that a text of so many bytes needs. -/
def sizeOf (n : Int) : Int × Int := if n < 0 then (0, 1) else if n ≤ 112 then (0, 0) else if n ≤ 240 then (1, 0) else if n ≤ 496 then (2, 0) else if n ≤ 1008 then (3, 0) else (0, 2)
theorem sizeOf_at (n : Int) (i : Nat) (hi : i < 4) (h0 : 0 ≤ n) (hk : ∀ k < i, ¬ n ≤ ((128 * 2 ^ k : Nat) : Int) - 16) (h : n ≤ ((128 * 2 ^ i : Nat) : Int) - 16) : sizeOf n = ((i : Int), 0) := by
  have : i = 0 ∨ i = 1 ∨ i = 2 ∨ i = 3 := by omega
  unfold sizeOf
  rw [if_neg (by omega)]
  rcases this with rfl | rfl | rfl | rfl
  · rw [if_pos (show n ≤ 112 from h)]; rfl
  · rw [if_neg (show ¬ n ≤ 112 from hk 0 (by omega)), if_pos (show n ≤ 240 from h)]; rfl
  · rw [if_neg (show ¬ n ≤ 112 from hk 0 (by omega)), if_neg (show ¬ n ≤ 240 from hk 1 (by omega)), if_pos (show n ≤ 496 from h)]; rfl
  · rw [if_neg (show ¬ n ≤ 112 from hk 0 (by omega)), if_neg (show ¬ n ≤ 240 from hk 1 (by omega)), if_neg (show ¬ n ≤ 496 from hk 2 (by omega)), if_pos (show n ≤ 1008 from h)]; rfl
theorem sizeOf_over (n : Int) (h0 : 0 ≤ n) (hk : ∀ k < 4, ¬ n ≤ ((128 * 2 ^ k : Nat) : Int) - 16) : sizeOf n = (0, 2) := by
  unfold sizeOf
  rw [if_neg (by omega), if_neg (show ¬ n ≤ 112 from hk 0 (by omega)), if_neg (show ¬ n ≤ 240 from hk 1 (by omega)), if_neg (show ¬ n ≤ 496 from hk 2 (by omega)), if_neg (show ¬ n ≤ 1008 from hk 3 (by omega))]
theorem szshelf_spec (n : Int) : Spec Try.prog 114 [.int .i64 n] [] (fun v B => v = .tuple #[.int .i64 (sizeOf n).1, .int .i64 (sizeOf n).2] ∧ B = []) := by
  refine Spec.of_ex Try.func114 rfl Try.ntmps114 rfl fun E cs Γ => ?_
  (simp only [argRho, List.nil_append])
  by_cases h0 : n < 0
  · (refine x_seq (x_region ?_); refine r_op (o_assign rfl rfl ?_); refine r_op (o_assign rfl rfl ?_); refine r_nil ?_; refine x_seq ?_; refine x_seq (x_region ?_); refine r_op (o_move rfl rfl ?_); refine r_op (o_lss_t rfl rfl (by omega) rfl ?_); refine r_nil ?_; refine x_true rfl ?_; refine x_seq (x_region ?_); refine r_op (o_assign rfl rfl ?_); refine r_op (o_assign rfl rfl ?_); refine r_nil ?_)
    exact x_ret rfl [] ⟨by unfold sizeOf; rw [if_pos h0]; rfl, rfl⟩ Sub.h
  · (refine x_seq (x_region ?_); refine r_op (o_assign rfl rfl ?_); refine r_op (o_assign rfl rfl ?_); refine r_nil ?_; refine x_seq ?_; refine x_seq (x_region ?_); refine r_op (o_move rfl rfl ?_); refine r_op (o_lss_f rfl rfl (by omega) rfl ?_); refine r_nil ?_; refine x_false rfl ?_; refine x_skip ?_; refine x_seq ?_; refine x_seq (x_region ?_); refine r_op (o_move rfl rfl ?_); refine r_nil ?_; refine x_block ?_)
    refine x_loop (α := Nat) (fun i => i ≤ 4 ∧ ∀ k < i, ¬ n ≤ ((128 * 2 ^ k : Nat) : Int) - 16) (fun i => [(0, .int .i64 n), (7, .int .i64 i)]) (fun _ => Γ) (fun i => 4 - i) 0 ⟨by omega, fun k h => by omega⟩ ⟨rfl, rfl, trivial⟩ (.refl _) ?_
    rintro i ⟨hi, hk⟩ back
    (refine x_seq (x_region ?_))
    by_cases h : i < 4
    · have hi4 : i = 0 ∨ i = 1 ∨ i = 2 ∨ i = 3 := by omega
      have hsh : (128 : Int) * 2 ^ (i : Int).toNat = ((128 * 2 ^ i : Nat) : Int) := by rcases hi4 with rfl | rfl | rfl | rfl <;> rfl
      have hsb : 128 * 2 ^ i ≤ 1024 := by rcases hi4 with rfl | rfl | rfl | rfl <;> decide
      (refine r_op (o_lss_t rfl rfl (by omega) rfl ?_); refine r_nil ?_; refine x_seq ?_; refine x_true rfl ?_; refine x_skip ?_; refine x_seq ?_; refine x_block ?_; refine x_seq (x_region ?_); refine r_op (o_move rfl rfl ?_); refine r_op (o_assign rfl rfl ?_); refine r_nil ?_; refine x_seq (x_region ?_); refine r_op (o_move rfl rfl ?_); refine r_op (o_move rfl rfl ?_))
      (refine r_op ?_)
      refine o_shl rfl rfl ⟨by omega, by simp [IntKind.bits]; omega⟩ (by rw [hsh]; exact in_i64 (by omega)) rfl ?_
      rw [hsh]
      (refine r_op ?_)
      refine o_sub rfl rfl (in_i64 (by omega)) rfl ?_
      (refine r_op ?_)
      refine o_leq rfl rfl rfl (fun hl => ?_) (fun hl => ?_)
      · (refine r_nil ?_; refine x_true rfl ?_; refine x_seq (x_region ?_); refine r_op (o_move rfl rfl ?_); refine r_op (o_assign rfl rfl ?_); refine r_op (o_assign rfl rfl ?_); refine r_nil ?_)
        exact x_ret rfl [] ⟨by rw [sizeOf_at n i h (by omega) hk hl]; rfl, rfl⟩ Sub.h
      · (refine r_nil ?_; refine x_false rfl ?_; refine x_skip ?_; refine x_inBlock ?_; refine x_region ?_; refine r_op (o_add rfl rfl (add_i64 (by omega)) rfl ?_); refine r_op (o_move rfl rfl ?_); refine r_nil ?_)
        refine x_weak (back (i + 1) ⟨by omega, fun k h => by
          rcases Nat.lt_succ_iff_lt_or_eq.1 h with h | rfl
          · exact hk k h
          · exact hl⟩ (by omega)) (by (repeat' (first | exact trivial | refine ⟨rfl, ?_⟩))) Sub.h
    · have e : i = 4 := by omega
      subst e
      (refine r_op (o_lss_f rfl rfl (by omega) rfl ?_); refine r_nil ?_; refine x_seq ?_; refine x_false rfl ?_; refine x_exit rfl ?_; refine x_seq (x_region ?_); refine r_op (o_assign rfl rfl ?_); refine r_op (o_assign rfl rfl ?_); refine r_nil ?_)
      exact x_ret rfl [] ⟨by rw [sizeOf_over n (by omega) hk]; rfl, rfl⟩ Sub.h
end Go.Proofs.Ythneebbmodkjiaa
