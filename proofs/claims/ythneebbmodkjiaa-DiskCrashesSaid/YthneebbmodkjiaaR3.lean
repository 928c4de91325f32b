/- Part of a proof over the seat Ythneebbmodkjiaa: module R3. Its claim's last module says what is proved. -/
import Derived.Test.YthneebbmodkjiaaR2
namespace Go.Proofs.Ythneebbmodkjiaa
open Go.Proofs

theorem over_M (b xs : List UInt8) (p : Nat) : (b ++ List.replicate (p + xs.length - b.length) 0).take p ++ xs ++ (b ++ List.replicate (p + xs.length - b.length) 0).drop (p + xs.length) = over b p xs := by
  unfold over
  congr 1
  · congr 1
    by_cases h : p ≤ b.length
    · rw [List.take_append_of_le_length h, List.take_append_of_le_length h]
    · rw [List.take_append, List.take_append, List.take_of_length_le (by omega), List.take_replicate, List.take_replicate]
      congr 2; omega
  · rw [List.drop_append, List.drop_replicate, show p + xs.length - b.length - (p + xs.length - b.length) = 0 by omega]
    simp
/-- So many bytes laid. -/
def ovA (M xs : List UInt8) (p i : Nat) : List UInt8 := M.take p ++ xs.take i ++ M.drop (p + i)
theorem ovA_length {M xs : List UInt8} {p i : Nat} (h : i ≤ xs.length) (hM : p + xs.length ≤ M.length) : (ovA M xs p i).length = M.length := by
  simp [ovA]; omega
theorem ovA_set {M xs : List UInt8} {p i : Nat} (h : i < xs.length) (hM : p + xs.length ≤ M.length) : ((ovA M xs p i).map bv).set (p + i) (bv xs[i]) = (ovA M xs p (i + 1)).map bv := by
  rw [← List.map_set]
  congr 1
  unfold ovA
  have hd : M.drop (p + i) = M[p + i]'(by omega) :: M.drop (p + (i + 1)) := List.drop_eq_getElem_cons (by omega)
  rw [hd, List.set_append_right _ _ (by simp; omega)]
  have e : p + i - (M.take p ++ xs.take i).length = 0 := by simp; omega
  rw [e, List.set_cons_zero, List.take_succ_eq_append_getElem h]
  simp only [List.append_assoc, List.cons_append, List.nil_append]
theorem over9_spec {A B : HP} {a a2 : Option Addr} {cap cap2 p : Nat} {bs xs : List UInt8} (R : Reads A 1 a bs.length (bs.map bv)) (R2 : Reads B 1 a2 xs.length (xs.map bv)) (hl : bs.length ≤ 2 ^ 39) (hp : p + xs.length ≤ 2 ^ 39) :
    Spec Try.prog 105 [.slice a bs.length cap, .int .i64 p, .slice a2 xs.length cap2] [A, B] (fun v B' => ∃ a' cap', v = sv (a', cap', over bs p xs) ∧ B' = [A, B, sp (a', cap', over bs p xs)]) := by
  refine Spec.of_ex Try.func105 rfl Try.ntmps105 rfl fun E cs Γ => ?_
  (simp only [argRho, Nat.reduceAdd, List.cons_append, List.nil_append])
  (refine x_seq (x_region ?_); refine r_op (o_assign rfl rfl ?_); refine r_nil ?_; refine x_seq (x_region ?_); refine r_op (o_move rfl rfl ?_))
  (refine r_op ?_)
  refine o_call rfl (copyBytes_spec R (by omega)) rfl ?_
  rintro v B ⟨a1, c1, rfl, rfl⟩
  (simp only [List.cons_append, List.nil_append])
  (refine r_op (o_assign rfl rfl ?_); refine r_nil ?_; refine x_seq ?_)
  obtain ⟨M, hM⟩ : ∃ M, bs ++ List.replicate (p + xs.length - bs.length) 0 = M := ⟨_, rfl⟩
  refine x_cutK (α := Option Addr × Nat) (fun _ => True) (fun q => [(7, .slice q.1 M.length q.2), (0, .slice a bs.length cap), (1, .int .i64 p), (2, .slice a2 xs.length cap2)]) (fun q => Sl 1 q.1 M.length q.2 (M.map bv) :: A :: B :: Γ) ?_ ?_
  · rintro ⟨a3, c3⟩ -
    dsimp only
    have hMl : M.length = max bs.length (p + xs.length) := by rw [← hM]; simp; omega
    (refine x_seq ?_; refine x_seq (x_region ?_); refine r_op (o_assign rfl rfl ?_); refine r_nil ?_; refine x_block ?_)
    refine x_loop (α := Nat) (fun i => i ≤ xs.length) (fun i => [(8, .int .i64 i), (7, .slice a3 M.length c3), (1, .int .i64 p), (2, .slice a2 xs.length cap2)]) (fun i => Sl 1 a3 M.length c3 ((ovA M xs p i).map bv) :: A :: B :: Γ)
      (fun i => xs.length - i) 0 (Nat.zero_le _) ⟨rfl, rfl, rfl, rfl, trivial⟩ (by rw [show ovA M xs p 0 = M by simp [ovA]]; exact .refl _) ?_
    rintro i hi back
    have hol := ovA_length hi (show p + xs.length ≤ M.length by omega)
    (refine x_seq ?_; refine x_seq (x_region ?_); refine r_op (o_move rfl rfl ?_); refine r_op (o_move rfl rfl ?_); refine r_op (o_lenS rfl rfl ?_))
    (refine r_op ?_)
    refine o_lss rfl rfl rfl (fun h => ?_) (fun h => ?_)
    · have hi1 : i < xs.length := by omega
      have RS := Sl.reads 1 a3 M.length c3 ((ovA M xs p i).map bv) (by simp [hol])
      (refine r_nil ?_; refine x_true rfl ?_; refine x_skip ?_; refine x_seq ?_; refine x_block ?_; refine x_region ?_; refine r_op (o_move rfl rfl ?_); refine r_op (o_move rfl rfl ?_); refine r_op (o_move rfl rfl ?_); refine r_op (o_add rfl rfl (add_i64 (by omega)) rfl ?_); refine r_op (o_move rfl rfl ?_); refine r_op (o_move rfl rfl ?_))
      (refine r_op ?_)
      refine o_indexR rfl rfl R2 (j := i) rfl hi1 rfl (fun b1 off ha => ?_)
      (refine r_op ?_)
      refine o_loadR rfl R2 ha (i := i) (by omega) (bget hi1) rfl ?_
      (refine r_op ?_)
      refine o_indexR rfl rfl RS (j := p + i) (by omega) (by omega) rfl (fun b2 off2 ha2 => ?_)
      (refine r_do ?_)
      refine o_storeS rfl rfl rfl ha2 (i := p + i) (by omega) (by rw [List.length_map, hol]; omega) ?_
      rw [ovA_set hi1 (by omega)]
      (refine r_nil ?_; refine x_inBlock ?_; refine x_region ?_; refine r_op (o_move rfl rfl ?_); refine r_op (o_add rfl rfl (add_i64 (by omega)) rfl ?_); refine r_op (o_assign rfl rfl ?_); refine r_nil ?_)
      refine x_weak (back (i + 1) (by omega) (by omega)) (by (repeat' (first | exact trivial | refine ⟨rfl, ?_⟩))) Sub.h
    · obtain rfl : i = xs.length := by omega
      have e : ovA M xs p xs.length = over bs p xs := by
        rw [← over_M, hM]; unfold ovA; rw [List.take_length]
      rw [e] at hol ⊢
      (refine r_nil ?_; refine x_false rfl ?_; refine x_exit rfl ?_; refine x_seq (x_region ?_); refine r_op (o_move rfl rfl ?_); refine r_op (o_assign rfl rfl ?_); refine r_nil ?_)
      refine x_ret rfl [A, B, sp (a3, c3, over bs p xs)] ⟨a3, c3, by rw [sv, ← hol]; rfl, rfl⟩ ?_
      rw [← hol]
      exact Sub.h
  · intro td back
    (refine x_block ?_)
    refine x_loop (α := Nat × Option Addr × Nat) (fun q => bs.length + q.1 ≤ M.length) (fun q => [(7, .slice q.2.1 (bs.length + q.1) q.2.2), (0, .slice a bs.length cap), (1, .int .i64 p), (2, .slice a2 xs.length cap2)])
      (fun q => Sl 1 q.2.1 (bs.length + q.1) q.2.2 ((bs ++ List.replicate q.1 0).map bv) :: A :: B :: Γ)
      (fun q => M.length - q.1) (0, a1, c1) (by rw [← hM]; simp) ⟨rfl, rfl, rfl, rfl, trivial⟩ (by simp; exact Sub.h) ?_
    rintro ⟨k, a3, c3⟩ hk back2
    dsimp only at hk back2 ⊢
    have hMl : M.length = max bs.length (p + xs.length) := by rw [← hM]; simp; omega
    (refine x_seq ?_; refine x_seq (x_region ?_); refine r_op (o_move rfl rfl ?_); refine r_op (o_lenS rfl rfl ?_); refine r_op (o_move rfl rfl ?_); refine r_op (o_move rfl rfl ?_); refine r_op (o_lenS rfl rfl ?_); refine r_op (o_add rfl rfl (add_i64 (by omega)) rfl ?_))
    (refine r_op ?_)
    refine o_lss rfl rfl rfl (fun h => ?_) (fun h => ?_)
    · (refine r_nil ?_; refine x_true rfl ?_; refine x_skip ?_; refine x_block ?_; refine x_region ?_; refine r_op (o_move rfl rfl ?_))
      (refine r_op ?_)
      refine o_buildSlice rfl (by rfl) (by rfl) (by rfl) (by rfl) rfl (fun a2 => ?_)
      (refine r_op ?_)
      refine o_appendT rfl rfl (by rfl) (by rfl) (by rfl) (by omega) rfl (fun a4 c4 hc => ?_)
      have e : (bs ++ List.replicate k 0).map bv ++ [.int .u8 0] = (bs ++ List.replicate (k + 1) (0 : UInt8)).map bv := by
        rw [List.replicate_succ']; simp [bv]
      rw [e]
      (refine r_op (o_assign rfl rfl ?_); refine r_nil ?_; refine x_inBlock ?_)
      refine x_weak (back2 (k + 1, a4, c4) (by dsimp only; omega) (by dsimp only; omega)) (by (repeat' (first | exact trivial | refine ⟨rfl, ?_⟩))) Sub.h
    · have e : bs.length + k = M.length := by omega
      have e2 : bs ++ List.replicate k 0 = M := by rw [← hM]; congr 2; omega
      rw [e, e2]
      (refine r_nil ?_; refine x_false rfl ?_; refine x_exit rfl ?_)
      refine x_weak (back (a3, c3) trivial) (by (repeat' (first | exact trivial | refine ⟨rfl, ?_⟩))) Sub.h
end Go.Proofs.Ythneebbmodkjiaa
