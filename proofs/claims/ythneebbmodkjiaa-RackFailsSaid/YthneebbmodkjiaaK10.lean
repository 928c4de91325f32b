/- Part of a proof over the seat Ythneebbmodkjiaa: module K10. Its claim's last module says what is proved. -/
import Derived.Test.YthneebbmodkjiaaK8
namespace Go.Proofs.Ythneebbmodkjiaa
open Go.Proofs

/-! ### A rack whose disk fails: all of it counted out -/
def rst (n : Nat) : Nat → List Sh × Dk
  | 0 => let q := rput (ssOf 0 ess0) (newD (List.replicate 8 [])) [97]; (q.1, q.2.1.hurt n)
  | i + 1 => let q := rput (rst n i).1 (rst n i).2 (zt (150 * (i + 1))); (q.1, q.2.1)
def rbad (n : Nat) : Nat → Int
  | 0 => 0
  | i + 1 => (rput (rst n i).1 (rst n i).2 (zt (150 * (i + 1)))).2.2.2
def rsmB (ss : List Sh) : Bool := ss.all fun s => decide (16 ≤ s.n) && decide (s.n ≤ 1048576) && decide (s.es.length ≤ 1000)
def rendB (n i : Nat) : Bool := rsmB (rst n i).1 && (if rbad n i = 0 then decide (i < 4) else decide (rbad n i = 14) && rfail (rst n i).1 && decide (rget (rst n i).1 (0, 0) = ([97], 0)) && decide ((rls (rst n i).1).length = i))
theorem rend_all : ∀ n < 7, 1 ≤ n → ∀ i < 5, (∀ j < i, rbad n j = 0) → rendB n i = true := by decide +kernel
theorem rput0 : (rput (ssOf 0 ess0) (newD (List.replicate 8 [])) [97]).2.2 = ((0, 0), 0) := by decide +kernel
theorem rput_okn {N : Nat} (ss : List Sh) {d : Dk} (t : Tx) (h : d.okn N) : (rput ss d t).2.1.okn (N + 4) := by
  have hp : ∀ s : Sh, (s.put d t).2.1.okn (N + 4) := fun s => by
    unfold Sh.put
    have h4 := okn_layS h s.f s.n (ff s.es) t
    have h0 : d.okn (N + 4) := h.mono (by omega)
    split
    · exact h0
    split
    · exact h0
    split
    · exact h0
    split
    · exact h4
    · exact h4
  unfold rput
  split
  · exact h.mono (by omega)
  split
  · exact h.mono (by omega)
  · exact hp _
theorem hurt_okn2 {N : Nat} {d : Dk} (h : d.okn N) (n : Int) : (d.hurt n).okn N := h.fs _ rfl
theorem rst_zero (n : Nat) : rst n 0 = ((rput (ssOf 0 ess0) (newD (List.replicate 8 [])) [97]).1, (rput (ssOf 0 ess0) (newD (List.replicate 8 [])) [97]).2.1.hurt n) := by rw [rst]
theorem rst_succ (n i : Nat) : rst n (i + 1) = ((rput (rst n i).1 (rst n i).2 (zt (150 * (i + 1)))).1, (rput (rst n i).1 (rst n i).2 (zt (150 * (i + 1)))).2.1) := by rw [rst]
theorem rbad_succ (n i : Nat) : rbad n (i + 1) = (rput (rst n i).1 (rst n i).2 (zt (150 * (i + 1)))).2.2.2 := by rw [rbad]
theorem rst_okn (n : Nat) : ∀ i, (rst n i).2.okn (4 * i + 4) := by
  intro i
  induction i with
  | zero =>
    rw [rst_zero]
    exact hurt_okn2 (rput_okn (ssOf 0 ess0) [97] calm0.okn) n
  | succ i ih =>
    rw [rst_succ]
    exact (rput_okn (rst n i).1 (zt (150 * (i + 1))) ih).mono (by omega)
/-- An empty disk's rack: the disk stays as it was. -/
theorem ropenE_spec (b : Nat) :
    Spec Try.prog 80 [dp b, .int .i64 0] [DiskI b (newD (List.replicate 8 []))] (fun v B => ∃ r, v = .tuple #[dp r, .int .i64 0] ∧ B = [RackI r b (ssOf 0 ess0), DiskI b (newD (List.replicate 8 []))]) := by
  refine Spec.of_ex Try.func80 rfl Try.ntmps80 rfl fun E cs Γ => ?_
  (simp only [argRho, Nat.reduceAdd, List.cons_append, List.nil_append])
  (refine x_seq (x_region ?_); refine r_op (o_assign rfl rfl ?_); refine r_op (o_assign rfl rfl ?_); refine r_nil ?_; refine x_seq ?_; refine x_seq (x_region ?_); refine r_op (o_move rfl rfl ?_); refine r_op (o_lss_f rfl rfl (by omega) rfl ?_); refine r_op (o_move rfl rfl ?_); refine r_guard rfl (o_move rfl rfl ?_); refine r_guard rfl (o_gtr_f rfl rfl (by omega) rfl ?_); refine r_op (o_pick_f rfl rfl rfl ?_); refine r_nil ?_; refine x_false rfl ?_; refine x_skip ?_; refine x_seq (x_region ?_))
  (refine r_op ?_)
  refine o_build rfl (by rfl) rfl ?_
  (refine r_op ?_)
  refine o_boxA (vs := [.pointer none, .pointer none, .pointer none, .pointer none]) rfl rfl (fun r => ?_)
  (refine r_op (o_assign rfl rfl ?_); refine r_nil ?_; refine x_seq ?_; refine x_seq (x_region ?_); refine r_op (o_move rfl rfl ?_); refine r_nil ?_; refine x_block ?_)
  have hnil : ∀ (Γ : List HP), Ent Γ (Parts (RG b) [] :: Γ) := fun Γ => (Ent.sep_in ([] : List HP) Γ)
  refine x_loop (α := Nat × List (Nat × Sh)) (fun q => q.1 ≤ 4 ∧ q.2.length = q.1 ∧ q.2.map Prod.snd = (ssOf 0 ess0).take q.1)
    (fun q => [(0, dp b), (1, .int .i64 0), (6, dp r), (20, .int .i64 q.1)]) (fun q => Row r 0 (rpv q.2 ++ List.replicate (4 - q.1) (.pointer none)) :: Parts (RG b) q.2 :: DiskI b (newD (List.replicate 8 [])) :: Γ) (fun q => 4 - q.1) (0, [])
    ⟨Nat.zero_le _, rfl, rfl⟩ ⟨rfl, rfl, rfl, rfl, trivial⟩ ((hnil _).trans (Ent.perm (.swap _ _ _))) ?_
  rintro ⟨k, xs⟩ ⟨hk, hx1, hx2⟩ back
  dsimp only at hk hx1 hx2 back ⊢
  (refine x_seq (x_region ?_))
  by_cases h : k < 4
  · obtain ⟨hfit, hn1, hn2⟩ := k4_facts h
    have hes : ess0[k]? = some [] := by
      have : k = 0 ∨ k = 1 ∨ k = 2 ∨ k = 3 := by omega
      rcases this with rfl | rfl | rfl | rfl <;> rfl
    (refine r_op (o_lss_t rfl rfl (by omega) rfl ?_); refine r_nil ?_; refine x_seq ?_; refine x_true rfl ?_; refine x_skip ?_; refine x_seq ?_; refine x_block ?_; refine x_seq (x_region ?_); refine r_op (o_move rfl rfl ?_); refine r_op (o_assign rfl rfl ?_); refine r_nil ?_; refine x_seq (x_region ?_); refine r_op (o_move rfl rfl ?_))
    (refine r_op ?_)
    refine o_call rfl (slot_spec k) rfl ?_
    rintro v B ⟨rfl, rfl⟩
    rw [if_neg (by omega), Int.toNat_natCast]
    (simp only [List.nil_append])
    (refine r_op (o_move rfl rfl ?_); refine r_op (o_extract rfl rfl rfl ?_); refine r_op (o_extract rfl rfl rfl ?_); refine r_op (o_assign rfl rfl ?_); refine r_op (o_assign rfl rfl ?_); refine r_nil ?_; refine x_seq (x_region ?_); refine r_op (o_move rfl rfl ?_); refine r_op (o_move rfl rfl ?_); refine r_op (o_move rfl rfl ?_); refine r_op (o_add rfl rfl (add_i64 (by omega)) rfl ?_); refine r_op (o_move rfl rfl ?_))
    rw [show (0 : Int) + (k : Int) = ((0 + k : Nat) : Int) by omega]
    (refine r_op ?_)
    refine o_call rfl (open0C_spec b calm0 (f := 0 + k) (by omega) hfit (getD_0 _)) rfl ?_
    rintro v B ⟨ps, rfl, rfl⟩
    (simp only [List.cons_append, List.nil_append])
    (refine r_op (o_move rfl rfl ?_); refine r_op (o_extract rfl rfl rfl ?_); refine r_op (o_extract rfl rfl rfl ?_); refine r_op (o_assign rfl rfl ?_); refine r_op (o_assign rfl rfl ?_); refine r_nil ?_; refine x_seq ?_; refine x_seq (x_region ?_); refine r_op (o_move rfl rfl ?_); refine r_op (o_neq_f rfl rfl (by omega) rfl ?_); refine r_nil ?_; refine x_false rfl ?_; refine x_skip ?_; refine x_region ?_; refine r_op (o_move rfl rfl ?_); refine r_op (o_move rfl rfl ?_); refine r_op (o_move rfl rfl ?_); refine r_op (o_nilCheck rfl rfl ?_); refine r_op (o_fieldAddr rfl rfl ?_))
    (refine r_op ?_)
    refine o_indexA rfl rfl (j := k) rfl h rfl ?_
    have hLl : (rpv xs ++ List.replicate (4 - k) (Value.pointer none)).length = 4 := by simp [hx1]; omega
    (refine r_do ?_)
    refine o_storeI (i := k) rfl rfl rfl (by omega) (by rw [hLl]; simpa [Nat.blt_eq] using h) ?_
    have hset : (rpv xs ++ List.replicate (4 - k) (Value.pointer none)).set k (dp ps) = rpv (xs ++ [(ps, ⟨0 + k, 128 * 2 ^ k, [], false⟩)]) ++ List.replicate (4 - (k + 1)) (Value.pointer none) := by
      rw [List.set_append_right _ _ (by simp [hx1]), show 4 - k = (4 - (k + 1)) + 1 by omega, List.replicate_succ]
      simp [hx1, rpv]
    rw [hset]
    (refine r_nil ?_; refine x_inBlock ?_; refine x_region ?_; refine r_op (o_add rfl rfl (add_i64 (by omega)) rfl ?_); refine r_op (o_move rfl rfl ?_); refine r_nil ?_)
    refine x_mem (Γ' := Row r 0 (rpv (xs ++ [(ps, ⟨0 + k, 128 * 2 ^ k, [], false⟩)]) ++ List.replicate (4 - (k + 1)) (Value.pointer none)) :: Parts (RG b) (xs ++ [(ps, ⟨0 + k, 128 * 2 ^ k, [], false⟩)]) :: DiskI b (newD (List.replicate 8 [])) :: Γ)
      ((Sub.h (Δ := Parts (RG b) xs :: ShelfI ps b ⟨0 + k, 128 * 2 ^ k, [], false⟩ :: Row r 0 (rpv (xs ++ [(ps, ⟨0 + k, 128 * 2 ^ k, [], false⟩)]) ++ List.replicate (4 - (k + 1)) (Value.pointer none)) :: DiskI b (newD (List.replicate 8 [])) :: Γ)).trans ((Ent.snocP xs (ps, ⟨0 + k, 128 * 2 ^ k, [], false⟩) _).trans (Ent.perm (.swap _ _ _)))) ?_
    refine x_weak (back (k + 1, xs ++ [(ps, ⟨0 + k, 128 * 2 ^ k, [], false⟩)]) ⟨by dsimp only; omega, by simp [hx1], by
      dsimp only
      rw [List.map_append, hx2, List.take_add_one, ssOf_get hes]; rfl⟩ (by dsimp only; omega)) (by (repeat' (first | exact trivial | refine ⟨rfl, ?_⟩))) Sub.h
  · obtain rfl : k = 4 := by omega
    rw [List.take_of_length_le (by rw [ssOf_len]; decide)] at hx2
    (refine r_op (o_lss_f rfl rfl (by omega) rfl ?_); refine r_nil ?_; refine x_seq ?_; refine x_false rfl ?_; refine x_exit rfl ?_; refine x_seq (x_region ?_); refine r_op (o_move rfl rfl ?_); refine r_op (o_assign rfl rfl ?_); refine r_op (o_assign rfl rfl ?_); refine r_nil ?_)
    refine x_ret rfl [RackI r b (ssOf 0 ess0), DiskI b (newD (List.replicate 8 []))] ⟨r, rfl, rfl⟩ ?_
    have h1 : rpv xs ++ List.replicate (4 - 4) (Value.pointer none) = rpv xs := by simp
    rw [h1]
    exact Ent.rack xs ⟨hx2, hx1⟩ _
end Go.Proofs.Ythneebbmodkjiaa
