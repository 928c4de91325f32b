/- Part of a proof over the seat Ythneebbmodkjiaa: module E18. Its claim's last module says what is proved. -/
import Derived.Test.YthneebbmodkjiaaE17
namespace Go.Proofs.Ythneebbmodkjiaa
open Go.Proofs

set_option maxHeartbeats 6400000 in
theorem full_spec {A : HP} {p : TV} (R : TV.Rd A p) : Spec Try.prog 14 [p.val] [A] (fun v B => v = .bool true ∧ B = [A]) := by
  refine Spec.of_ex Try.func14 rfl Try.ntmps14 rfl fun E cs Γ => ?_
  (simp only [argRho, List.cons_append, List.nil_append])
  (refine x_seq ?_); (refine x_region ?_)
  (refine r_op ?_)
  refine o_boxA (vs := p.cells) rfl rfl (fun b0 => ?_)
  have lb := R.lb
  (refine r_op (o_assign rfl rfl ?_); refine r_nil ?_; refine x_seq (x_region ?_))
  (refine r_op ?_)
  refine o_call rfl disk0_spec rfl ?_
  rintro v B ⟨b, rfl, rfl⟩
  (simp only [List.cons_append, List.nil_append])
  (refine r_op ?_)
  refine o_call rfl (open0C_spec b calm0 (f := 3) (n := 128) (by decide) rfl rfl) rfl ?_
  rintro v B ⟨ps, rfl, rfl⟩
  (simp only [List.cons_append, List.nil_append])
  (refine r_op (o_move rfl rfl ?_); refine r_op (o_extract rfl rfl rfl ?_); refine r_op (o_extract rfl rfl rfl ?_); refine r_op (o_assign rfl rfl ?_); refine r_op (o_assign rfl rfl ?_); refine r_nil ?_; refine x_seq ?_; refine x_seq (x_region ?_); refine r_op (o_move rfl rfl ?_))
  (refine r_op ?_)
  refine o_call rfl (num10_spec 0) rfl ?_
  rintro v B ⟨rfl, rfl⟩
  (simp only [List.nil_append])
  (refine r_op (o_neq_f rfl rfl (by omega) rfl ?_); refine r_op (o_move rfl rfl ?_); refine r_guard rfl (o_move rfl rfl ?_))
  (refine r_guard rfl ?_)
  refine o_peq (.inl rfl) rfl rfl (.inr rfl) rfl ?_
  (refine r_op (o_pick_f rfl rfl rfl ?_); refine r_nil ?_; refine x_false rfl ?_; refine x_skip ?_; refine x_seq (x_region ?_))
  (refine r_op ?_)
  refine o_make rfl rfl (m := 112) rfl rfl (by rfl) (by decide) (by decide) rfl (fun a7 => ?_)
  rw [show zs [Value.int IntKind.u8 0] 112 = longT.map bv by rw [zs_one]; simp [bv]]
  have RL : Reads (Sl 1 a7 112 112 (longT.map bv)) 1 a7 longT.length (longT.map bv) := Sl.reads 1 a7 112 112 (longT.map bv) (by rw [List.length_map, List.length_replicate])
  (refine r_op ?_)
  refine o_toStr rfl RL rfl ?_
  (refine r_op (o_assign rfl rfl ?_); refine r_nil ?_; refine x_seq ?_; refine x_seq (x_region ?_); refine r_op (o_assign rfl rfl ?_); refine r_nil ?_; refine x_block ?_)
  refine x_loop (α := Nat × List (List UInt8)) (fun q => q.1 ≤ 128 ∧ Calm q.2 ∧ Holds 128 (fullE q.1) (q.2.getD 3 [])) (fun q => [(1, dp b0), (3, dp ps), (5, tv longT), (6, .int .i64 q.1)])
    (fun q => A :: Row b0 0 p.cells :: ShelfI ps b ⟨3, 128, fullE q.1, false⟩ :: DiskI b (newD q.2) :: Γ) (fun q => 128 - q.1) (0, List.replicate 8 []) ⟨by decide, calm0, holds_nil (by decide)⟩ ⟨rfl, rfl, rfl, rfl, trivial⟩ (show Ent _ (A :: Row b0 0 p.cells :: ShelfI ps b ⟨3, 128, [], false⟩ :: DiskI b (newD (List.replicate 8 [])) :: Γ) from Sub.h) ?_
  rintro ⟨i, bs⟩ ⟨hi, hc, hh⟩ back
  dsimp only at hi hc hh ⊢
  (refine x_seq ?_; refine x_seq (x_region ?_); refine r_op (o_move rfl rfl ?_))
  (refine r_op ?_)
  refine o_lss rfl rfl rfl (fun h => ?_) (fun h => ?_)
  · have hff : ff (fullE i) = i := by rw [ff_some, List.length_replicate]
    have hpa : putAt (fullE i) i longT = fullE (i + 1) := by
      have := putAt_some (List.replicate i longT) longT
      rw [List.length_replicate] at this
      rw [this]
      unfold fullE
      rw [List.replicate_succ']
    (refine r_nil ?_; refine x_true rfl ?_; refine x_skip ?_; refine x_seq ?_; refine x_block ?_; refine x_seq (x_region ?_); refine r_op (o_move rfl rfl ?_); refine r_op (o_move rfl rfl ?_))
    (refine r_op ?_)
    refine o_call rfl (putC_spec ps b hc (f := 3) (n := 128) (es := fullE i) (t := longT) (by decide) (by decide) hh (by rw [List.length_replicate]; decide) (by rw [hff]; omega)) rfl ?_
    rintro v B ⟨b', rfl, rfl, h2⟩
    rw [hff, hpa] at h2 ⊢
    (simp only [List.cons_append, List.nil_append])
    (refine r_op (o_move rfl rfl ?_); refine r_op (o_extract rfl rfl rfl ?_); refine r_op (o_extract rfl rfl rfl ?_); refine r_op (o_assign rfl rfl ?_); refine r_op (o_assign rfl rfl ?_); refine r_nil ?_; refine x_seq (x_region ?_); refine r_op (o_move rfl rfl ?_))
    (refine r_op ?_)
    refine o_call rfl (num10_spec 0) rfl ?_
    rintro v B ⟨rfl, rfl⟩
    (simp only [List.nil_append])
    (refine r_op (o_neq_f rfl rfl (by omega) rfl ?_); refine r_op (o_move rfl rfl ?_); refine r_guard rfl (o_move rfl rfl ?_); refine r_guard rfl (o_move rfl rfl ?_); refine r_guard rfl (o_neq_f rfl rfl (by omega) rfl ?_); refine r_op (o_pick_f rfl rfl rfl ?_); refine r_nil ?_; refine x_false rfl ?_; refine x_skip ?_; refine x_inBlock ?_; refine x_region ?_; refine r_op (o_move rfl rfl ?_); refine r_op (o_add rfl rfl (add_i64 (by omega)) rfl ?_); refine r_op (o_assign rfl rfl ?_); refine r_nil ?_)
    refine x_weak (back (i + 1, bs.set 3 b') ⟨by dsimp only; omega, hc.set 3 (h2.size (by decide)), by dsimp only; rw [getD_set hc.h8 (by decide)]; exact h2⟩ (by dsimp only; omega)) (by (repeat' (first | exact trivial | refine ⟨rfl, ?_⟩))) Sub.h
  · have e : i = 128 := by omega
    subst e
    have hL : (List.replicate 128 longT).length = 128 := List.length_replicate
    have hE : (fullE 128).length = 128 := by rw [List.length_map, hL]
    have hff : ff (fullE 128) = 128 := by rw [ff_some, hL]
    (refine r_nil ?_; refine x_false rfl ?_; refine x_exit rfl ?_; refine x_seq (x_region ?_); refine r_op (o_move rfl rfl ?_))
    (refine r_op ?_)
    refine o_call rfl (putFull_spec ps b (newD bs) hc.okn 3 128 (by decide) (fullE 128) (by omega) [] (by decide) (by omega)) rfl ?_
    rintro v B ⟨rfl, rfl⟩
    (simp only [List.cons_append, List.nil_append])
    (refine r_op (o_move rfl rfl ?_); refine r_op (o_extract rfl rfl rfl ?_); refine r_op (o_extract rfl rfl rfl ?_); refine r_op (o_assign rfl rfl ?_); refine r_op (o_assign rfl rfl ?_); refine r_nil ?_; refine x_seq (x_region ?_); refine r_op (o_move rfl rfl ?_); refine r_op (o_move rfl rfl ?_))
    (refine r_op ?_)
    refine o_concat rfl rfl (by rw [bstr_size, List.length_replicate]; decide) rfl ?_
    rw [show bstr longT ++ (⟨#[120]⟩ : ByteArray) = bstr (longT ++ [120]) from rfl]
    (refine r_op ?_)
    refine o_call rfl (putLong_spec ps b (newD bs) hc.okn 3 128 (by decide) (fullE 128) (by omega) (longT ++ [120]) (by rw [List.length_append, List.length_replicate]; decide) (by rw [List.length_append, List.length_replicate]; decide)) rfl ?_
    rintro v B ⟨rfl, rfl⟩
    (simp only [List.cons_append, List.nil_append])
    (refine r_op (o_move rfl rfl ?_); refine r_op (o_extract rfl rfl rfl ?_); refine r_op (o_extract rfl rfl rfl ?_); refine r_op (o_assign rfl rfl ?_); refine r_op (o_assign rfl rfl ?_); refine r_nil ?_; refine x_seq (x_region ?_); refine r_op (o_fieldAddr rfl rfl ?_); refine r_op (o_load rfl rfl rfl rfl ?_); refine r_op (o_lenS rfl rfl ?_); refine r_op (o_mul rfl rfl (in_i64 (by omega)) rfl ?_))
    (refine r_op ?_)
    refine o_call rfl (within_spec (p.l.length * 7) 128 (by decide)) rfl ?_
    rintro v B ⟨⟨r, rfl, hr0, hr1, -⟩, rfl⟩
    obtain ⟨r, rfl⟩ : ∃ i : Nat, r = i := ⟨r.toNat, by omega⟩
    have hr : r < 128 := by omega
    have htx : Sh.txt ⟨3, 128, fullE 128, false⟩ r = some longT := by
      rw [Sh.txt_in (by show r < (fullE 128).length; omega)]
      show (fullE 128)[r]'(by omega) = _
      simp only [fullE, List.getElem_map, List.getElem_replicate]
    (simp only [List.nil_append])
    (refine r_op (o_assign rfl rfl ?_); refine r_nil ?_; refine x_seq (x_region ?_); refine r_op (o_move rfl rfl ?_); refine r_op (o_move rfl rfl ?_))
    (refine r_op ?_)
    refine o_call rfl (delC_spec ps b hc (f := 3) (n := 128) (by decide) (by decide) hh htx) rfl ?_
    rintro v B ⟨b1, rfl, rfl, h1⟩
    rw [Int.toNat_natCast] at h1 ⊢
    have hc1 := hc.set 3 (h1.size (by decide))
    have hf1 : ff ((fullE 128).set r none) = r := ff_set r _ (by omega)
    have hg1 : Holds 128 ((fullE 128).set r none) ((bs.set 3 b1).getD 3 []) := by rw [getD_set hc.h8 (by decide)]; exact h1
    obtain ⟨E1, hE1⟩ : ∃ E1, (fullE 128).set r none = E1 := ⟨_, rfl⟩
    have hE1l : E1.length = 128 := by rw [← hE1, List.length_set, hE]
    obtain ⟨bs1, hbs1⟩ : ∃ x, bs.set 3 b1 = x := ⟨_, rfl⟩
    rw [hE1] at hf1 hg1 ⊢
    rw [hbs1] at hc1 hg1 ⊢
    (simp only [List.cons_append, List.nil_append])
    (refine r_op (o_assign rfl rfl ?_); refine r_nil ?_; refine x_seq (x_region ?_); refine r_op (o_move rfl rfl ?_))
    (refine r_op ?_)
    refine o_call rfl (putC_spec ps b hc1 (f := 3) (n := 128) (es := E1) (t := [120]) (by decide) (by decide) hg1 (by decide) (by omega)) rfl ?_
    rintro v B ⟨b2, rfl, rfl, h2⟩
    rw [hf1] at h2 ⊢
    have hpE : putAt E1 r [120] = ((List.replicate 128 longT).set r [120]).map some := by
      unfold putAt
      rw [if_neg (by omega), ← hE1, List.set_set, List.map_set]
    rw [hpE]
    obtain ⟨L2, hL2⟩ : ∃ x, (List.replicate 128 longT).set r [120] = x := ⟨_, rfl⟩
    have hL2l : L2.length = 128 := by rw [← hL2, List.length_set, hL]
    have hget : Sh.get ⟨3, 128, L2.map some, false⟩ r = ([120], 0) := by
      unfold Sh.get
      rw [Sh.txt_in (by show r < (L2.map some).length; rw [List.length_map]; omega)]
      have : (L2.map some)[r]'(by rw [List.length_map]; omega) = some [120] := by
        rw [List.getElem_map]; subst hL2; rw [List.getElem_set_self]
      dsimp only
      rw [this]
    rw [hL2]
    (simp only [List.cons_append, List.nil_append])
    (refine r_op (o_move rfl rfl ?_); refine r_op (o_extract rfl rfl rfl ?_); refine r_op (o_extract rfl rfl rfl ?_); refine r_op (o_assign rfl rfl ?_); refine r_op (o_assign rfl rfl ?_); refine r_nil ?_; refine x_seq (x_region ?_); refine r_op (o_move rfl rfl ?_); refine r_op (o_move rfl rfl ?_))
    (refine r_op ?_)
    refine o_call rfl (get_spec ps b ⟨3, 128, L2.map some, false⟩ r (by show (L2.map some).length ≤ _; rw [List.length_map]; omega)) rfl ?_
    rintro v B ⟨rfl, rfl⟩
    rw [hget]
    (simp only [List.cons_append, List.nil_append])
    (refine r_op (o_move rfl rfl ?_); refine r_op (o_extract rfl rfl rfl ?_); refine r_op (o_extract rfl rfl rfl ?_); refine r_op (o_assign rfl rfl ?_); refine r_op (o_assign rfl rfl ?_); refine r_nil ?_; refine x_seq (x_region ?_))
    (refine r_op ?_)
    refine o_call rfl (openNil_spec 0 128) rfl ?_
    rintro v B ⟨rfl, rfl⟩
    (simp only [List.nil_append])
    (refine r_op (o_move rfl rfl ?_); refine r_op (o_extract rfl rfl rfl ?_); refine r_op (o_extract rfl rfl rfl ?_); refine r_op (o_assign rfl rfl ?_); refine r_op (o_assign rfl rfl ?_); refine r_nil ?_; refine x_seq (x_region ?_))
    (refine r_op ?_)
    refine o_call rfl disk0_spec rfl ?_
    rintro v B ⟨b3, rfl, rfl⟩
    (simp only [List.cons_append, List.nil_append])
    (refine r_op ?_)
    refine o_call rfl (openBad_spec b3 _ 0 100 (by decide) calm0.okn) rfl ?_
    rintro v B ⟨rfl, rfl⟩
    (simp only [List.cons_append, List.nil_append])
    (refine r_op (o_move rfl rfl ?_); refine r_op (o_extract rfl rfl rfl ?_); refine r_op (o_extract rfl rfl rfl ?_); refine r_op (o_assign rfl rfl ?_); refine r_op (o_assign rfl rfl ?_); refine r_nil ?_; refine x_seq (x_region ?_))
    (refine r_op ?_)
    refine o_call rfl disk0_spec rfl ?_
    rintro v B ⟨b4, rfl, rfl⟩
    (simp only [List.cons_append, List.nil_append])
    (refine r_op ?_)
    refine o_call rfl (openBad_spec b4 _ 8 128 (by decide) calm0.okn) rfl ?_
    rintro v B ⟨rfl, rfl⟩
    (simp only [List.cons_append, List.nil_append])
    (refine r_op (o_move rfl rfl ?_); refine r_op (o_extract rfl rfl rfl ?_); refine r_op (o_extract rfl rfl rfl ?_); refine r_op (o_assign rfl rfl ?_); refine r_op (o_assign rfl rfl ?_); refine r_nil ?_; refine x_seq (x_region ?_); refine r_op (o_move rfl rfl ?_))
    (refine r_op ?_)
    refine o_call rfl (num10_spec 5) rfl ?_
    rintro v B ⟨rfl, rfl⟩
    (simp only [List.nil_append])
    (refine r_op (o_eql_t rfl rfl (by omega) rfl ?_); refine r_op (o_move rfl rfl ?_); refine r_guard rfl (o_move rfl rfl ?_))
    (refine r_guard rfl ?_)
    refine o_call rfl (num10_spec 2) rfl ?_
    rintro v B ⟨rfl, rfl⟩
    (simp only [List.nil_append])
    (refine r_guard rfl (o_eql_t rfl rfl (by omega) rfl ?_); refine r_op (o_pick_t rfl rfl rfl ?_); refine r_op (o_move rfl rfl ?_); refine r_guard rfl (o_move rfl rfl ?_))
    (refine r_guard rfl ?_)
    refine o_call rfl (num10_spec 0) rfl ?_
    rintro v B ⟨rfl, rfl⟩
    (simp only [List.nil_append])
    (refine r_guard rfl (o_eql_t rfl rfl (by omega) rfl ?_); refine r_op (o_pick_t rfl rfl rfl ?_); refine r_op (o_move rfl rfl ?_); refine r_guard rfl (o_move rfl rfl ?_))
    (refine r_guard rfl ?_)
    refine o_call rfl (num10_spec 0) rfl ?_
    rintro v B ⟨rfl, rfl⟩
    (simp only [List.nil_append])
    (refine r_guard rfl (o_eql_t rfl rfl (by omega) rfl ?_); refine r_op (o_pick_t rfl rfl rfl ?_); refine r_op (o_move rfl rfl ?_); refine r_guard rfl (o_move rfl rfl ?_))
    (refine r_guard rfl ?_)
    refine o_call rfl (num10_spec 0) rfl ?_
    rintro v B ⟨rfl, rfl⟩
    (simp only [List.nil_append])
    (refine r_guard rfl (o_eql_t rfl rfl (by omega) rfl ?_); refine r_op (o_pick_t rfl rfl rfl ?_); refine r_op (o_move rfl rfl ?_); refine r_guard rfl (o_move rfl rfl ?_); refine r_guard rfl (o_move rfl rfl ?_); refine r_guard rfl (o_eql_t rfl rfl (by omega) rfl ?_); refine r_op (o_pick_t rfl rfl rfl ?_); refine r_op (o_move rfl rfl ?_); refine r_guard rfl (o_move rfl rfl ?_))
    (refine r_guard rfl ?_)
    refine o_seql_t rfl rfl (by rfl) rfl ?_
    (refine r_op (o_pick_t rfl rfl rfl ?_); refine r_op (o_move rfl rfl ?_); refine r_guard rfl (o_move rfl rfl ?_))
    (refine r_guard rfl ?_)
    refine o_call rfl (len_spec ps b ⟨3, 128, L2.map some, false⟩ (by show (L2.map some).length ≤ _; rw [List.length_map]; omega)) rfl ?_
    rintro v B ⟨rfl, rfl⟩
    rw [show Sh.len ⟨3, 128, L2.map some, false⟩ = 128 from (live_all L2 0).trans hL2l]
    (simp only [List.cons_append, List.nil_append])
    (refine r_guard rfl (o_eql_t rfl rfl (by omega) rfl ?_); refine r_op (o_pick_t rfl rfl rfl ?_); refine r_op (o_move rfl rfl ?_); refine r_guard rfl (o_move rfl rfl ?_))
    (refine r_guard rfl ?_)
    refine o_call rfl (num10_spec 1) rfl ?_
    rintro v B ⟨rfl, rfl⟩
    (simp only [List.nil_append])
    (refine r_guard rfl (o_eql_t rfl rfl (by omega) rfl ?_); refine r_op (o_pick_t rfl rfl rfl ?_); refine r_op (o_move rfl rfl ?_); refine r_guard rfl (o_move rfl rfl ?_))
    (refine r_guard rfl ?_)
    refine o_call rfl (num10_spec 1) rfl ?_
    rintro v B ⟨rfl, rfl⟩
    (simp only [List.nil_append])
    (refine r_guard rfl (o_eql_t rfl rfl (by omega) rfl ?_); refine r_op (o_pick_t rfl rfl rfl ?_); refine r_op (o_move rfl rfl ?_); refine r_guard rfl (o_move rfl rfl ?_))
    (refine r_guard rfl ?_)
    refine o_call rfl (num10_spec 1) rfl ?_
    rintro v B ⟨rfl, rfl⟩
    (simp only [List.nil_append])
    (refine r_guard rfl (o_eql_t rfl rfl (by omega) rfl ?_); refine r_op (o_pick_t rfl rfl rfl ?_); refine r_op (o_move rfl rfl ?_); refine r_guard rfl (o_move rfl rfl ?_))
    (refine r_guard rfl ?_)
    refine o_peq (.inl rfl) rfl rfl (.inr rfl) rfl ?_
    (refine r_op (o_pick_t rfl rfl rfl ?_); refine r_op (o_move rfl rfl ?_); refine r_guard rfl (o_move rfl rfl ?_))
    (refine r_guard rfl ?_)
    refine o_peq (.inl rfl) rfl rfl (.inr rfl) rfl ?_
    (refine r_op (o_pick_t rfl rfl rfl ?_); refine r_op (o_move rfl rfl ?_); refine r_guard rfl (o_move rfl rfl ?_))
    (refine r_guard rfl ?_)
    refine o_peq (.inl rfl) rfl rfl (.inr rfl) rfl ?_
    (refine r_op (o_pick_t rfl rfl rfl ?_); refine r_op (o_move rfl rfl ?_))
    (refine r_guard rfl ?_)
    refine o_call rfl wakes10_spec rfl ?_
    rintro v B ⟨rfl, rfl⟩
    (simp only [List.nil_append])
    (refine r_op (o_pick_t rfl rfl rfl ?_); refine r_op (o_assign rfl rfl ?_); refine r_nil ?_)
    exact x_ret rfl [A] ⟨rfl, rfl⟩ Sub.h
end Go.Proofs.Ythneebbmodkjiaa
