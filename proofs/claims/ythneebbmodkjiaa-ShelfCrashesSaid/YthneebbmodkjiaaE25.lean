/- Part of a proof over the seat Ythneebbmodkjiaa: module E25. Its claim's last module says what is proved. -/
import Derived.Test.YthneebbmodkjiaaE19
import Derived.Test.YthneebbmodkjiaaG7
namespace Go.Proofs.Ythneebbmodkjiaa
open Go.Proofs

/-- A disk of a crash of another one. -/
theorem again2_spec {A : HP} {a : Option Addr} {cap : Nat} {ps : List Int} (b : Nat) {d : Dk} (hd : d.fit) (hc : Calm (keepAll d.fs ps)) (R : Reads A 1 a ps.length (ps.map iv)) (hl : ps.length ≤ 2 ^ 63 - 1) (hps : ∀ p ∈ ps, p ≤ 9223372036854775807) :
    Spec Try.prog 72 [dp b, .slice a ps.length cap] [DiskI b d, A] (fun v B => ∃ b', v = dp b' ∧ B = [A, DiskI b' (newD (keepAll d.fs ps))]) := by
  refine Spec.of_ex Try.func72 rfl Try.ntmps72 rfl fun E cs Γ => ?_
  (simp only [argRho, Nat.reduceAdd, List.cons_append, List.nil_append])
  (refine x_seq (x_region ?_); refine r_op (o_assign rfl rfl ?_); refine r_nil ?_; refine x_seq ?_; refine x_seq (x_region ?_); refine r_op (o_move rfl rfl ?_))
  (refine r_op ?_)
  refine o_peq (.inl rfl) rfl rfl (.inr rfl) rfl ?_
  (refine r_nil ?_; refine x_false rfl ?_; refine x_skip ?_; refine x_seq (x_region ?_); refine r_op (o_move rfl rfl ?_); refine r_op (o_move rfl rfl ?_))
  (refine r_op ?_)
  refine o_call rfl (crash_spec b d R hl hps hd) rfl ?_
  rintro v B ⟨a', cap', q, rfl, hq, rfl⟩
  (simp only [List.cons_append, List.nil_append])
  have RC := CellsX.rd a' cap' q
  (refine r_op ?_)
  refine o_call rfl (disk_spec RC (by rw [hq]; exact hc)) rfl ?_
  rintro v B ⟨b', rfl, rfl⟩
  (simp only [List.cons_append, List.nil_append])
  rw [hq]
  (refine r_op (o_assign rfl rfl ?_); refine r_nil ?_)
  exact x_ret rfl [A, DiskI b' (newD (keepAll d.fs ps))] ⟨b', rfl, rfl⟩ Sub.h
theorem put_facts {N : Nat} (s : Sh) {d : Dk} (t : Tx) (h : d.okn N) : (s.put d t).1.n = s.n ∧ (s.put d t).1.es.length ≤ s.es.length + 1 ∧ (s.put d t).2.1.okn (N + 4) := by
  unfold Sh.put
  have h4 := okn_layS h s.f s.n (ff s.es) t
  have h0 : d.okn (N + 4) := h.mono (by omega)
  split
  · exact ⟨rfl, by simp, h0⟩
  split
  · exact ⟨rfl, by simp, h0⟩
  split
  · exact ⟨rfl, by simp, h0⟩
  split
  · exact ⟨rfl, by simp, h4⟩
  · refine ⟨rfl, ?_, h4⟩
    dsimp only
    rw [putAt_len (ff_le _)]
    have := ff_le s.es
    omega
theorem hurt_okn {N : Nat} {d : Dk} (h : d.okn N) (n : Int) : (d.hurt n).okn N := h.fs _ rfl
theorem fst_facts (n : Nat) : ∀ i, (fst' n i).1.n = 128 ∧ (fst' n i).1.es.length ≤ i ∧ (fst' n i).2.1.okn (4 * i) ∧ (fst' n i).2.2.length ≤ i
  | 0 => ⟨rfl, Nat.le_refl _, calm0.okn, Nat.le_refl _⟩
  | i + 1 => by
    obtain ⟨h1, h2, h3, h4⟩ := fst_facts n i
    have hd : (fdk n i).okn (4 * i) := by
      unfold fdk; split
      · exact hurt_okn h3 n
      · exact h3
    obtain ⟨g1, g2, g3⟩ := put_facts (fst' n i).1 [UInt8.ofNat (97 + i)] hd
    refine ⟨?_, ?_, ?_, ?_⟩
    · show (fput n i).1.n = 128
      unfold fput; rw [g1, h1]
    · show (fput n i).1.es.length ≤ i + 1
      unfold fput; omega
    · show (fput n i).2.1.okn _
      unfold fput; exact g3.mono (by omega)
    · show (if (fput n i).2.2.2 = 0 then (fst' n i).2.2 ++ [[UInt8.ofNat (97 + i)]] else (fst' n i).2.2).length ≤ i + 1
      split
      · simp; omega
      · omega
theorem keepAll_len : ∀ (fs : List Fl) (ps : List Int), (keepAll fs ps).length = fs.length
  | [], _ => rfl
  | x :: fs, ps => by simp [keepAll, keepAll_len fs]
set_option maxHeartbeats 1600000 in
theorem fails10_spec {A : HP} {p : TV} (R : TV.Rd A p) : Spec Try.prog 20 [p.val] [A] (fun v B => v = .bool true ∧ B = [A]) := by
  refine Spec.of_ex Try.func20 rfl Try.ntmps20 rfl fun E cs Γ => ?_
  (simp only [argRho, List.cons_append, List.nil_append])
  (refine x_seq ?_); (refine x_region ?_)
  (refine r_op ?_)
  refine o_boxA (vs := p.cells) rfl rfl (fun b0 => ?_)
  have lb := R.lb
  (refine r_op (o_assign rfl rfl ?_); refine r_nil ?_; refine x_seq ?_; refine x_seq (x_region ?_); refine r_op (o_assign rfl rfl ?_); refine r_nil ?_; refine x_block ?_)
  refine x_loop (α := Nat) (fun n => 1 ≤ n ∧ n ≤ 13) (fun n => [(1, dp b0), (3, .int .i64 n)]) (fun _ => A :: Row b0 0 p.cells :: Γ) (fun n => 13 - n) 1 ⟨by decide, by decide⟩ ⟨rfl, rfl, trivial⟩ Sub.h ?_
  rintro n ⟨hn1, hn2⟩ back
  (refine x_seq ?_; refine x_seq (x_region ?_); refine r_op (o_move rfl rfl ?_))
  (refine r_op ?_)
  refine o_leq rfl rfl rfl (fun h => ?_) (fun h => ?_)
  · obtain ⟨hI, hE⟩ := fok_all n (by omega) hn1
    (refine r_nil ?_; refine x_true rfl ?_; refine x_skip ?_; refine x_seq ?_; refine x_block ?_; refine x_seq (x_region ?_))
    (refine r_op ?_)
    refine o_call rfl disk0_spec rfl ?_
    rintro v B ⟨b, rfl, rfl⟩
    (simp only [List.cons_append, List.nil_append])
    (refine r_op (o_assign rfl rfl ?_); refine r_nil ?_; refine x_seq (x_region ?_); refine r_op (o_move rfl rfl ?_))
    (refine r_op ?_)
    refine o_call rfl (open0C_spec b calm0 (f := 1) (n := 128) (by decide) (by decide) (getD_0 1)) rfl ?_
    rintro v B ⟨ps, rfl, rfl⟩
    (simp only [List.cons_append, List.nil_append])
    (refine r_op (o_move rfl rfl ?_); refine r_op (o_extract rfl rfl rfl ?_); refine r_op (o_extract rfl rfl rfl ?_); refine r_op (o_assign rfl rfl ?_); refine r_op (o_assign rfl rfl ?_); refine r_nil ?_; refine x_seq ?_; refine x_seq (x_region ?_); refine r_op (o_move rfl rfl ?_))
    (refine r_op ?_)
    refine o_peq (.inl rfl) rfl rfl (.inr rfl) rfl ?_
    (refine r_op (o_move rfl rfl ?_); refine r_guard rfl (o_move rfl rfl ?_))
    (refine r_guard rfl ?_)
    refine o_call rfl (num10_spec 0) rfl ?_
    rintro v B ⟨rfl, rfl⟩
    (simp only [List.nil_append])
    (refine r_guard rfl (o_neq_f rfl rfl (by omega) rfl ?_); refine r_op (o_pick_f rfl rfl rfl ?_); refine r_op (o_move rfl rfl ?_); refine r_guard rfl (o_move rfl rfl ?_))
    (refine r_guard rfl ?_)
    refine o_peq (.inl rfl) rfl rfl (.inr rfl) rfl ?_
    (refine r_op (o_pick_f rfl rfl rfl ?_); refine r_nil ?_; refine x_false rfl ?_; refine x_skip ?_; refine x_seq (x_region ?_); refine r_op (o_assign rfl rfl ?_); refine r_nil ?_; refine x_seq ?_; refine x_seq (x_region ?_); refine r_op (o_assign rfl rfl ?_); refine r_nil ?_; refine x_block ?_)
    refine x_mem (Γ' := ShelfI ps b ⟨1, 128, [], false⟩ :: DiskI b (newD (List.replicate 8 [])) :: Sl 1 none 0 0 ([] : List Value) :: A :: Row b0 0 p.cells :: Γ) ((Ent.nilSl 1 _).trans Sub.h) ?_
    refine x_loop (α := Nat × Option Addr × Nat) (fun q => q.1 ≤ 4) (fun q => [(1, dp b0), (3, .int .i64 n), (4, dp b), (5, dp ps), (7, .slice q.2.1 (fst' n q.1).2.2.length q.2.2), (8, .int .i64 q.1)])
      (fun q => ShelfI ps b (fst' n q.1).1 :: DiskI b (fst' n q.1).2.1 :: Sl 1 q.2.1 (fst' n q.1).2.2.length q.2.2 ((fst' n q.1).2.2.map tv) :: A :: Row b0 0 p.cells :: Γ) (fun q => 4 - q.1) (0, none, 0) (Nat.zero_le _) ⟨rfl, rfl, rfl, rfl, rfl, rfl, trivial⟩ (.refl _) ?_
    rintro ⟨i, a, c⟩ hi back2
    dsimp only at hi back2 ⊢
    obtain ⟨f1, f2, f3, f4⟩ := fst_facts n i
    obtain ⟨f1', f2', f3', f4'⟩ := fst_facts n (i + 1)
    (refine x_seq ?_; refine x_seq (x_region ?_); refine r_op (o_move rfl rfl ?_))
    (refine r_op ?_)
    refine o_lss rfl rfl rfl (fun h => ?_) (fun h => ?_)
    · have hi4 : i < 4 := by omega
      have hIi := hI i hi4
      have hcv : IntKind.u8.wrap (97 + (i : Int)) = ((UInt8.ofNat (97 + i)).toNat : Int) := by
        have : i = 0 ∨ i = 1 ∨ i = 2 ∨ i = 3 := by omega
        rcases this with rfl | rfl | rfl | rfl <;> rfl
      have hdk : (fdk n i).okn (4 * i) := by
        unfold fdk; split
        · exact hurt_okn f3 n
        · exact f3
      have SP := put_spec ps b (fst' n i).1 (fdk n i) [UInt8.ofNat (97 + i)] hdk (by omega) (by omega) (by omega) (by simp)
      have g1 : (fst' n (i + 1)).1 = (fput n i).1 := rfl
      have g2 : (fst' n (i + 1)).2.1 = (fput n i).2.1 := rfl
      have g3 : (fst' n (i + 1)).2.2 = if (fput n i).2.2.2 = 0 then (fst' n i).2.2 ++ [[UInt8.ofNat (97 + i)]] else (fst' n i).2.2 := rfl
      rw [show (fst' n i).1.put (fdk n i) [UInt8.ofNat (97 + i)] = fput n i from rfl] at SP
      obtain ⟨r, hr⟩ : ∃ r, fput n i = r := ⟨_, rfl⟩
      unfold fokI at hIi
      rw [hr] at g1 g2 g3 SP hIi
      simp only [Bool.or_eq_true, Bool.and_eq_true, decide_eq_true_eq] at hIi
      rw [g1] at f1' f2'
      replace hIi : r.2.2.2 = 0 ∨ (r.2.2.2 = 14 ∧ r.1.failed = true ∧ r.1.texts = (fst' n i).2.2) := by
        rcases hIi with h | ⟨⟨h, h2⟩, h3⟩
        · exact .inl h
        · exact .inr ⟨h, h2, h3⟩
      (refine r_nil ?_; refine x_true rfl ?_; refine x_skip ?_; refine x_seq ?_; refine x_block ?_; refine x_seq ?_; refine x_seq (x_region ?_); refine r_op (o_move rfl rfl ?_))
      (refine r_op ?_)
      refine o_eql rfl rfl rfl (fun h2 => ?_) (fun h2 => ?_)
      · have hd : (fst' n i).2.1.hurt n = fdk n i := by unfold fdk; rw [if_pos (by omega)]
        (refine r_nil ?_; refine x_true rfl ?_; refine x_region ?_; refine r_op (o_move rfl rfl ?_); refine r_op (o_move rfl rfl ?_))
        (refine r_op ?_)
        refine o_call rfl (fail_spec b (fst' n i).2.1 n (by omega)) rfl ?_
        rintro v B ⟨rfl, rfl⟩
        (simp only [List.cons_append, List.nil_append])
        rw [hd]
        (refine r_nil ?_; refine x_seq (x_region ?_); refine r_op (o_move rfl rfl ?_); refine r_op (o_add rfl rfl (add_i64 (by omega)) rfl ?_))
        (refine r_op ?_)
        refine o_conv rfl rfl ?_
        rw [hcv]
        (refine r_op ?_)
        refine o_buildSlice rfl (by rfl) (by rfl) (by rfl) (by rfl) rfl (fun a2 => ?_)
        have R2 : Reads (Sl 1 a2 1 1 [.int .u8 ((UInt8.ofNat (97 + i)).toNat : Int)]) 1 a2 1 ([UInt8.ofNat (97 + i)].map bv) := Sl.reads 1 a2 1 1 [bv (UInt8.ofNat (97 + i))] rfl
        (refine r_op ?_)
        refine o_toStr (bs := [UInt8.ofNat (97 + i)]) rfl R2 rfl ?_
        (refine r_op (o_assign rfl rfl ?_); refine r_nil ?_; refine x_seq (x_region ?_); refine r_op (o_move rfl rfl ?_); refine r_op (o_move rfl rfl ?_))
        (refine r_op ?_)
        refine o_call rfl SP rfl ?_
        rintro v B ⟨rfl, rfl⟩
        (simp only [List.cons_append, List.nil_append])
        rcases hIi with hIi | ⟨hI1, hI2, hI3⟩
        · rw [hIi, if_pos rfl] at g3
          rw [hIi]
          (refine r_op (o_move rfl rfl ?_); refine r_op (o_extract rfl rfl rfl ?_); refine r_op (o_extract rfl rfl rfl ?_); refine r_op (o_assign rfl rfl ?_); refine r_op (o_assign rfl rfl ?_); refine r_nil ?_; refine x_seq ?_; refine x_seq (x_region ?_); refine r_op (o_move rfl rfl ?_))
          (refine r_op ?_)
          refine o_call rfl (num10_spec 0) rfl ?_
          rintro v B ⟨rfl, rfl⟩
          (simp only [List.nil_append])
          (refine r_op (o_eql_t rfl rfl (by omega) rfl ?_); refine r_nil ?_; refine x_true rfl ?_; refine x_seq (x_region ?_); refine r_op (o_move rfl rfl ?_); refine r_op (o_move rfl rfl ?_))
          (refine r_op ?_)
          refine o_buildSlice rfl (by rfl) (by rfl) (by rfl) (by rfl) rfl (fun a5 => ?_)
          (refine r_op ?_)
          refine o_appendT rfl rfl (by rfl) (by rfl) (by rfl) (by omega) rfl (fun a6 c6 hc6 => ?_)
          (refine r_op (o_assign rfl rfl ?_); refine r_nil ?_; refine x_exit rfl ?_; refine x_region ?_; refine r_op (o_move rfl rfl ?_); refine r_op (o_add rfl rfl (add_i64 (by omega)) rfl ?_); refine r_op (o_assign rfl rfl ?_); refine r_nil ?_)
          rw [show (fst' n i).2.2.length + 1 = (fst' n (i + 1)).2.2.length by rw [g3]; simp]
          refine x_mem (Γ' := ShelfI ps b (fst' n (i + 1)).1 :: DiskI b (fst' n (i + 1)).2.1 :: Sl 1 a6 (fst' n (i + 1)).2.2.length c6 ((fst' n (i + 1)).2.2.map tv) :: A :: Row b0 0 p.cells :: Γ) (by rw [g1, g2, g3, List.map_append, List.map_cons, List.map_nil]; exact Sub.h) ?_
          refine x_weak (back2 (i + 1, a6, c6) (by dsimp only; omega) (by dsimp only; omega)) (by (repeat' (first | exact trivial | refine ⟨rfl, ?_⟩))) Sub.h
        · rw [hI1, if_neg (by decide)] at g3
          rw [hI1]
          (refine r_op (o_move rfl rfl ?_); refine r_op (o_extract rfl rfl rfl ?_); refine r_op (o_extract rfl rfl rfl ?_); refine r_op (o_assign rfl rfl ?_); refine r_op (o_assign rfl rfl ?_); refine r_nil ?_; refine x_seq ?_; refine x_seq (x_region ?_); refine r_op (o_move rfl rfl ?_))
          (refine r_op ?_)
          refine o_call rfl (num10_spec 14) rfl ?_
          rintro v B ⟨rfl, rfl⟩
          (simp only [List.nil_append])
          (refine r_op (o_eql_f rfl rfl (by omega) rfl ?_); refine r_nil ?_; refine x_false rfl ?_; refine x_skip ?_; refine x_seq (x_region ?_); refine r_op (o_move rfl rfl ?_))
          (refine r_op ?_)
          refine o_call rfl (num10_spec 14) rfl ?_
          rintro v B ⟨rfl, rfl⟩
          (simp only [List.nil_append])
          (refine r_op (o_neq_f rfl rfl (by omega) rfl ?_); refine r_op (o_move rfl rfl ?_); refine r_guard rfl (o_move rfl rfl ?_))
          (refine r_guard rfl ?_)
          refine o_call rfl (failed_spec ps b r.1) rfl ?_
          rintro v B ⟨rfl, rfl⟩
          (simp only [List.cons_append, List.nil_append])
          rw [hI2]
          (refine r_guard rfl (o_not rfl rfl ?_); refine r_op (o_pick_f rfl rfl rfl ?_); refine r_op (o_move rfl rfl ?_); refine r_guard rfl (o_move rfl rfl ?_))
          (refine r_guard rfl ?_)
          refine o_call rfl (del_spec ps b r.1 r.2.1 0 (g2 ▸ f3') (by omega) (by omega) (by omega)) rfl ?_
          rintro v B ⟨rfl, rfl⟩
          rw [show r.1.del r.2.1 0 = (r.1, r.2.1, 14) by unfold Sh.del; rw [if_pos hI2]]
          (simp only [List.cons_append, List.nil_append])
          (refine r_guard rfl ?_)
          refine o_call rfl (num10_spec 14) rfl ?_
          rintro v B ⟨rfl, rfl⟩
          (simp only [List.nil_append])
          (refine r_guard rfl (o_neq_f rfl rfl (by omega) rfl ?_); refine r_op (o_pick_f rfl rfl rfl ?_); refine r_op (o_move rfl rfl ?_); refine r_guard rfl (o_move rfl rfl ?_))
          (refine r_guard rfl ?_)
          refine o_call rfl (texts_spec ps b r.1 (by omega)) rfl ?_
          rintro v B ⟨a5, c5, rfl, rfl⟩
          (simp only [List.cons_append, List.nil_append])
          rw [hI3]
          (refine r_guard rfl (o_move rfl rfl ?_))
          (refine r_guard rfl ?_)
          refine o_call rfl (eqStr_spec (Sl.reads 1 a5 _ c5 ((fst' n i).2.2.map tv) (by simp)) (Sl.reads 1 a _ c ((fst' n i).2.2.map tv) (by simp)) (by omega)) rfl ?_
          rintro v B ⟨rfl, rfl⟩
          rw [decide_eq_true rfl]
          (simp only [List.cons_append, List.nil_append])
          (refine r_guard rfl (o_not rfl rfl ?_); refine r_op (o_pick_f rfl rfl rfl ?_); refine r_nil ?_; refine x_false rfl ?_; refine x_skip ?_; refine x_inBlock ?_; refine x_region ?_; refine r_op (o_move rfl rfl ?_); refine r_op (o_add rfl rfl (add_i64 (by omega)) rfl ?_); refine r_op (o_assign rfl rfl ?_); refine r_nil ?_)
          rw [← g3]
          refine x_mem (Γ' := ShelfI ps b (fst' n (i + 1)).1 :: DiskI b (fst' n (i + 1)).2.1 :: Sl 1 a (fst' n (i + 1)).2.2.length c ((fst' n (i + 1)).2.2.map tv) :: A :: Row b0 0 p.cells :: Γ) (by rw [g1, g2]; exact Sub.h) ?_
          refine x_weak (back2 (i + 1, a, c) (by dsimp only; omega) (by dsimp only; omega)) (by (repeat' (first | exact trivial | refine ⟨rfl, ?_⟩))) Sub.h
      · have hd : (fst' n i).2.1 = fdk n i := by unfold fdk; rw [if_neg (by omega)]
        rw [hd]
        (refine r_nil ?_; refine x_false rfl ?_; refine x_skip ?_; refine x_seq (x_region ?_); refine r_op (o_move rfl rfl ?_); refine r_op (o_add rfl rfl (add_i64 (by omega)) rfl ?_))
        (refine r_op ?_)
        refine o_conv rfl rfl ?_
        rw [hcv]
        (refine r_op ?_)
        refine o_buildSlice rfl (by rfl) (by rfl) (by rfl) (by rfl) rfl (fun a2 => ?_)
        have R2 : Reads (Sl 1 a2 1 1 [.int .u8 ((UInt8.ofNat (97 + i)).toNat : Int)]) 1 a2 1 ([UInt8.ofNat (97 + i)].map bv) := Sl.reads 1 a2 1 1 [bv (UInt8.ofNat (97 + i))] rfl
        (refine r_op ?_)
        refine o_toStr (bs := [UInt8.ofNat (97 + i)]) rfl R2 rfl ?_
        (refine r_op (o_assign rfl rfl ?_); refine r_nil ?_; refine x_seq (x_region ?_); refine r_op (o_move rfl rfl ?_); refine r_op (o_move rfl rfl ?_))
        (refine r_op ?_)
        refine o_call rfl SP rfl ?_
        rintro v B ⟨rfl, rfl⟩
        (simp only [List.cons_append, List.nil_append])
        rcases hIi with hIi | ⟨hI1, hI2, hI3⟩
        · rw [hIi, if_pos rfl] at g3
          rw [hIi]
          (refine r_op (o_move rfl rfl ?_); refine r_op (o_extract rfl rfl rfl ?_); refine r_op (o_extract rfl rfl rfl ?_); refine r_op (o_assign rfl rfl ?_); refine r_op (o_assign rfl rfl ?_); refine r_nil ?_; refine x_seq ?_; refine x_seq (x_region ?_); refine r_op (o_move rfl rfl ?_))
          (refine r_op ?_)
          refine o_call rfl (num10_spec 0) rfl ?_
          rintro v B ⟨rfl, rfl⟩
          (simp only [List.nil_append])
          (refine r_op (o_eql_t rfl rfl (by omega) rfl ?_); refine r_nil ?_; refine x_true rfl ?_; refine x_seq (x_region ?_); refine r_op (o_move rfl rfl ?_); refine r_op (o_move rfl rfl ?_))
          (refine r_op ?_)
          refine o_buildSlice rfl (by rfl) (by rfl) (by rfl) (by rfl) rfl (fun a5 => ?_)
          (refine r_op ?_)
          refine o_appendT rfl rfl (by rfl) (by rfl) (by rfl) (by omega) rfl (fun a6 c6 hc6 => ?_)
          (refine r_op (o_assign rfl rfl ?_); refine r_nil ?_; refine x_exit rfl ?_; refine x_region ?_; refine r_op (o_move rfl rfl ?_); refine r_op (o_add rfl rfl (add_i64 (by omega)) rfl ?_); refine r_op (o_assign rfl rfl ?_); refine r_nil ?_)
          rw [show (fst' n i).2.2.length + 1 = (fst' n (i + 1)).2.2.length by rw [g3]; simp]
          refine x_mem (Γ' := ShelfI ps b (fst' n (i + 1)).1 :: DiskI b (fst' n (i + 1)).2.1 :: Sl 1 a6 (fst' n (i + 1)).2.2.length c6 ((fst' n (i + 1)).2.2.map tv) :: A :: Row b0 0 p.cells :: Γ) (by rw [g1, g2, g3, List.map_append, List.map_cons, List.map_nil]; exact Sub.h) ?_
          refine x_weak (back2 (i + 1, a6, c6) (by dsimp only; omega) (by dsimp only; omega)) (by (repeat' (first | exact trivial | refine ⟨rfl, ?_⟩))) Sub.h
        · rw [hI1, if_neg (by decide)] at g3
          rw [hI1]
          (refine r_op (o_move rfl rfl ?_); refine r_op (o_extract rfl rfl rfl ?_); refine r_op (o_extract rfl rfl rfl ?_); refine r_op (o_assign rfl rfl ?_); refine r_op (o_assign rfl rfl ?_); refine r_nil ?_; refine x_seq ?_; refine x_seq (x_region ?_); refine r_op (o_move rfl rfl ?_))
          (refine r_op ?_)
          refine o_call rfl (num10_spec 14) rfl ?_
          rintro v B ⟨rfl, rfl⟩
          (simp only [List.nil_append])
          (refine r_op (o_eql_f rfl rfl (by omega) rfl ?_); refine r_nil ?_; refine x_false rfl ?_; refine x_skip ?_; refine x_seq (x_region ?_); refine r_op (o_move rfl rfl ?_))
          (refine r_op ?_)
          refine o_call rfl (num10_spec 14) rfl ?_
          rintro v B ⟨rfl, rfl⟩
          (simp only [List.nil_append])
          (refine r_op (o_neq_f rfl rfl (by omega) rfl ?_); refine r_op (o_move rfl rfl ?_); refine r_guard rfl (o_move rfl rfl ?_))
          (refine r_guard rfl ?_)
          refine o_call rfl (failed_spec ps b r.1) rfl ?_
          rintro v B ⟨rfl, rfl⟩
          (simp only [List.cons_append, List.nil_append])
          rw [hI2]
          (refine r_guard rfl (o_not rfl rfl ?_); refine r_op (o_pick_f rfl rfl rfl ?_); refine r_op (o_move rfl rfl ?_); refine r_guard rfl (o_move rfl rfl ?_))
          (refine r_guard rfl ?_)
          refine o_call rfl (del_spec ps b r.1 r.2.1 0 (g2 ▸ f3') (by omega) (by omega) (by omega)) rfl ?_
          rintro v B ⟨rfl, rfl⟩
          rw [show r.1.del r.2.1 0 = (r.1, r.2.1, 14) by unfold Sh.del; rw [if_pos hI2]]
          (simp only [List.cons_append, List.nil_append])
          (refine r_guard rfl ?_)
          refine o_call rfl (num10_spec 14) rfl ?_
          rintro v B ⟨rfl, rfl⟩
          (simp only [List.nil_append])
          (refine r_guard rfl (o_neq_f rfl rfl (by omega) rfl ?_); refine r_op (o_pick_f rfl rfl rfl ?_); refine r_op (o_move rfl rfl ?_); refine r_guard rfl (o_move rfl rfl ?_))
          (refine r_guard rfl ?_)
          refine o_call rfl (texts_spec ps b r.1 (by omega)) rfl ?_
          rintro v B ⟨a5, c5, rfl, rfl⟩
          (simp only [List.cons_append, List.nil_append])
          rw [hI3]
          (refine r_guard rfl (o_move rfl rfl ?_))
          (refine r_guard rfl ?_)
          refine o_call rfl (eqStr_spec (Sl.reads 1 a5 _ c5 ((fst' n i).2.2.map tv) (by simp)) (Sl.reads 1 a _ c ((fst' n i).2.2.map tv) (by simp)) (by omega)) rfl ?_
          rintro v B ⟨rfl, rfl⟩
          rw [decide_eq_true rfl]
          (simp only [List.cons_append, List.nil_append])
          (refine r_guard rfl (o_not rfl rfl ?_); refine r_op (o_pick_f rfl rfl rfl ?_); refine r_nil ?_; refine x_false rfl ?_; refine x_skip ?_; refine x_inBlock ?_; refine x_region ?_; refine r_op (o_move rfl rfl ?_); refine r_op (o_add rfl rfl (add_i64 (by omega)) rfl ?_); refine r_op (o_assign rfl rfl ?_); refine r_nil ?_)
          rw [← g3]
          refine x_mem (Γ' := ShelfI ps b (fst' n (i + 1)).1 :: DiskI b (fst' n (i + 1)).2.1 :: Sl 1 a (fst' n (i + 1)).2.2.length c ((fst' n (i + 1)).2.2.map tv) :: A :: Row b0 0 p.cells :: Γ) (by rw [g1, g2]; exact Sub.h) ?_
          refine x_weak (back2 (i + 1, a, c) (by dsimp only; omega) (by dsimp only; omega)) (by (repeat' (first | exact trivial | refine ⟨rfl, ?_⟩))) Sub.h
    · obtain rfl : i = 4 := by omega
      unfold fokE at hE
      dsimp only at hE
      simp only [Bool.and_eq_true] at hE
      obtain ⟨⟨hE1, hE2⟩, hE3⟩ := hE
      have hcalm : Calm (keepAll (fst' n 4).2.1.fs []) := by
        unfold may at hE2
        simp only [Bool.and_eq_true, Bool.or_eq_true, beq_iff_eq, List.all_eq_true, decide_eq_true_eq] at hE2
        have h8 : (keepAll (fst' n 4).2.1.fs []).length = 8 := by rw [keepAll_len]; exact f3.1
        exact ⟨h8, hE2.2⟩
      have hfit := f3.fit (by decide)
      obtain ⟨d', s', hop, hbag, hs1⟩ : ∃ d' s', openD (newD (keepAll (fst' n 4).2.1.fs [])) 1 128 = (d', some s', 0) ∧ bagL (fst' n 4).2.2 s'.texts 1 = true ∧ s'.es.length ≤ 1000 := by
        generalize openD (newD (keepAll (fst' n 4).2.1.fs [])) 1 128 = r at hE3
        obtain ⟨d', o, e⟩ := r
        cases o with
        | none => cases hE3
        | some s' =>
          simp only [Bool.and_eq_true, decide_eq_true_eq] at hE3
          exact ⟨d', s', by rw [hE3.1.1], hE3.1.2, hE3.2⟩
      have SO := fun b' => open_spec b' (newD (keepAll (fst' n 4).2.1.fs [])) 1 128 hcalm.okn (by decide)
      rw [hop] at SO
      have hfl : (fst' n 4).1.failed = !decide ((fst' n 4).2.2.length = 4) := by
        revert hE1; cases (fst' n 4).1.failed <;> cases decide ((fst' n 4).2.2.length = 4) <;> decide
      have SF := failed_spec ps b (fst' n 4).1
      rw [hfl] at SF
      (refine r_nil ?_; refine x_false rfl ?_; refine x_exit rfl ?_; refine x_seq ?_; refine x_seq (x_region ?_); refine r_op (o_move rfl rfl ?_))
      (refine r_op ?_)
      refine o_call rfl SF rfl ?_
      rintro v B ⟨rfl, rfl⟩
      (simp only [List.cons_append, List.nil_append])
      by_cases h4 : (fst' n 4).2.2.length = 4
      · rw [decide_eq_true h4] at SF ⊢
        rw [show (!true) = false from rfl] at SF ⊢
        (refine r_op (o_not rfl rfl ?_); refine r_op (o_move rfl rfl ?_); refine r_guard rfl (o_move rfl rfl ?_); refine r_guard rfl (o_lenS rfl rfl ?_); refine r_guard rfl (o_neq_f rfl rfl (by omega) rfl ?_); refine r_op (o_pick_t rfl rfl rfl ?_); refine r_op (o_move rfl rfl ?_); refine r_guard rfl (o_move rfl rfl ?_))
        (refine r_guard rfl ?_)
        refine o_call rfl SF rfl ?_
        rintro v B ⟨rfl, rfl⟩
        (simp only [List.cons_append, List.nil_append])
        (refine r_guard rfl (o_move rfl rfl ?_); refine r_skip rfl rfl rfl ?_; refine r_skip rfl rfl rfl ?_; refine r_skip rfl rfl rfl ?_; refine r_guard rfl (o_pick_f rfl rfl rfl ?_); refine r_op (o_pick_f rfl rfl rfl ?_); refine r_nil ?_; refine x_false rfl ?_; refine x_skip ?_; refine x_seq (x_region ?_); refine r_op (o_move rfl rfl ?_))
        refine r_mem (Γ' := DiskI b (fst' n 4).2.1 :: Sl 1 none 0 0 ([] : List Value) :: Sl 1 a (fst' n 4).2.2.length c ((fst' n 4).2.2.map tv) :: A :: Row b0 0 p.cells :: Γ) ((Ent.nilSl 1 _).trans Sub.h) ?_
        skip
        (refine r_op ?_)
        refine o_call rfl (again2_spec (ps := []) (cap := 0) b hfit hcalm (Sl.reads 1 none 0 0 [] rfl) (by decide) (fun _ h => by cases h)) rfl ?_
        rintro v B ⟨b', rfl, rfl⟩
        (simp only [List.cons_append, List.nil_append])
        (refine r_op ?_)
        refine o_call rfl (SO b') rfl ?_
        rintro v B ⟨ps', rfl, rfl⟩
        (simp only [List.cons_append, List.nil_append])
        (refine r_op (o_move rfl rfl ?_); refine r_op (o_extract rfl rfl rfl ?_); refine r_op (o_extract rfl rfl rfl ?_); refine r_op (o_assign rfl rfl ?_); refine r_op (o_assign rfl rfl ?_); refine r_nil ?_; refine x_seq (x_region ?_); refine r_op (o_move rfl rfl ?_))
        (refine r_op ?_)
        refine o_call rfl (num10_spec 0) rfl ?_
        rintro v B ⟨rfl, rfl⟩
        (simp only [List.nil_append])
        (refine r_op (o_neq_f rfl rfl (by omega) rfl ?_); refine r_op (o_move rfl rfl ?_); refine r_guard rfl (o_move rfl rfl ?_))
        (refine r_guard rfl ?_)
        refine o_peq (.inl rfl) rfl rfl (.inr rfl) rfl ?_
        (refine r_op (o_pick_f rfl rfl rfl ?_); refine r_op (o_move rfl rfl ?_); refine r_guard rfl (o_move rfl rfl ?_); refine r_guard rfl (o_move rfl rfl ?_))
        (refine r_guard rfl ?_)
        refine o_call rfl (texts_spec ps' b' s' hs1) rfl ?_
        rintro v B ⟨a5, c5, rfl, rfl⟩
        (simp only [List.cons_append, List.nil_append])
        skip
        refine r_sl a5 fun _ hcap => ?_
        have htl : s'.texts.length ≤ 1000 := by
          unfold Sh.texts
          have := live_len s'.es 0
          rw [List.length_map]; omega
        (refine r_guard rfl ?_)
        refine o_call rfl (bag_spec 1 (Sl.reads 1 a _ c ((fst' n 4).2.2.map tv) (by simp)) (Sl.reads 1 a5 _ c5 (s'.texts.map tv) (by simp)) hcap (by omega) (by omega)) rfl ?_
        rintro v B ⟨rfl, rfl⟩
        rw [hbag]
        (simp only [List.cons_append, List.nil_append])
        (refine r_guard rfl (o_not rfl rfl ?_); refine r_op (o_pick_f rfl rfl rfl ?_); refine r_nil ?_; refine x_false rfl ?_; refine x_skip ?_; refine x_inBlock ?_; refine x_region ?_; refine r_op (o_move rfl rfl ?_); refine r_op (o_add rfl rfl (add_i64 (by omega)) rfl ?_); refine r_op (o_assign rfl rfl ?_); refine r_nil ?_)
        refine x_weak (back (n + 1) ⟨by omega, by omega⟩ (by omega)) (by (repeat' (first | exact trivial | refine ⟨rfl, ?_⟩))) Sub.h
      · rw [decide_eq_false h4] at SF ⊢
        rw [show (!false) = true from rfl] at SF ⊢
        (refine r_op (o_not rfl rfl ?_); refine r_op (o_move rfl rfl ?_); refine r_skip rfl rfl rfl ?_; refine r_skip rfl rfl rfl ?_; refine r_skip rfl rfl rfl ?_; refine r_op (o_pick_f rfl rfl rfl ?_); refine r_op (o_move rfl rfl ?_); refine r_guard rfl (o_move rfl rfl ?_))
        (refine r_guard rfl ?_)
        refine o_call rfl SF rfl ?_
        rintro v B ⟨rfl, rfl⟩
        (simp only [List.cons_append, List.nil_append])
        (refine r_guard rfl (o_move rfl rfl ?_); refine r_guard rfl (o_move rfl rfl ?_); refine r_guard rfl (o_lenS rfl rfl ?_); refine r_guard rfl (o_eql_f rfl rfl (by omega) rfl ?_); refine r_guard rfl (o_pick_t rfl rfl rfl ?_); refine r_op (o_pick_f rfl rfl rfl ?_); refine r_nil ?_; refine x_false rfl ?_; refine x_skip ?_; refine x_seq (x_region ?_); refine r_op (o_move rfl rfl ?_))
        refine r_mem (Γ' := DiskI b (fst' n 4).2.1 :: Sl 1 none 0 0 ([] : List Value) :: Sl 1 a (fst' n 4).2.2.length c ((fst' n 4).2.2.map tv) :: A :: Row b0 0 p.cells :: Γ) ((Ent.nilSl 1 _).trans Sub.h) ?_
        skip
        (refine r_op ?_)
        refine o_call rfl (again2_spec (ps := []) (cap := 0) b hfit hcalm (Sl.reads 1 none 0 0 [] rfl) (by decide) (fun _ h => by cases h)) rfl ?_
        rintro v B ⟨b', rfl, rfl⟩
        (simp only [List.cons_append, List.nil_append])
        (refine r_op ?_)
        refine o_call rfl (SO b') rfl ?_
        rintro v B ⟨ps', rfl, rfl⟩
        (simp only [List.cons_append, List.nil_append])
        (refine r_op (o_move rfl rfl ?_); refine r_op (o_extract rfl rfl rfl ?_); refine r_op (o_extract rfl rfl rfl ?_); refine r_op (o_assign rfl rfl ?_); refine r_op (o_assign rfl rfl ?_); refine r_nil ?_; refine x_seq (x_region ?_); refine r_op (o_move rfl rfl ?_))
        (refine r_op ?_)
        refine o_call rfl (num10_spec 0) rfl ?_
        rintro v B ⟨rfl, rfl⟩
        (simp only [List.nil_append])
        (refine r_op (o_neq_f rfl rfl (by omega) rfl ?_); refine r_op (o_move rfl rfl ?_); refine r_guard rfl (o_move rfl rfl ?_))
        (refine r_guard rfl ?_)
        refine o_peq (.inl rfl) rfl rfl (.inr rfl) rfl ?_
        (refine r_op (o_pick_f rfl rfl rfl ?_); refine r_op (o_move rfl rfl ?_); refine r_guard rfl (o_move rfl rfl ?_); refine r_guard rfl (o_move rfl rfl ?_))
        (refine r_guard rfl ?_)
        refine o_call rfl (texts_spec ps' b' s' hs1) rfl ?_
        rintro v B ⟨a5, c5, rfl, rfl⟩
        (simp only [List.cons_append, List.nil_append])
        skip
        refine r_sl a5 fun _ hcap => ?_
        have htl : s'.texts.length ≤ 1000 := by
          unfold Sh.texts
          have := live_len s'.es 0
          rw [List.length_map]; omega
        (refine r_guard rfl ?_)
        refine o_call rfl (bag_spec 1 (Sl.reads 1 a _ c ((fst' n 4).2.2.map tv) (by simp)) (Sl.reads 1 a5 _ c5 (s'.texts.map tv) (by simp)) hcap (by omega) (by omega)) rfl ?_
        rintro v B ⟨rfl, rfl⟩
        rw [hbag]
        (simp only [List.cons_append, List.nil_append])
        (refine r_guard rfl (o_not rfl rfl ?_); refine r_op (o_pick_f rfl rfl rfl ?_); refine r_nil ?_; refine x_false rfl ?_; refine x_skip ?_; refine x_inBlock ?_; refine x_region ?_; refine r_op (o_move rfl rfl ?_); refine r_op (o_add rfl rfl (add_i64 (by omega)) rfl ?_); refine r_op (o_assign rfl rfl ?_); refine r_nil ?_)
        refine x_weak (back (n + 1) ⟨by omega, by omega⟩ (by omega)) (by (repeat' (first | exact trivial | refine ⟨rfl, ?_⟩))) Sub.h
  · (refine r_nil ?_; refine x_false rfl ?_; refine x_exit rfl ?_; refine x_seq (x_region ?_); refine r_op (o_fieldAddr rfl rfl ?_); refine r_op (o_load rfl rfl rfl rfl ?_); refine r_op (o_lenS rfl rfl ?_); refine r_op (o_geq_t rfl rfl (by omega) rfl ?_); refine r_op (o_move rfl rfl ?_))
    (refine r_guard rfl ?_)
    refine o_call rfl wakes10_spec rfl ?_
    rintro v B ⟨rfl, rfl⟩
    (simp only [List.nil_append])
    (refine r_op (o_pick_t rfl rfl rfl ?_); refine r_op (o_assign rfl rfl ?_); refine r_nil ?_)
    exact x_ret rfl [A] ⟨rfl, rfl⟩ Sub.h
end Go.Proofs.Ythneebbmodkjiaa
