/- Part of a proof over the seat Ythneebbmodkjiaa: module D22. Its claim's last module says what is proved. -/
import Derived.Test.YthneebbmodkjiaaR8
import Derived.Test.YthneebbmodkjiaaD21
import Derived.Test.YthneebbmodkjiaaD23
namespace Go.Proofs.Ythneebbmodkjiaa
open Go.Proofs

theorem RdS.cellsV {l : List AV} {i : Nat} (h : i < l.length) {x : AV} (hx : l[i] = x) (j : Nat) (v : Value) (hv : x.cells[j]? = some v) : (l.flatMap AV.cells)[i * 6 + j]? = some v := by
  have hj : j < 6 := (List.getElem?_eq_some_iff.1 hv).1
  rw [RdS.cell (_A := Emp) (_a := none) h j hj, hx, hv]
theorem RdC.of_len {A : HP} {a : Option Addr} {q : List BS} (_R : RdC A a q) : True := trivial
theorem cw_le {q : List BS} {n : Nat} (h : cw q ≤ n) : q.length ≤ n ∧ ∀ x ∈ q, x.2.2.length ≤ n := by
  unfold cw at h
  exact ⟨by omega, fun x hx => by have := sum_mem (fun x : BS => x.2.2.length) hx; omega⟩
theorem aw_le {l : List AV} {n : Nat} (h : aw l ≤ n) : ∀ x ∈ l, x.b.2.2.length ≤ n ∧ x.ps.length ≤ n := fun x hx => by
  unfold aw at h
  have := sum_mem (fun x : AV => x.b.2.2.length + x.ps.length) hx
  omega
theorem Dk.okn.hs {n : Nat} {d : Dk} (h : d.okn n) (hn : n ≤ 2 ^ 20) : ∀ x ∈ d.fs, x.now.length ≤ 2 ^ 38 ∧ x.chg.length ≤ 2 ^ 38 := fun x hx => by
  obtain ⟨a, b, c, e⟩ := h.2 x hx
  have := Nat.mul_le_mul_right 131073 hn
  exact ⟨by omega, by omega⟩
theorem Dk.okn.rd {n : Nat} {d : Dk} (h : d.okn n) {N : Nat} (hN : 131072 ≤ N) : ∀ x ∈ d.fs, x.now.length ≤ N := fun x hx => Nat.le_trans (h.2 x hx).1 hN
set_option maxHeartbeats 8000000 in
theorem diskExact_spec {A : HP} {p : SV} (R : SV.Rd A p) (F : ∀ x ∈ p.l, x.Fit) (Z : p.Sz) : Spec Try.prog 7 [p.val] [A] (fun v B => v = .bool true ∧ B = [A]) := by
  refine Spec.of_ex Try.func7 rfl Try.ntmps7 rfl fun E cs Γ => ?_
  (simp only [argRho, List.cons_append, List.nil_append])
  (refine x_seq ?_); (refine x_region ?_)
  (refine r_op ?_)
  refine o_boxA (vs := p.cells) rfl rfl (fun px => ?_)
  (refine r_op (o_assign rfl rfl ?_); refine r_nil ?_; refine x_seq ?_; refine x_seq (x_region ?_))
  (refine r_op ?_)
  refine o_loadA (us := p.cells) rfl rfl rfl rfl rfl ?_
  (refine r_op ?_)
  refine o_call rfl (heavyN_spec R Z) rfl ?_
  rintro v B ⟨⟨hb, rfl, hbw⟩, rfl⟩
  (simp only [List.cons_append, List.nil_append])
  cases hb
  · obtain ⟨hw, hl200⟩ := hbw rfl
    obtain ⟨cf1, cf2⟩ := cw_le (q := p.f) (n := 8000) (by omega)
    have ca := aw_le (l := p.l) (n := 8000) (by omega)
    have lb := R.lb
    (refine r_nil ?_; refine x_false rfl ?_; refine x_skip ?_; refine x_seq (x_region ?_); refine r_op (o_fieldAddr rfl rfl ?_); refine r_op (o_load rfl rfl rfl rfl ?_))
    (refine r_op ?_)
    refine o_call rfl (copyCells_spec R.f (fun x hx => by have := cf2 x hx; omega) (by omega)) rfl ?_
    rintro v B ⟨a3, c3, q3, rfl, hq3, rfl⟩
    (simp only [List.cons_append, List.nil_append])
    have hq3l : q3.length = p.f.length := by have := congrArg List.length hq3; simpa [cont] using this
    (refine r_op ?_)
    refine o_call rfl (new_spec (cap := c3) (CellsX.rd a3 c3 q3) (by omega)) rfl ?_
    rw [hq3]
    rintro v B (⟨hm, b, rfl, rfl⟩ | ⟨hm, rfl, rfl⟩)
    · (simp only [List.cons_append, List.nil_append])
      (refine r_op (o_move rfl rfl ?_); refine r_op (o_extract rfl rfl rfl ?_); refine r_op (o_extract rfl rfl rfl ?_); refine r_op (o_assign rfl rfl ?_); refine r_op (o_assign rfl rfl ?_); refine r_nil ?_; refine x_seq ?_; refine x_seq (x_region ?_); refine r_op (o_fieldAddr rfl rfl ?_); refine r_op (o_load rfl rfl rfl rfl ?_))
      (refine r_op ?_)
      refine o_call rfl (refMay_spec R.f (by omega)) rfl ?_
      rintro v B ⟨rfl, rfl⟩
      (simp only [List.cons_append, List.nil_append])
      rw [hm]
      (refine r_op (o_move rfl rfl ?_))
      ((first | refine r_op ?_ | refine r_guard rfl ?_); refine o_call rfl (num9_spec _) rfl ?_; rintro v B ⟨rfl, rfl⟩; simp only [List.nil_append])
      (refine r_op (o_eql_t rfl rfl (by omega) rfl ?_))
      (refine r_op ?_)
      refine o_beq (.inr rfl) rfl rfl rfl ?_
      (refine r_op (o_move rfl rfl ?_); refine r_guard rfl (o_move rfl rfl ?_))
      ((first | refine r_op ?_ | refine r_guard rfl ?_); refine o_call rfl (num9_spec _) rfl ?_; rintro v B ⟨rfl, rfl⟩; simp only [List.nil_append])
      (refine r_guard rfl (o_neq_f rfl rfl (by omega) rfl ?_); refine r_guard rfl (o_move rfl rfl ?_); refine r_skip rfl rfl rfl ?_; refine r_skip rfl rfl rfl ?_; refine r_skip rfl rfl rfl ?_; refine r_guard rfl (o_pick_f rfl rfl rfl ?_); refine r_op (o_pick_f rfl rfl rfl ?_); refine r_op (o_move rfl rfl ?_); refine r_guard rfl (o_move rfl rfl ?_))
      (refine r_guard rfl ?_)
      refine o_peq (.inl rfl) rfl rfl (.inr rfl) rfl ?_
      (refine r_guard rfl (o_move rfl rfl ?_))
      ((first | refine r_op ?_ | refine r_guard rfl ?_); refine o_call rfl (num9_spec _) rfl ?_; rintro v B ⟨rfl, rfl⟩; simp only [List.nil_append])
      (refine r_guard rfl (o_neq_f rfl rfl (by omega) rfl ?_))
      (refine r_guard rfl ?_)
      refine o_beq (.inr rfl) rfl rfl rfl ?_
      (refine r_op (o_pick_f rfl rfl rfl ?_); refine r_nil ?_; refine x_false rfl ?_; refine x_skip ?_; refine x_seq ?_; refine x_seq (x_region ?_); refine r_op (o_move rfl rfl ?_))
      (refine r_op ?_)
      refine o_peq (.inl rfl) rfl rfl (.inr rfl) rfl ?_
      (refine r_nil ?_; refine x_false rfl ?_; refine x_skip ?_; refine x_seq (x_region ?_); refine r_op (o_fieldAddr rfl rfl ?_); refine r_op (o_load rfl rfl rfl rfl ?_))
      (refine r_op ?_)
      refine o_call rfl (new9_spec R.f hm) rfl ?_
      rintro v B ⟨b9, rfl, rfl⟩
      (simp only [List.cons_append, List.nil_append])
      (refine r_op (o_assign rfl rfl ?_); refine r_nil ?_; refine x_seq ?_; refine x_seq (x_region ?_); refine r_op (o_assign rfl rfl ?_); refine r_nil ?_)
      have ok0 : (newD (cont p.f)).okn 0 := okn_new _ hm
      refine x_cutK (α := Nat × Nat × Dk) (fun z => z.2.2.okn 40) (fun z => [(1, dp px), (3, dp z.1), (5, dp z.2.1)]) (fun z => DiskI z.1 z.2.2 :: DiskR z.2.1 z.2.2 :: Row px 0 p.cells :: A :: Γ) ?_ ?_
      · rintro ⟨b, b9, d⟩ hd
        dsimp only at hd ⊢
        have hfit := hd.fit (by decide)
        (refine x_seq ?_)
        (refine x_region ?_)
        (refine r_op (o_assign rfl rfl ?_); refine r_nil ?_)
        refine x_cut (α := Option Addr × Nat × List Int) (fun q => Reads A 1 q.1 q.2.2.length (q.2.2.map iv) ∧ q.2.2.length ≤ 2 ^ 63 - 1 ∧ ∀ z ∈ q.2.2, z ≤ 9223372036854775807)
          (fun q => [(21, .slice q.1 q.2.2.length q.2.1), (1, dp px), (3, dp b), (5, dp b9)]) (fun _ => DiskI b d :: DiskR b9 d :: Row px 0 p.cells :: A :: Γ) ?_ ?_
        · rintro ⟨a, c, ps⟩ ⟨Rp, hpl, hpm⟩
          dsimp only at Rp hpl hpm ⊢
          have hmay := hd.may ps
          obtain ⟨K, hK⟩ : ∃ K, keepAll d.fs ps = K := ⟨_, rfl⟩
          have S1 := crash_spec (cap := c) b d Rp hpl hpm hfit
          have S2 := crash9_spec (cap := c) b9 d Rp hpl hpm hfit
          rw [hK] at hmay S1 S2
          have hKl : K.length = 8 := by rw [← hK, keepAll_len8]; exact hd.1
          have hKs : ∀ y ∈ K, y.length ≤ 131072 := by
            have := hmay
            unfold may at this
            simp only [Bool.and_eq_true, List.all_eq_true, decide_eq_true_eq] at this
            exact this.2
          (refine x_seq (x_region ?_); refine r_op (o_move rfl rfl ?_); refine r_op (o_move rfl rfl ?_))
          (refine r_op ?_)
          refine o_call rfl S1 rfl ?_
          rintro v B ⟨a6, c6, q6, rfl, hq6, rfl⟩
          (simp only [List.cons_append, List.nil_append])
          (refine r_op (o_move rfl rfl ?_); refine r_op (o_move rfl rfl ?_))
          (refine r_op ?_)
          refine o_call rfl S2 rfl ?_
          rintro v B ⟨a7, c7, q7, rfl, hq7, rfl⟩
          (simp only [List.cons_append, List.nil_append])
          have hl6 : q6.length = 8 := by have := congrArg List.length hq6; simpa [cont, hKl] using this
          have hl7 : q7.length = 8 := by have := congrArg List.length hq7; simpa [cont, hKl] using this
          have hs6 : ∀ y ∈ q6, y.2.2.length ≤ 2 ^ 60 := fun y hy => Nat.le_trans (hKs _ (by rw [← hq6]; exact List.mem_map_of_mem hy)) (by decide)
          have hs7 : ∀ y ∈ q7, y.2.2.length ≤ 2 ^ 60 := fun y hy => Nat.le_trans (hKs _ (by rw [← hq7]; exact List.mem_map_of_mem hy)) (by decide)
          (refine r_op ?_)
          refine o_call rfl (eqCells_spec (CellsX.rd a6 c6 q6) (CellsX.rd a7 c7 q7) hs6 hs7 (by omega) (by omega)) rfl ?_
          rintro v B ⟨rfl, rfl⟩
          (simp only [List.cons_append, List.nil_append])
          rw [hq6, hq7, show decide (K = K) = true from decide_eq_true rfl]
          (refine r_op (o_move rfl rfl ?_))
          (refine r_guard rfl ?_)
          refine o_call rfl wakes_spec rfl ?_
          rintro v B ⟨rfl, rfl⟩
          (simp only [List.nil_append])
          (refine r_op (o_pick_t rfl rfl rfl ?_); refine r_op (o_assign rfl rfl ?_); refine r_nil ?_)
          exact x_ret rfl [A] ⟨rfl, rfl⟩ Sub.h
        · intro td back2
          by_cases h0 : p.l.length = 0
          · (refine x_seq (x_region ?_); refine r_op (o_fieldAddr rfl rfl ?_); refine r_op (o_load rfl rfl rfl rfl ?_); refine r_op (o_lenS rfl rfl ?_); refine r_op (o_gtr_f rfl rfl (by omega) rfl ?_); refine r_nil ?_; refine x_false rfl ?_; refine x_skip ?_)
            refine x_weak (back2 (none, 0, []) ⟨⟨rfl, fun _ _ _ _ => .inl rfl⟩, by decide, fun _ h => by cases h⟩) (by (repeat' (first | exact trivial | refine ⟨rfl, ?_⟩))) Sub.h
          · (refine x_seq (x_region ?_); refine r_op (o_fieldAddr rfl rfl ?_); refine r_op (o_load rfl rfl rfl rfl ?_); refine r_op (o_lenS rfl rfl ?_); refine r_op (o_gtr_t rfl rfl (by omega) rfl ?_); refine r_nil ?_; refine x_true rfl ?_; refine x_region ?_; refine r_op (o_fieldAddr rfl rfl ?_); refine r_op (o_load rfl rfl rfl rfl ?_))
            (refine r_op ?_)
            refine o_indexR rfl rfl R.l.1 (j := 0) rfl (by omega) rfl (fun b1 off ha => ?_)
            obtain ⟨x, hx⟩ : ∃ x, p.l[0]'(by omega) = x := ⟨_, rfl⟩
            have Fx : x.Fit := hx ▸ F _ (List.getElem_mem _)
            have Rx := R.l.2 _ (List.getElem_mem (show 0 < p.l.length by omega))
            have cx := ca _ (List.getElem_mem (show 0 < p.l.length by omega))
            rw [hx] at Rx cx
            (refine r_op (o_fieldAddr rfl rfl ?_))
            (refine r_op ?_)
            refine o_loadR rfl R.l.1 ha (i := 5) (by omega) (RdS.cellsV (show 0 < p.l.length by omega) hx 5 _ rfl) rfl ?_
            (refine r_op (o_assign rfl rfl ?_); refine r_nil ?_)
            refine x_weak (back2 (x.pa, x.pc, x.ps) ⟨Rx.2, by dsimp only; omega, fun z hz => (Fx.ps z hz).2⟩) (by (repeat' (first | exact trivial | refine ⟨rfl, ?_⟩))) Sub.h
      · intro td back0
        (refine x_block ?_)
        refine x_loop (α := Nat × Nat × Nat × Dk) (fun z => z.1 ≤ 40 ∧ z.1 ≤ p.l.length ∧ z.2.2.2.okn z.1) (fun z => [(1, dp px), (3, dp z.2.1), (5, dp z.2.2.1), (6, .int .i64 z.1)])
          (fun z => DiskI z.2.1 z.2.2.2 :: DiskR z.2.2.1 z.2.2.2 :: Row px 0 p.cells :: A :: Γ)
          (fun z => 40 - z.1) (0, b, b9, newD (cont p.f)) ⟨Nat.zero_le _, Nat.zero_le _, ok0⟩ ⟨rfl, rfl, rfl, rfl, trivial⟩ Sub.h ?_
        rintro ⟨i, b, b9, d⟩ ⟨hi, hi2, hok⟩ back
        dsimp only at hi hi2 hok back ⊢
        (refine x_seq ?_; refine x_seq (x_region ?_); refine r_op (o_move rfl rfl ?_); refine r_op (o_fieldAddr rfl rfl ?_); refine r_op (o_load rfl rfl rfl rfl ?_); refine r_op (o_lenS rfl rfl ?_))
        (refine r_op ?_)
        refine o_lss rfl rfl rfl (fun h1 => ?_) (fun h1 => ?_)
        · (refine r_op (o_move rfl rfl ?_); refine r_guard rfl (o_move rfl rfl ?_))
          (refine r_guard rfl ?_)
          refine o_lss rfl rfl rfl (fun h2 => ?_) (fun h2 => ?_)
          · have hi1 : i < p.l.length := by omega
            (refine r_op (o_pick_t rfl rfl rfl ?_); refine r_nil ?_; refine x_true rfl ?_; refine x_skip ?_; refine x_seq ?_; refine x_block ?_; refine x_seq (x_region ?_); refine r_op (o_fieldAddr rfl rfl ?_); refine r_op (o_load rfl rfl rfl rfl ?_); refine r_op (o_move rfl rfl ?_))
            (refine r_op ?_)
            refine o_indexR rfl rfl R.l.1 (j := i) rfl hi1 rfl (fun b1 off ha => ?_)
            obtain ⟨x, hx⟩ : ∃ x, p.l[i] = x := ⟨_, rfl⟩
            have Fx : x.Fit := hx ▸ F _ (List.getElem_mem hi1)
            have Rx := R.l.2 _ (List.getElem_mem hi1)
            have cx := ca _ (List.getElem_mem hi1)
            rw [hx] at Rx cx
            (refine r_op ?_)
            refine o_loadAR rfl R.l.1 ha (i := i * 6) (us := x.cells) (by omega) rfl (RdS.cellsV hi1 hx) rfl ?_
            (refine r_op ?_)
            refine o_alloc rfl (fun pa => ?_)
            (refine r_do ?_)
            refine o_storeA rfl rfl rfl rfl rfl (Nat.le_refl 6) ?_
            refine r_mem (Γ' := Row pa 0 x.cells :: DiskI b d :: DiskR b9 d :: Row px 0 p.cells :: A :: Γ) (Ent.row_eq rfl _) ?_
            have hsm := hok.small (show i ≤ 2 ^ 20 by omega)
            have hfit := hok.fit (show i ≤ 2 ^ 20 by omega)
            have hhs := hok.hs (show i ≤ 2 ^ 20 by omega)
            have okn' : ∀ {d' : Dk}, d'.okn i → d'.okn (i + 1) := fun h => h.mono (by omega)
            (refine r_nil ?_)
            (refine x_seq ?_)
            (refine x_region ?_)
            (refine r_op (o_assign rfl rfl ?_); refine r_op (o_assign rfl rfl ?_); refine r_nil ?_)
            refine x_cut (α := Nat × Nat × Dk × Int) (fun z => z.2.2.1.okn (i + 1)) (fun z => [(8, .int .i64 z.2.2.2), (9, .int .i64 z.2.2.2), (1, dp px), (3, dp z.1), (5, dp z.2.1), (6, .int .i64 i)])
              (fun z => DiskI z.1 z.2.2.1 :: DiskR z.2.1 z.2.2.1 :: Row px 0 p.cells :: A :: Γ) ?_ ?_
            · rintro ⟨b', b9', d', e⟩ hd'
              dsimp only at hd' ⊢
              (refine x_seq (x_region ?_); refine r_op (o_move rfl rfl ?_))
              ((first | refine r_op ?_ | refine r_guard rfl ?_); refine o_call rfl (num9_spec _) rfl ?_; rintro v B ⟨rfl, rfl⟩; simp only [List.nil_append])
              (refine r_op (o_move rfl rfl ?_); refine r_op (o_neq_f rfl rfl (by omega) rfl ?_); refine r_nil ?_; refine x_false rfl ?_; refine x_skip ?_; refine x_inBlock ?_; refine x_region ?_; refine r_op (o_move rfl rfl ?_); refine r_op (o_add rfl rfl (add_i64 (by omega)) rfl ?_); refine r_op (o_assign rfl rfl ?_); refine r_nil ?_)
              refine x_weak (back (i + 1, b', b9', d') ⟨by dsimp only; omega, by dsimp only; omega, hd'⟩ (by dsimp only; omega)) (by (repeat' (first | exact trivial | refine ⟨rfl, ?_⟩))) Sub.h
            · intro td back2
              (refine x_seq (x_region ?_); refine r_op (o_fieldAddr rfl rfl ?_); refine r_op (o_load rfl rfl rfl rfl ?_))
              (refine r_op ?_)
              refine o_call rfl (within_spec x.op 13 (by decide)) rfl ?_
              rintro v B ⟨⟨r, rfl, r0, r13, _⟩, rfl⟩
              (simp only [List.nil_append])
              have hr : r = 0 ∨ (r = 1 ∨ r = 2) ∨ (3 ≤ r ∧ r ≤ 6) ∨ r = 7 ∨ (r = 8 ∨ r = 9) ∨ r = 10 ∨ r = 11 ∨ r = 12 := by omega
              rcases hr with h | h | h | h | h | h | h | h
              · subst h
                (refine r_nil ?_; refine x_block ?_; refine x_seq (x_region ?_); refine r_op (o_eql_t rfl rfl (by omega) rfl ?_); refine r_op (o_assign rfl rfl ?_); refine r_nil ?_; refine x_true rfl ?_; refine x_seq (x_region ?_); refine r_op (o_move rfl rfl ?_); refine r_op (o_fieldAddr rfl rfl ?_); refine r_op (o_load rfl rfl rfl rfl ?_))
                (refine r_op ?_)
                refine o_call rfl (size_spec b d x.n) rfl ?_
                rintro v B ⟨rfl, rfl⟩
                (simp only [List.cons_append, List.nil_append])
                (refine r_op (o_move rfl rfl ?_); refine r_op (o_extract rfl rfl rfl ?_); refine r_op (o_extract rfl rfl rfl ?_); refine r_op (o_assign rfl rfl ?_); refine r_op (o_assign rfl rfl ?_); refine r_nil ?_; refine x_seq (x_region ?_); refine r_op (o_move rfl rfl ?_); refine r_op (o_fieldAddr rfl rfl ?_); refine r_op (o_load rfl rfl rfl rfl ?_))
                (refine r_op ?_)
                refine o_call rfl (size9_spec b9 d x.n) rfl ?_
                rintro v B ⟨rfl, rfl⟩
                (simp only [List.cons_append, List.nil_append])
                (refine r_op (o_move rfl rfl ?_); refine r_op (o_extract rfl rfl rfl ?_); refine r_op (o_extract rfl rfl rfl ?_); refine r_op (o_assign rfl rfl ?_); refine r_op (o_assign rfl rfl ?_); refine r_nil ?_; refine x_seq ?_; refine x_seq (x_region ?_); refine r_op (o_move rfl rfl ?_); refine r_op (o_move rfl rfl ?_); refine r_op (o_neq_f rfl rfl (by omega) rfl ?_); refine r_nil ?_; refine x_false rfl ?_; refine x_skip ?_; refine x_region ?_; refine r_op (o_move rfl rfl ?_); refine r_op (o_move rfl rfl ?_); refine r_op (o_assign rfl rfl ?_); refine r_op (o_assign rfl rfl ?_); refine r_nil ?_; refine x_inBlock ?_)
                refine x_weak (back2 (b, b9, d, (d.size x.n).2) (okn' hok)) (by (repeat' (first | exact trivial | refine ⟨rfl, ?_⟩))) Sub.h
              · obtain ⟨bs, e, hbe⟩ : ∃ bs e, d.read x.n x.at' x.k = (bs, e) := ⟨_, _, rfl⟩
                have S1 := read_spec b d x.n x.at' x.k (hok.rd (by decide))
                have S2 := read9_spec b9 d x.n x.at' x.k (hok.rd (by decide))
                have hbl : bs.length ≤ 131072 := by
                  have h9 := hok.rd (N := 131072) (Nat.le_refl _)
                  have h8 := file_now h9 x.n
                  have : bs = (d.read x.n x.at' x.k).1 := by rw [hbe]
                  rw [this]
                  unfold Dk.read
                  split
                  · simp
                  · split
                    · simp
                    · simp; omega
                rw [hbe] at S1 S2
                dsimp only at S1 S2
                rcases h with h | h <;> subst h
                all_goals
                  (repeat (first | (first | refine x_seq ?_ | refine x_region ?_ | refine r_nil ?_ | refine x_block ?_ | refine x_skip ?_ | refine x_inBlock ?_ | refine x_true rfl ?_ | refine x_false rfl ?_ | refine x_exit rfl ?_ | refine x_scope ?_ | refine x_inScope ?_ | refine x_label ?_ | refine r_skip rfl rfl rfl ?_ | refine r_skip' rfl rfl ?_) | ((first | refine r_op ?_ | refine r_do ?_ | refine r_guard rfl ?_); first | (first | refine o_move rfl rfl ?_ | refine o_assign rfl rfl ?_ | refine o_load rfl rfl rfl rfl ?_ | refine o_fieldAddr rfl rfl ?_ | refine o_nilCheck rfl rfl ?_ | refine o_lenS rfl rfl ?_ | refine o_lenStr rfl rfl ?_ | refine o_pick_t rfl rfl rfl ?_ | refine o_pick_f rfl rfl rfl ?_ | refine o_not rfl rfl ?_ | refine o_extract rfl rfl rfl ?_ | refine o_field rfl rfl rfl ?_) | (first | refine o_lss_t rfl rfl (by omega) rfl ?_ | refine o_lss_f rfl rfl (by omega) rfl ?_ | refine o_leq_t rfl rfl (by omega) rfl ?_ | refine o_leq_f rfl rfl (by omega) rfl ?_ | refine o_gtr_t rfl rfl (by omega) rfl ?_ | refine o_gtr_f rfl rfl (by omega) rfl ?_ | refine o_geq_t rfl rfl (by omega) rfl ?_ | refine o_geq_f rfl rfl (by omega) rfl ?_ | refine o_eql_t rfl rfl (by omega) rfl ?_ | refine o_eql_f rfl rfl (by omega) rfl ?_ | refine o_neq_t rfl rfl (by omega) rfl ?_ | refine o_neq_f rfl rfl (by omega) rfl ?_) | (first | refine o_add rfl rfl (add_i64 (by omega)) rfl ?_ | refine o_sub rfl rfl (sub_i64 (by omega)) rfl ?_ | refine o_max rfl rfl rfl ?_ | refine o_min rfl rfl rfl ?_) | (refine o_store rfl rfl rfl rfl (by simp) ?_; try dsimp only [Nat.reduceSub, Nat.reduceAdd, List.set]) | (first | refine o_loadI (i := 0) rfl (by omega) rfl rfl ?_ | refine o_loadI (i := 1) rfl (by omega) rfl rfl ?_ | refine o_loadI (i := 2) rfl (by omega) rfl rfl ?_) | ((first | refine o_storeI (i := 0) rfl rfl rfl (by omega) rfl ?_ | refine o_storeI (i := 1) rfl rfl rfl (by omega) rfl ?_ | refine o_storeI (i := 2) rfl rfl rfl (by omega) rfl ?_); try dsimp only [List.set]) | (first | refine o_mul rfl rfl (in_i64 (by omega)) rfl ?_ | refine o_rem rfl rfl (by omega) (by omega) rfl ?_ | refine o_quo rfl rfl (by omega) (by omega) (in_i64 (by omega)) rfl ?_))))
                  (refine r_op ?_)
                  refine o_call rfl S1 rfl ?_
                  rintro v B ⟨a5, c5, rfl, rfl⟩
                  (simp only [List.cons_append, List.nil_append])
                  (refine r_op (o_move rfl rfl ?_); refine r_op (o_extract rfl rfl rfl ?_); refine r_op (o_extract rfl rfl rfl ?_); refine r_op (o_assign rfl rfl ?_); refine r_op (o_assign rfl rfl ?_); refine r_nil ?_; refine x_seq (x_region ?_); refine r_op (o_move rfl rfl ?_); refine r_op (o_fieldAddr rfl rfl ?_); refine r_op (o_load rfl rfl rfl rfl ?_); refine r_op (o_fieldAddr rfl rfl ?_); refine r_op (o_load rfl rfl rfl rfl ?_); refine r_op (o_fieldAddr rfl rfl ?_); refine r_op (o_load rfl rfl rfl rfl ?_))
                  (refine r_op ?_)
                  refine o_call rfl S2 rfl ?_
                  rintro v B ⟨a6, c6, rfl, rfl⟩
                  (simp only [List.cons_append, List.nil_append])
                  have RB := Sl.reads 1 a5 bs.length c5 (bs.map bv) (by simp)
                  have RC := Sl.reads 1 a6 bs.length c6 (bs.map bv) (by simp)
                  (refine r_op (o_move rfl rfl ?_); refine r_op (o_extract rfl rfl rfl ?_); refine r_op (o_extract rfl rfl rfl ?_); refine r_op (o_assign rfl rfl ?_); refine r_op (o_assign rfl rfl ?_); refine r_nil ?_; refine x_seq ?_; refine x_seq (x_region ?_); refine r_op (o_move rfl rfl ?_); refine r_op (o_move rfl rfl ?_))
                  (refine r_op ?_)
                  refine o_call rfl (eqBytes_spec RB RC (by omega) (by omega)) rfl ?_
                  rintro v B ⟨rfl, rfl⟩
                  (simp only [List.cons_append, List.nil_append])
                  rw [show decide True = true from rfl, u8s_bv]
                  (refine r_op (o_not rfl rfl ?_); refine r_nil ?_; refine x_false rfl ?_; refine x_skip ?_; refine x_seq (x_region ?_); refine r_op (o_move rfl rfl ?_))
                  (refine r_op ?_)
                  refine o_call rfl (bytesSpoil_spec a5 bs.length c5 (bs.map fun z => (z.toNat : Int)) (by simp) (by omega)) rfl ?_
                  rintro v B ⟨rfl, rfl⟩
                  (simp only [List.nil_append])
                  (refine r_nil ?_; refine x_region ?_; refine r_op (o_move rfl rfl ?_); refine r_op (o_move rfl rfl ?_); refine r_op (o_assign rfl rfl ?_); refine r_op (o_assign rfl rfl ?_); refine r_nil ?_; refine x_inBlock ?_)
                  refine x_weak (back2 (b, b9, d, e) (okn' hok)) (by (repeat' (first | exact trivial | refine ⟨rfl, ?_⟩))) Sub.h
              · (refine r_nil ?_; refine x_block ?_; refine x_seq (x_region ?_); refine r_op (o_eql_f rfl rfl (by omega) rfl ?_); refine r_op (o_assign rfl rfl ?_); refine r_nil ?_; refine x_false rfl ?_; refine x_seq ?_; refine x_seq (x_region ?_); refine r_op (o_eql_f rfl rfl (by omega) rfl ?_); refine r_op (o_assign rfl rfl ?_); refine r_nil ?_; refine x_false rfl ?_; refine x_region ?_; refine r_op (o_eql_f rfl rfl (by omega) rfl ?_); refine r_op (o_assign rfl rfl ?_); refine r_nil ?_; refine x_false rfl ?_; refine x_seq (x_region ?_); refine r_op (o_eql_f rfl rfl (by omega) rfl ?_); refine r_op (o_assign rfl rfl ?_); refine r_nil ?_; refine x_false rfl ?_; refine x_seq ?_; refine x_seq (x_region ?_); refine r_op (o_eql_f rfl rfl (by omega) rfl ?_); refine r_op (o_assign rfl rfl ?_); refine r_nil ?_; refine x_false rfl ?_; refine x_region ?_; refine r_op (o_eql_f rfl rfl (by omega) rfl ?_); refine r_op (o_assign rfl rfl ?_); refine r_nil ?_; refine x_false rfl ?_; refine x_seq (x_region ?_); refine r_op (o_eql_f rfl rfl (by omega) rfl ?_); refine r_op (o_assign rfl rfl ?_); refine r_nil ?_; refine x_false rfl ?_; refine x_seq (x_region ?_); refine r_op (o_eql_f rfl rfl (by omega) rfl ?_); refine r_op (o_assign rfl rfl ?_); refine r_nil ?_; refine x_false rfl ?_; refine x_seq (x_region ?_); refine r_op (o_eql_f rfl rfl (by omega) rfl ?_); refine r_op (o_assign rfl rfl ?_); refine r_nil ?_; refine x_false rfl ?_; refine x_seq (x_region ?_); refine r_op (o_fieldAddr rfl rfl ?_); refine r_op (o_load rfl rfl rfl rfl ?_))
                (refine r_op ?_)
                refine o_call rfl (copyBytes_spec Rx.1 (by omega)) rfl ?_
                rintro v B ⟨a5, c5, rfl, rfl⟩
                (simp only [List.cons_append, List.nil_append])
                have okw := okn_write hok x.n x.at' x.b.2.2
                have RB := Sl.reads 1 a5 x.b.2.2.length c5 (x.b.2.2.map bv) (by simp)
                refine r_sl a5 fun _ hc5 => ?_
                (refine r_op (o_assign rfl rfl ?_); refine r_nil ?_; refine x_seq (x_region ?_); refine r_op (o_move rfl rfl ?_); refine r_op (o_fieldAddr rfl rfl ?_); refine r_op (o_load rfl rfl rfl rfl ?_); refine r_op (o_fieldAddr rfl rfl ?_); refine r_op (o_load rfl rfl rfl rfl ?_); refine r_op (o_move rfl rfl ?_))
                (refine r_op ?_)
                refine o_call rfl (write_spec b d x.n x.at' RB hc5 hsm) rfl ?_
                rintro v B ⟨rfl, rfl⟩
                (simp only [List.cons_append, List.nil_append])
                rw [u8s_bv]
                (refine r_op (o_assign rfl rfl ?_); refine r_nil ?_; refine x_seq (x_region ?_); refine r_op (o_move rfl rfl ?_))
                (refine r_op ?_)
                refine o_call rfl (bytesSpoil_spec a5 x.b.2.2.length c5 (x.b.2.2.map fun z => (z.toNat : Int)) (by simp) (by omega)) rfl ?_
                rintro v B ⟨rfl, rfl⟩
                (simp only [List.nil_append])
                (refine r_nil ?_; refine x_region ?_; refine r_op (o_move rfl rfl ?_); refine r_op (o_fieldAddr rfl rfl ?_); refine r_op (o_load rfl rfl rfl rfl ?_); refine r_op (o_fieldAddr rfl rfl ?_); refine r_op (o_load rfl rfl rfl rfl ?_); refine r_op (o_fieldAddr rfl rfl ?_); refine r_op (o_load rfl rfl rfl rfl ?_))
                (refine r_op ?_)
                refine o_call rfl (write9_spec b9 d x.n x.at' Rx.1 Fx.b.1 hhs) rfl ?_
                rintro v B ⟨rfl, rfl⟩
                (simp only [List.cons_append, List.nil_append])
                (refine r_op (o_assign rfl rfl ?_); refine r_nil ?_; refine x_inBlock ?_)
                refine x_weak (back2 (b, b9, (d.write x.n x.at' x.b.2.2).1, (d.write x.n x.at' x.b.2.2).2) okw) (by (repeat' (first | exact trivial | refine ⟨rfl, ?_⟩))) Sub.h
              · subst h
                have okc := okn_cut hok x.n x.k
                (refine r_nil ?_; refine x_block ?_; refine x_seq (x_region ?_); refine r_op (o_eql_f rfl rfl (by omega) rfl ?_); refine r_op (o_assign rfl rfl ?_); refine r_nil ?_; refine x_false rfl ?_; refine x_seq ?_; refine x_seq (x_region ?_); refine r_op (o_eql_f rfl rfl (by omega) rfl ?_); refine r_op (o_assign rfl rfl ?_); refine r_nil ?_; refine x_false rfl ?_; refine x_region ?_; refine r_op (o_eql_f rfl rfl (by omega) rfl ?_); refine r_op (o_assign rfl rfl ?_); refine r_nil ?_; refine x_false rfl ?_; refine x_seq (x_region ?_); refine r_op (o_eql_t rfl rfl (by omega) rfl ?_); refine r_op (o_assign rfl rfl ?_); refine r_nil ?_; refine x_true rfl ?_)
                refine x_weak (ρ' := [(1, dp px), (3, dp b), (5, dp b9), (6, .int .i64 i), (7, dp pa)]) (Γ' := Row pa 0 x.cells :: DiskI b d :: DiskR b9 d :: Row px 0 p.cells :: A :: Γ) ?_ (by (repeat' (first | exact trivial | refine ⟨rfl, ?_⟩))) (.refl _)
                refine x_script 14 [(0,false),(1,false),(2,false),(3,false),(4,false),(6,false),(7,false),(8,false),(9,false),(10,false),(5,true),(12,false),(11,true),(13,false)] [Row pa 0 x.cells] mixed (by kernel_rfl) permF ?_
                (refine s_v rfl (v_move rfl) ?_; refine s_v rfl (v_fieldAddr rfl) ?_; refine s_v rfl (v_load rfl rfl rfl) ?_; refine s_v rfl (v_fieldAddr rfl) ?_; refine s_v rfl (v_load rfl rfl rfl) ?_; refine s_v rfl (v_move rfl) ?_; refine s_v rfl (v_fieldAddr rfl) ?_; refine s_v rfl (v_load rfl rfl rfl) ?_; refine s_v rfl (v_fieldAddr rfl) ?_; refine s_v rfl (v_load rfl rfl rfl) ?_)
                refine s_x rfl (o_call rfl (cut_spec b d x.n x.k hsm) rfl ?_)
                rintro v B ⟨rfl, rfl⟩
                refine ⟨permF, ?_⟩
                (simp only [List.cons_append, List.nil_append])
                (refine s_v rfl (v_assign rfl) ?_)
                refine s_x rfl (o_call rfl (cut9_spec b9 d x.n x.k hsm) rfl ?_)
                rintro v B ⟨rfl, rfl⟩
                refine ⟨permF, ?_⟩
                (simp only [List.cons_append, List.nil_append])
                (refine s_v rfl (v_assign rfl) ?_)
                refine s_end rfl ?_
                (refine x_inBlock ?_)
                refine x_weak (back2 (b, b9, (d.cut x.n x.k).1, (d.cut x.n x.k).2) okc) (by (repeat' (first | exact trivial | refine ⟨rfl, ?_⟩))) Sub.h
              · have oks := okn_sync hok x.n
                rcases h with h | h <;> subst h
                · (refine r_nil ?_; refine x_block ?_; refine x_seq (x_region ?_); refine r_op (o_eql_f rfl rfl (by omega) rfl ?_); refine r_op (o_assign rfl rfl ?_); refine r_nil ?_; refine x_false rfl ?_; refine x_seq ?_; refine x_seq (x_region ?_); refine r_op (o_eql_f rfl rfl (by omega) rfl ?_); refine r_op (o_assign rfl rfl ?_); refine r_nil ?_; refine x_false rfl ?_; refine x_region ?_; refine r_op (o_eql_f rfl rfl (by omega) rfl ?_); refine r_op (o_assign rfl rfl ?_); refine r_nil ?_; refine x_false rfl ?_; refine x_seq (x_region ?_); refine r_op (o_eql_f rfl rfl (by omega) rfl ?_); refine r_op (o_assign rfl rfl ?_); refine r_nil ?_; refine x_false rfl ?_; refine x_seq ?_; refine x_seq (x_region ?_); refine r_op (o_eql_t rfl rfl (by omega) rfl ?_); refine r_op (o_assign rfl rfl ?_); refine r_nil ?_; refine x_true rfl ?_; refine x_skip ?_; refine x_true rfl ?_)
                  refine x_weak (ρ' := [(1, dp px), (3, dp b), (5, dp b9), (6, .int .i64 i), (7, dp pa)]) (Γ' := Row pa 0 x.cells :: DiskI b d :: DiskR b9 d :: Row px 0 p.cells :: A :: Γ) ?_ (by (repeat' (first | exact trivial | refine ⟨rfl, ?_⟩))) (.refl _)
                  refine x_script 10 [(0,false),(1,false),(2,false),(4,false),(5,false),(6,false),(3,true),(8,false),(7,true),(9,false)] [Row pa 0 x.cells] mixed (by kernel_rfl) permF ?_
                  (refine s_v rfl (v_move rfl) ?_; refine s_v rfl (v_fieldAddr rfl) ?_; refine s_v rfl (v_load rfl rfl rfl) ?_; refine s_v rfl (v_move rfl) ?_; refine s_v rfl (v_fieldAddr rfl) ?_; refine s_v rfl (v_load rfl rfl rfl) ?_)
                  refine s_x rfl (o_call rfl (sync_spec b d x.n hsm) rfl ?_)
                  rintro v B ⟨rfl, rfl⟩
                  refine ⟨permF, ?_⟩
                  (simp only [List.cons_append, List.nil_append])
                  (refine s_v rfl (v_assign rfl) ?_)
                  refine s_x rfl (o_call rfl (sync9_spec b9 d x.n hsm) rfl ?_)
                  rintro v B ⟨rfl, rfl⟩
                  refine ⟨permF, ?_⟩
                  (simp only [List.cons_append, List.nil_append])
                  (refine s_v rfl (v_assign rfl) ?_)
                  refine s_end rfl ?_
                  (refine x_inBlock ?_)
                  refine x_weak (back2 (b, b9, (d.sync x.n).1, (d.sync x.n).2) oks) (by (repeat' (first | exact trivial | refine ⟨rfl, ?_⟩))) Sub.h
                · (refine r_nil ?_; refine x_block ?_; refine x_seq (x_region ?_); refine r_op (o_eql_f rfl rfl (by omega) rfl ?_); refine r_op (o_assign rfl rfl ?_); refine r_nil ?_; refine x_false rfl ?_; refine x_seq ?_; refine x_seq (x_region ?_); refine r_op (o_eql_f rfl rfl (by omega) rfl ?_); refine r_op (o_assign rfl rfl ?_); refine r_nil ?_; refine x_false rfl ?_; refine x_region ?_; refine r_op (o_eql_f rfl rfl (by omega) rfl ?_); refine r_op (o_assign rfl rfl ?_); refine r_nil ?_; refine x_false rfl ?_; refine x_seq (x_region ?_); refine r_op (o_eql_f rfl rfl (by omega) rfl ?_); refine r_op (o_assign rfl rfl ?_); refine r_nil ?_; refine x_false rfl ?_; refine x_seq ?_; refine x_seq (x_region ?_); refine r_op (o_eql_f rfl rfl (by omega) rfl ?_); refine r_op (o_assign rfl rfl ?_); refine r_nil ?_; refine x_false rfl ?_; refine x_region ?_; refine r_op (o_eql_t rfl rfl (by omega) rfl ?_); refine r_op (o_assign rfl rfl ?_); refine r_nil ?_; refine x_true rfl ?_)
                  refine x_weak (ρ' := [(1, dp px), (3, dp b), (5, dp b9), (6, .int .i64 i), (7, dp pa)]) (Γ' := Row pa 0 x.cells :: DiskI b d :: DiskR b9 d :: Row px 0 p.cells :: A :: Γ) ?_ (by (repeat' (first | exact trivial | refine ⟨rfl, ?_⟩))) (.refl _)
                  refine x_script 10 [(0,false),(1,false),(2,false),(4,false),(5,false),(6,false),(3,true),(8,false),(7,true),(9,false)] [Row pa 0 x.cells] mixed (by kernel_rfl) permF ?_
                  (refine s_v rfl (v_move rfl) ?_; refine s_v rfl (v_fieldAddr rfl) ?_; refine s_v rfl (v_load rfl rfl rfl) ?_; refine s_v rfl (v_move rfl) ?_; refine s_v rfl (v_fieldAddr rfl) ?_; refine s_v rfl (v_load rfl rfl rfl) ?_)
                  refine s_x rfl (o_call rfl (sync_spec b d x.n hsm) rfl ?_)
                  rintro v B ⟨rfl, rfl⟩
                  refine ⟨permF, ?_⟩
                  (simp only [List.cons_append, List.nil_append])
                  (refine s_v rfl (v_assign rfl) ?_)
                  refine s_x rfl (o_call rfl (sync9_spec b9 d x.n hsm) rfl ?_)
                  rintro v B ⟨rfl, rfl⟩
                  refine ⟨permF, ?_⟩
                  (simp only [List.cons_append, List.nil_append])
                  (refine s_v rfl (v_assign rfl) ?_)
                  refine s_end rfl ?_
                  (refine x_inBlock ?_)
                  refine x_weak (back2 (b, b9, (d.sync x.n).1, (d.sync x.n).2) oks) (by (repeat' (first | exact trivial | refine ⟨rfl, ?_⟩))) Sub.h
              · subst h
                (refine r_nil ?_; refine x_block ?_; refine x_seq (x_region ?_); refine r_op (o_eql_f rfl rfl (by omega) rfl ?_); refine r_op (o_assign rfl rfl ?_); refine r_nil ?_; refine x_false rfl ?_; refine x_seq ?_; refine x_seq (x_region ?_); refine r_op (o_eql_f rfl rfl (by omega) rfl ?_); refine r_op (o_assign rfl rfl ?_); refine r_nil ?_; refine x_false rfl ?_; refine x_region ?_; refine r_op (o_eql_f rfl rfl (by omega) rfl ?_); refine r_op (o_assign rfl rfl ?_); refine r_nil ?_; refine x_false rfl ?_; refine x_seq (x_region ?_); refine r_op (o_eql_f rfl rfl (by omega) rfl ?_); refine r_op (o_assign rfl rfl ?_); refine r_nil ?_; refine x_false rfl ?_; refine x_seq ?_; refine x_seq (x_region ?_); refine r_op (o_eql_f rfl rfl (by omega) rfl ?_); refine r_op (o_assign rfl rfl ?_); refine r_nil ?_; refine x_false rfl ?_; refine x_region ?_; refine r_op (o_eql_f rfl rfl (by omega) rfl ?_); refine r_op (o_assign rfl rfl ?_); refine r_nil ?_; refine x_false rfl ?_; refine x_seq (x_region ?_); refine r_op (o_eql_t rfl rfl (by omega) rfl ?_); refine r_op (o_assign rfl rfl ?_); refine r_nil ?_; refine x_true rfl ?_; refine x_seq (x_region ?_); refine r_op (o_move rfl rfl ?_); refine r_op (o_fieldAddr rfl rfl ?_); refine r_op (o_load rfl rfl rfl rfl ?_))
                (refine r_op ?_)
                refine o_call rfl (off_spec b d x.n (by have := Fx.n; omega)) rfl ?_
                rintro v B ⟨rfl, rfl⟩
                (simp only [List.cons_append, List.nil_append])
                (refine r_nil ?_; refine x_region ?_; refine r_op (o_move rfl rfl ?_); refine r_op (o_fieldAddr rfl rfl ?_); refine r_op (o_load rfl rfl rfl rfl ?_))
                (refine r_op ?_)
                refine o_call rfl (arm9_spec b9 d x.n (by have := Fx.n; omega)) rfl ?_
                rintro v B ⟨rfl, rfl⟩
                (simp only [List.cons_append, List.nil_append])
                (refine r_nil ?_; refine x_inBlock ?_)
                refine x_weak (back2 (b, b9, d.power x.n, 0) (okn' (hok.fs _ rfl))) (by (repeat' (first | exact trivial | refine ⟨rfl, ?_⟩))) Sub.h
              · subst h
                (refine r_nil ?_; refine x_block ?_; refine x_seq (x_region ?_); refine r_op (o_eql_f rfl rfl (by omega) rfl ?_); refine r_op (o_assign rfl rfl ?_); refine r_nil ?_; refine x_false rfl ?_; refine x_seq ?_; refine x_seq (x_region ?_); refine r_op (o_eql_f rfl rfl (by omega) rfl ?_); refine r_op (o_assign rfl rfl ?_); refine r_nil ?_; refine x_false rfl ?_; refine x_region ?_; refine r_op (o_eql_f rfl rfl (by omega) rfl ?_); refine r_op (o_assign rfl rfl ?_); refine r_nil ?_; refine x_false rfl ?_; refine x_seq (x_region ?_); refine r_op (o_eql_f rfl rfl (by omega) rfl ?_); refine r_op (o_assign rfl rfl ?_); refine r_nil ?_; refine x_false rfl ?_; refine x_seq ?_; refine x_seq (x_region ?_); refine r_op (o_eql_f rfl rfl (by omega) rfl ?_); refine r_op (o_assign rfl rfl ?_); refine r_nil ?_; refine x_false rfl ?_; refine x_region ?_; refine r_op (o_eql_f rfl rfl (by omega) rfl ?_); refine r_op (o_assign rfl rfl ?_); refine r_nil ?_; refine x_false rfl ?_; refine x_seq (x_region ?_); refine r_op (o_eql_f rfl rfl (by omega) rfl ?_); refine r_op (o_assign rfl rfl ?_); refine r_nil ?_; refine x_false rfl ?_; refine x_seq (x_region ?_); refine r_op (o_eql_t rfl rfl (by omega) rfl ?_); refine r_op (o_assign rfl rfl ?_); refine r_nil ?_; refine x_true rfl ?_; refine x_seq (x_region ?_); refine r_op (o_move rfl rfl ?_); refine r_op (o_fieldAddr rfl rfl ?_); refine r_op (o_load rfl rfl rfl rfl ?_))
                (refine r_op ?_)
                refine o_call rfl (fail_spec b d x.n (by have := Fx.n; omega)) rfl ?_
                rintro v B ⟨rfl, rfl⟩
                (simp only [List.cons_append, List.nil_append])
                (refine r_nil ?_; refine x_region ?_; refine r_op (o_move rfl rfl ?_); refine r_op (o_fieldAddr rfl rfl ?_); refine r_op (o_load rfl rfl rfl rfl ?_))
                (refine r_op ?_)
                refine o_call rfl (fail9_spec b9 d x.n (by have := Fx.n; omega)) rfl ?_
                rintro v B ⟨rfl, rfl⟩
                (simp only [List.cons_append, List.nil_append])
                (refine r_nil ?_; refine x_inBlock ?_)
                refine x_weak (back2 (b, b9, d.hurt x.n, 0) (okn' (hok.fs _ rfl))) (by (repeat' (first | exact trivial | refine ⟨rfl, ?_⟩))) Sub.h
              · subst h
                (refine r_nil ?_; refine x_block ?_; refine x_seq (x_region ?_); refine r_op (o_eql_f rfl rfl (by omega) rfl ?_); refine r_op (o_assign rfl rfl ?_); refine r_nil ?_; refine x_false rfl ?_; refine x_seq ?_; refine x_seq (x_region ?_); refine r_op (o_eql_f rfl rfl (by omega) rfl ?_); refine r_op (o_assign rfl rfl ?_); refine r_nil ?_; refine x_false rfl ?_; refine x_region ?_; refine r_op (o_eql_f rfl rfl (by omega) rfl ?_); refine r_op (o_assign rfl rfl ?_); refine r_nil ?_; refine x_false rfl ?_; refine x_seq (x_region ?_); refine r_op (o_eql_f rfl rfl (by omega) rfl ?_); refine r_op (o_assign rfl rfl ?_); refine r_nil ?_; refine x_false rfl ?_; refine x_seq ?_; refine x_seq (x_region ?_); refine r_op (o_eql_f rfl rfl (by omega) rfl ?_); refine r_op (o_assign rfl rfl ?_); refine r_nil ?_; refine x_false rfl ?_; refine x_region ?_; refine r_op (o_eql_f rfl rfl (by omega) rfl ?_); refine r_op (o_assign rfl rfl ?_); refine r_nil ?_; refine x_false rfl ?_; refine x_seq (x_region ?_); refine r_op (o_eql_f rfl rfl (by omega) rfl ?_); refine r_op (o_assign rfl rfl ?_); refine r_nil ?_; refine x_false rfl ?_; refine x_seq (x_region ?_); refine r_op (o_eql_f rfl rfl (by omega) rfl ?_); refine r_op (o_assign rfl rfl ?_); refine r_nil ?_; refine x_false rfl ?_; refine x_seq (x_region ?_); refine r_op (o_eql_t rfl rfl (by omega) rfl ?_); refine r_op (o_assign rfl rfl ?_); refine r_nil ?_; refine x_true rfl ?_; refine x_seq (x_region ?_); refine r_op (o_move rfl rfl ?_); refine r_op (o_fieldAddr rfl rfl ?_); refine r_op (o_load rfl rfl rfl rfl ?_))
                (refine r_op ?_)
                refine o_call rfl (copyNumbers_spec Rx.2 (by omega)) rfl ?_
                rintro v B ⟨a5, c5, rfl, rfl⟩
                (simp only [List.cons_append, List.nil_append])
                have RB := Sl.reads 1 a5 x.ps.length c5 (x.ps.map iv) (by simp)
                have hpsm : ∀ z ∈ x.ps, z ≤ 9223372036854775807 := fun z hz => (Fx.ps z hz).2
                have hpl : x.ps.length ≤ 2 ^ 63 - 1 := by omega
                skip
                (refine r_op ?_)
                refine o_call rfl (crash_spec (cap := c5) b d RB hpl hpsm hfit) rfl ?_
                rintro v B ⟨a6, c6, q6, rfl, hq6, rfl⟩
                (simp only [List.cons_append, List.nil_append])
                (refine r_op (o_assign rfl rfl ?_); refine r_nil ?_; refine x_seq (x_region ?_); refine r_op (o_move rfl rfl ?_); refine r_op (o_fieldAddr rfl rfl ?_); refine r_op (o_load rfl rfl rfl rfl ?_))
                (refine r_op ?_)
                refine o_call rfl (crash9_spec b9 d Rx.2 hpl hpsm hfit) rfl ?_
                rintro v B ⟨a7, c7, q7, rfl, hq7, rfl⟩
                (simp only [List.cons_append, List.nil_append])
                have hmay := hok.may x.ps
                obtain ⟨K, hK⟩ : ∃ K, keepAll d.fs x.ps = K := ⟨_, rfl⟩
                rw [hK] at hq6 hq7 hmay
                have hKl : K.length = 8 := by rw [← hK, keepAll_len8]; exact hok.1
                have hKs : ∀ y ∈ K, y.length ≤ 131072 := by
                  have := hmay
                  unfold may at this
                  simp only [Bool.and_eq_true, List.all_eq_true, decide_eq_true_eq] at this
                  exact this.2
                have hl6 : q6.length = 8 := by have := congrArg List.length hq6; simpa [cont, hKl] using this
                have hl7 : q7.length = 8 := by have := congrArg List.length hq7; simpa [cont, hKl] using this
                have hs6 : ∀ y ∈ q6, y.2.2.length ≤ 131072 := fun y hy => hKs _ (by rw [← hq6]; exact List.mem_map_of_mem hy)
                have hs7 : ∀ y ∈ q7, y.2.2.length ≤ 131072 := fun y hy => hKs _ (by rw [← hq7]; exact List.mem_map_of_mem hy)
                have b60 : ∀ {q : List BS}, (∀ y ∈ q, y.2.2.length ≤ 131072) → ∀ y ∈ q, y.2.2.length ≤ 2 ^ 60 := fun h y hy => Nat.le_trans (h y hy) (by decide)
                have b45 : ∀ {q : List BS}, (∀ y ∈ q, y.2.2.length ≤ 131072) → ∀ y ∈ q, y.2.2.length ≤ 2 ^ 45 := fun h y hy => Nat.le_trans (h y hy) (by decide)
                have R6 := CellsX.rd a6 c6 q6
                have R7 := CellsX.rd a7 c7 q7
                (refine r_op (o_assign rfl rfl ?_); refine r_nil ?_; refine x_seq ?_; refine x_seq (x_region ?_); refine r_op (o_move rfl rfl ?_); refine r_op (o_move rfl rfl ?_))
                (refine r_op ?_)
                refine o_call rfl (eqCells_spec R6 R7 (b60 hs6) (b60 hs7) (by omega) (by omega)) rfl ?_
                rintro v B ⟨rfl, rfl⟩
                (simp only [List.cons_append, List.nil_append])
                rw [hq6, hq7, show decide (K = K) = true from decide_eq_true rfl]
                (refine r_op (o_not rfl rfl ?_); refine r_op (o_move rfl rfl ?_); refine r_guard rfl (o_move rfl rfl ?_); refine r_guard rfl (o_fieldAddr rfl rfl ?_); refine r_guard rfl (o_load rfl rfl rfl rfl ?_))
                (refine r_guard rfl ?_)
                refine o_call rfl (crash_spec (cap := x.pc) b d.crash Rx.2 hpl hpsm hfit) rfl ?_
                rintro v B ⟨a8, c8, q8, rfl, hq8, rfl⟩
                (simp only [List.cons_append, List.nil_append])
                rw [show d.crash.fs = d.fs from rfl, hK] at hq8
                have hl8 : q8.length = 8 := by have := congrArg List.length hq8; simpa [cont, hKl] using this
                have hs8 : ∀ y ∈ q8, y.2.2.length ≤ 131072 := fun y hy => hKs _ (by rw [← hq8]; exact List.mem_map_of_mem hy)
                have R8 := CellsX.rd a8 c8 q8
                (refine r_guard rfl (o_move rfl rfl ?_))
                (refine r_guard rfl ?_)
                refine o_call rfl (eqCells_spec R8 R7 (b60 hs8) (b60 hs7) (by omega) (by omega)) rfl ?_
                rintro v B ⟨rfl, rfl⟩
                (simp only [List.cons_append, List.nil_append])
                rw [hq8, hq7, show decide (K = K) = true from decide_eq_true rfl]
                (refine r_guard rfl (o_not rfl rfl ?_); refine r_op (o_pick_f rfl rfl rfl ?_); refine r_nil ?_; refine x_false rfl ?_; refine x_skip ?_; refine x_seq (x_region ?_); refine r_op (o_move rfl rfl ?_))
                (refine r_op ?_)
                refine o_call rfl (new_spec (cap := c6) R6 (by omega)) rfl ?_
                rw [hq6]
                rintro v B (⟨_, b', rfl, rfl⟩ | ⟨hbad, _⟩)
                · (simp only [List.cons_append, List.nil_append])
                  (refine r_op (o_move rfl rfl ?_); refine r_op (o_extract rfl rfl rfl ?_); refine r_op (o_extract rfl rfl rfl ?_); refine r_op (o_assign rfl rfl ?_); refine r_op (o_assign rfl rfl ?_); refine r_nil ?_; refine x_seq (x_region ?_); refine r_op (o_move rfl rfl ?_))
                  (refine r_op ?_)
                  refine o_call rfl (cellsSpoil_spec a6 c6 q6 (b45 hs6) (by omega)) rfl ?_
                  rintro v B ⟨rfl, rfl⟩
                  (simp only [List.nil_append])
                  (refine r_nil ?_; refine x_seq (x_region ?_); refine r_op (o_move rfl rfl ?_))
                  (refine r_op ?_)
                  refine o_call rfl (new9_spec (cap := c7) R7 (by rw [hq7]; exact hmay)) rfl ?_
                  rw [hq7]
                  rintro v B ⟨b9', rfl, rfl⟩
                  (simp only [List.cons_append, List.nil_append])
                  (refine r_op (o_assign rfl rfl ?_); refine r_nil ?_; refine x_seq (x_region ?_); refine r_op (o_move rfl rfl ?_))
                  (refine r_op ?_)
                  refine o_peq (.inl rfl) rfl rfl (.inr rfl) rfl ?_
                  (refine r_nil ?_; refine x_false rfl ?_; refine x_skip ?_; refine x_inBlock ?_)
                  refine x_weak (back2 (b', b9', newD K, 0) ((okn_new K hmay).mono (by omega))) (by (repeat' (first | exact trivial | refine ⟨rfl, ?_⟩))) Sub.h
                · rw [hmay] at hbad; cases hbad
          · obtain rfl : i = 40 := by omega
            (refine r_op (o_pick_t rfl rfl rfl ?_); refine r_nil ?_; refine x_false rfl ?_; refine x_exit rfl ?_)
            refine x_weak (back0 (b, b9, d) hok) (by (repeat' (first | exact trivial | refine ⟨rfl, ?_⟩))) Sub.h
        · (refine r_op (o_move rfl rfl ?_); refine r_skip rfl rfl rfl ?_; refine r_skip rfl rfl rfl ?_; refine r_op (o_pick_f rfl rfl rfl ?_); refine r_nil ?_; refine x_false rfl ?_; refine x_exit rfl ?_)
          refine x_weak (back0 (b, b9, d) (hok.mono (by omega))) (by (repeat' (first | exact trivial | refine ⟨rfl, ?_⟩))) Sub.h
    · (simp only [List.cons_append, List.nil_append])
      (refine r_op (o_move rfl rfl ?_); refine r_op (o_extract rfl rfl rfl ?_); refine r_op (o_extract rfl rfl rfl ?_); refine r_op (o_assign rfl rfl ?_); refine r_op (o_assign rfl rfl ?_); refine r_nil ?_; refine x_seq ?_; refine x_seq (x_region ?_); refine r_op (o_fieldAddr rfl rfl ?_); refine r_op (o_load rfl rfl rfl rfl ?_))
      (refine r_op ?_)
      refine o_call rfl (refMay_spec R.f (by omega)) rfl ?_
      rintro v B ⟨rfl, rfl⟩
      (simp only [List.cons_append, List.nil_append])
      rw [hm]
      (refine r_op (o_move rfl rfl ?_))
      ((first | refine r_op ?_ | refine r_guard rfl ?_); refine o_call rfl (num9_spec _) rfl ?_; rintro v B ⟨rfl, rfl⟩; simp only [List.nil_append])
      (refine r_op (o_eql_f rfl rfl (by omega) rfl ?_))
      (refine r_op ?_)
      refine o_beq (.inr rfl) rfl rfl rfl ?_
      (refine r_op (o_move rfl rfl ?_); refine r_guard rfl (o_move rfl rfl ?_))
      ((first | refine r_op ?_ | refine r_guard rfl ?_); refine o_call rfl (num9_spec _) rfl ?_; rintro v B ⟨rfl, rfl⟩; simp only [List.nil_append])
      (refine r_guard rfl (o_neq_t rfl rfl (by omega) rfl ?_); refine r_guard rfl (o_move rfl rfl ?_); refine r_guard rfl (o_move rfl rfl ?_))
      ((first | refine r_op ?_ | refine r_guard rfl ?_); refine o_call rfl (num9_spec _) rfl ?_; rintro v B ⟨rfl, rfl⟩; simp only [List.nil_append])
      (refine r_guard rfl (o_neq_f rfl rfl (by omega) rfl ?_); refine r_guard rfl (o_pick_t rfl rfl rfl ?_); refine r_op (o_pick_f rfl rfl rfl ?_); refine r_op (o_move rfl rfl ?_); refine r_guard rfl (o_move rfl rfl ?_))
      (refine r_guard rfl ?_)
      refine o_peq (.inl rfl) rfl rfl (.inr rfl) rfl ?_
      (refine r_guard rfl (o_move rfl rfl ?_))
      ((first | refine r_op ?_ | refine r_guard rfl ?_); refine o_call rfl (num9_spec _) rfl ?_; rintro v B ⟨rfl, rfl⟩; simp only [List.nil_append])
      (refine r_guard rfl (o_neq_t rfl rfl (by omega) rfl ?_))
      (refine r_guard rfl ?_)
      refine o_beq (.inr rfl) rfl rfl rfl ?_
      (refine r_op (o_pick_f rfl rfl rfl ?_); refine r_nil ?_; refine x_false rfl ?_; refine x_skip ?_; refine x_seq ?_; refine x_seq (x_region ?_); refine r_op (o_move rfl rfl ?_))
      (refine r_op ?_)
      refine o_peq (.inl rfl) rfl rfl (.inr rfl) rfl ?_
      (refine r_nil ?_; refine x_true rfl ?_; refine x_seq (x_region ?_))
      (refine r_op ?_)
      refine o_call rfl wakes_spec rfl ?_
      rintro v B ⟨rfl, rfl⟩
      (simp only [List.nil_append])
      (refine r_op (o_assign rfl rfl ?_); refine r_nil ?_)
      exact x_ret rfl [A] ⟨rfl, rfl⟩ Sub.h
  · (refine r_nil ?_; refine x_true rfl ?_; refine x_seq (x_region ?_); refine r_op (o_assign rfl rfl ?_); refine r_nil ?_)
    exact x_ret rfl [A] ⟨rfl, rfl⟩ Sub.h
end Go.Proofs.Ythneebbmodkjiaa
