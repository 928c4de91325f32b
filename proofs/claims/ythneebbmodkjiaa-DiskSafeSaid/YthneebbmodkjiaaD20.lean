/- Part of a proof over the seat Ythneebbmodkjiaa: module D20. Its claim's last module says what is proved. -/
import Derived.Test.YthneebbmodkjiaaD19
namespace Go.Proofs.Ythneebbmodkjiaa
open Go.Proofs

/-- All numbers of a script are numbers. -/
def SV.Fit (p : SV) : Prop := ∀ x ∈ p.l, x.Fit
section
variable {P : Program} {X : Cx} {n : Nat} {ds : List Deferred} {ρ : Rho} {Γ : List HP} {Nx : Value → List HP → Prop} {d : Nat} {ty : TypeId}
theorem o_remG {t yt : TypeId} {x y : Operand} {kk : IntKind} {a b : Int} (hx : ev ρ x = some (.int kk a)) (hy : ev ρ y = some (.int kk b)) (hb : b ≠ 0) (hn : Nat.blt d n = true)
    (h : Nx (.int kk (a.tmod b)) Γ) : ExO P X n ds (some d) (.binOp .rem t x y yt) ty Nx ρ Γ :=
  o_value (by simp) hn fun e o w hop hty he heL hs => ⟨_, w, Γ, binOp_int (by simp) hop (he _ _ hx) (he _ _ hy) (by simp [Op.intDiv, hb]), hs, h⟩
end
theorem RdS.cells {l : List AV} {i : Nat} (h : i < l.length) {x : AV} (hx : l[i] = x) (j : Nat) (v : Value) (hv : x.cells[j]? = some v) : (l.flatMap AV.cells)[i * 6 + j]? = some v := by
  have hj : j < 6 := (List.getElem?_eq_some_iff.1 hv).1
  rw [RdS.cell (_A := Emp) (_a := none) h j hj, hx, hv]
theorem keepAll_length' : ∀ (fs : List Fl) (ps : List Int), (keepAll fs ps).length = fs.length := by
  intro fs
  induction fs with
  | nil => intro ps; rfl
  | cons x fs ih => intro ps; simp [keepAll, ih]
set_option maxHeartbeats 4000000 in
theorem diskSafe_spec {A : HP} {p : SV} (R : SV.Rd A p) (F : p.Fit) : Spec Try.prog 4 [p.val] [A] (fun v B => v = .bool true ∧ B = [A]) := by
  refine Spec.of_ex Try.func4 rfl Try.ntmps4 rfl fun E cs Γ => ?_
  (simp only [argRho, List.cons_append, List.nil_append])
  (refine x_seq ?_); (refine x_region ?_)
  (refine r_op ?_)
  refine o_boxA (vs := p.cells) rfl rfl (fun px => ?_)
  (refine r_op (o_assign rfl rfl ?_); refine r_nil ?_; refine x_seq ?_; refine x_seq (x_region ?_))
  (refine r_op ?_)
  refine o_loadA (us := p.cells) rfl rfl rfl rfl rfl ?_
  (refine r_op ?_)
  refine o_call rfl (heavy9_spec R) rfl ?_
  rintro v B ⟨⟨hb, rfl⟩, rfl⟩
  (simp only [List.cons_append, List.nil_append])
  cases hb
  · (refine r_nil ?_; refine x_false rfl ?_; refine x_skip ?_; refine x_seq (x_region ?_))
    (refine r_op ?_)
    refine o_call rfl new0_spec rfl ?_
    rintro v B ⟨b, rfl, rfl⟩
    (simp only [List.cons_append, List.nil_append])
    (refine r_op (o_move rfl rfl ?_); refine r_op (o_extract rfl rfl rfl ?_); refine r_op (o_extract rfl rfl rfl ?_); refine r_op (o_assign rfl rfl ?_); refine r_op (o_assign rfl rfl ?_); refine r_nil ?_; refine x_seq ?_; refine x_seq (x_region ?_); refine r_op (o_move rfl rfl ?_))
    (refine r_op ?_)
    refine o_call rfl (num9_spec 0) rfl ?_
    rintro v B ⟨rfl, rfl⟩
    (simp only [List.nil_append])
    (refine r_op (o_neq_f rfl rfl (by omega) rfl ?_); refine r_op (o_move rfl rfl ?_); refine r_guard rfl (o_move rfl rfl ?_))
    (refine r_guard rfl ?_)
    refine o_peq (.inl rfl) rfl rfl (.inr rfl) rfl ?_
    (refine r_op (o_pick_f rfl rfl rfl ?_); refine r_nil ?_; refine x_false rfl ?_; refine x_skip ?_; refine x_seq (x_region ?_))
    (refine r_op ?_)
    refine o_buildSliceW rfl (by rfl) (by rfl) (by rfl) rfl (fun bl => ?_)
    (refine r_op ?_)
    refine o_convW (vs := [.int .u8 116, .int .u8 104, .int .u8 101, .int .u8 115, .int .u8 101, .int .u8 32, .int .u8 98, .int .u8 121, .int .u8 116, .int .u8 101, .int .u8 115, .int .u8 32, .int .u8 97, .int .u8 114, .int .u8 101, .int .u8 32, .int .u8 115, .int .u8 97, .int .u8 102, .int .u8 101]) rfl (by rfl) rfl ?_
    rw [show ([.int .u8 116, .int .u8 104, .int .u8 101, .int .u8 115, .int .u8 101, .int .u8 32, .int .u8 98, .int .u8 121, .int .u8 116, .int .u8 101, .int .u8 115, .int .u8 32, .int .u8 97, .int .u8 114, .int .u8 101, .int .u8 32, .int .u8 115, .int .u8 97, .int .u8 102, .int .u8 101] : List Value) = saS.map bv from rfl]
    have RL : Reads (Sl 1 (some ⟨bl, 0, none⟩) 20 20 (saS.map bv)) 1 (some ⟨bl, 0, none⟩) saS.length (saS.map bv) := Sl.reads 1 (some ⟨bl, 0, none⟩) 20 20 (saS.map bv) rfl
    have ok0 : (newD []).okn 0 := okn_new [] rfl
    have S1 := write_spec (bs := saS) (cap := 20) b (newD []) 2 0 RL (by decide) (ok0.small (by decide))
    have ok1 : saD1.okn 1 := okn_write ok0 2 0 saS
    have ok2 : saD2.okn 2 := okn_sync ok1 2
    have S2 := sync_spec b saD1 2 (ok1.small (by decide))
    rw [sa_1, show ((newD []).write 2 0 saS).1 = saD1 from rfl] at S1
    rw [sa_2, show (saD1.sync 2).1 = saD2 from rfl] at S2
    (refine r_op (o_assign rfl rfl ?_); refine r_nil ?_; refine x_seq ?_; refine x_seq (x_region ?_); refine r_op (o_move rfl rfl ?_); refine r_op (o_move rfl rfl ?_))
    (refine r_op ?_)
    refine o_call rfl S1 rfl ?_
    rintro v B ⟨rfl, rfl⟩
    (simp only [List.cons_append, List.nil_append])
    (refine r_op ?_)
    refine o_call rfl (num9_spec 0) rfl ?_
    rintro v B ⟨rfl, rfl⟩
    (simp only [List.nil_append])
    (refine r_op (o_neq_f rfl rfl (by omega) rfl ?_); refine r_op (o_move rfl rfl ?_); refine r_guard rfl (o_move rfl rfl ?_))
    (refine r_guard rfl ?_)
    refine o_call rfl S2 rfl ?_
    rintro v B ⟨rfl, rfl⟩
    (simp only [List.cons_append, List.nil_append])
    (refine r_guard rfl ?_)
    refine o_call rfl (num9_spec 0) rfl ?_
    rintro v B ⟨rfl, rfl⟩
    (simp only [List.nil_append])
    (refine r_guard rfl (o_neq_f rfl rfl (by omega) rfl ?_); refine r_op (o_pick_f rfl rfl rfl ?_); refine r_nil ?_; refine x_false rfl ?_; refine x_skip ?_; refine x_seq ?_; refine x_seq (x_region ?_); refine r_op (o_assign rfl rfl ?_); refine r_nil ?_)
    refine x_cutK (α := Dk) (fun d => SaOk d ∧ d.okn 82) (fun _ => [(1, dp px), (3, dp b), (5, .slice (some ⟨bl, 0, none⟩) 20 20)]) (fun d => DiskI b d :: Sl 1 (some ⟨bl, 0, none⟩) 20 20 (saS.map bv) :: Row px 0 p.cells :: A :: Γ) ?_ ?_
    · rintro d ⟨hd, hok⟩
      have lb := R.lb
      (refine x_seq ?_)
      (refine x_region ?_)
      (refine r_op (o_assign rfl rfl ?_); refine r_nil ?_)
      refine x_cut (α := Option Addr × Nat × List Int) (fun q => Reads A 1 q.1 q.2.2.length (q.2.2.map iv) ∧ q.2.2.length ≤ 2 ^ 63 - 1 ∧ ∀ z ∈ q.2.2, z ≤ 9223372036854775807)
        (fun q => [(13, .slice q.1 q.2.2.length q.2.1), (1, dp px), (3, dp b), (5, .slice (some ⟨bl, 0, none⟩) 20 20)]) (fun _ => DiskI b d :: Sl 1 (some ⟨bl, 0, none⟩) 20 20 (saS.map bv) :: Row px 0 p.cells :: A :: Γ) ?_ ?_
      · rintro ⟨a, c, ps⟩ ⟨Rp, hpl, hpm⟩
        dsimp only at Rp hpl hpm ⊢
        (refine x_seq (x_region ?_); refine r_op (o_move rfl rfl ?_); refine r_op (o_move rfl rfl ?_))
        (refine r_op ?_)
        refine o_call rfl (crash_spec (cap := c) b d Rp hpl hpm (hok.fit (by decide))) rfl ?_
        rintro v B ⟨a12, c12, q, rfl, hq, rfl⟩
        (simp only [List.cons_append, List.nil_append])
        (refine r_op (o_assign rfl rfl ?_); refine r_nil ?_; refine x_seq (x_region ?_); refine r_op (o_move rfl rfl ?_))
        (refine r_op ?_)
        refine o_call rfl (size_spec b d.crash 2) rfl ?_
        rintro v B ⟨rfl, rfl⟩
        (simp only [List.cons_append, List.nil_append])
        rw [show d.crash.size 2 = (0, 13) from rfl]
        dsimp only
        (refine r_op (o_move rfl rfl ?_); refine r_op (o_extract rfl rfl rfl ?_); refine r_op (o_extract rfl rfl rfl ?_); refine r_op (o_assign rfl rfl ?_); refine r_op (o_assign rfl rfl ?_); refine r_nil ?_; refine x_seq ?_)
        refine x_open (α := PLift (∀ x ∈ q, x.2.2.length ≤ x.2.1)) (Γ' := fun _ => _) (fun E w s => ⟨⟨St.inn_cap ((Ent.cells_out a12 c12 q _).st s.drop.drop).drop⟩, s⟩) fun ⟨hcaps⟩ => ?_
        have hql : q.length = 8 := by
          have := congrArg List.length hq
          rw [keepAll_length'] at this
          have h8 : d.fs.length = 8 := hok.1
          simpa [cont, h8] using this
        have hf2 : d.fs[2]? = some (d.file 2) := by
          unfold Dk.file
          have h8 : d.fs.length = 8 := hok.1
          rw [List.getD_eq_getElem?_getD, List.getElem?_eq_getElem (show (2 : Int).toNat < d.fs.length by rw [h8]; decide)]
          rw [List.getElem?_eq_getElem (show 2 < d.fs.length by omega)]; rfl
        obtain ⟨y, hy, hyp⟩ := keepAll_pre (S := saS) d.fs ps 2 _ hf2 hd.f2
        have hq2 : q[2].2.2 = y := by
          rw [← hq] at hy
          simpa [cont, hql] using hy
        have hyl : 20 ≤ y.length := hyp.length_le
        have hyt : y.take 20 = saS := by
          obtain ⟨t, rfl⟩ := hyp
          exact List.take_left' rfl
        have R12 := CellsX.rd a12 c12 q
        have R13 := R12.get (i := 2) (by omega)
        rw [hq2] at R13
        have hsv : sv q[2] = .slice q[2].1 y.length q[2].2.1 := by rw [sv, hq2]
        have hcap2 : 20 ≤ q[2].2.1 := by
          have := hcaps q[2] (List.getElem_mem (by omega))
          rw [hq2] at this; omega
        have R14 := R13.firstN 20 hyl
        rw [Nat.mul_one, ← List.map_take, hyt] at R14
        have hld : (q.map sv)[2]? = some (.slice q[2].1 y.length q[2].2.1) := by rw [← hsv]; exact mget sv (by omega)
        refine x_base R12.1 (by omega) fun b1 off ha => ?_
        refine x_script 33 [(0, false), (1, false), (2, false), (3, false), (4, false), (5, false), (6, false), (7, false), (8, false), (9, false), (10, false), (11, false), (12, false), (13, false), (14, false), (15, false), (16, false), (17, false), (18, false), (19, false), (20, false), (21, false), (22, false), (23, false), (24, false), (25, false), (26, true), (27, false), (28, false), (29, false), (30, true), (31, false), (32, false)] [CellsX a12 c12 q, Sl 1 (some ⟨bl, 0, none⟩) 20 20 (saS.map bv)] mixed (by kernel_rfl) permF ?_
        (refine s_v rfl (v_move rfl) ?_; refine s_v rfl (v_lenS rfl) ?_; refine s_v rfl (v_eql_t rfl rfl (by omega)) ?_; refine s_v rfl (v_move rfl) ?_; refine s_vg rfl rfl (v_move rfl) ?_)
        refine s_vg rfl rfl (v_indexH rfl rfl ha (j := 2) rfl (by omega)) ?_
        refine s_vg rfl rfl (v_loadR rfl R12.1 ha (i := 2) (by omega) hld) ?_
        (refine s_vg rfl rfl (v_lenS rfl) ?_; refine s_vg rfl rfl (v_move rfl) ?_; refine s_vg rfl rfl (v_lenS rfl) ?_; refine s_vg rfl rfl (v_geq_t rfl rfl (by omega)) ?_; refine s_v rfl (v_pick_t rfl rfl) ?_; refine s_v rfl (v_move rfl) ?_; refine s_vg rfl rfl (v_move rfl) ?_)
        refine s_vg rfl rfl (v_indexH rfl rfl ha (j := 2) rfl (by omega)) ?_
        refine s_vg rfl rfl (v_loadR rfl R12.1 ha (i := 2) (by omega) hld) ?_
        (refine s_vg rfl rfl (v_move rfl) ?_; refine s_vg rfl rfl (v_lenS rfl) ?_)
        refine s_vg rfl rfl (v_sliceHi rfl rfl (jh := 20) rfl hcap2) ?_
        refine s_vg rfl rfl (v_toStr rfl R14) ?_
        (refine s_vg rfl rfl (v_move rfl) ?_)
        refine s_vg rfl rfl (v_toStr rfl RL) ?_
        refine s_vg rfl rfl (v_seql_t rfl rfl rfl) ?_
        (refine s_v rfl (v_pick_t rfl rfl) ?_; refine s_v rfl (v_move rfl) ?_; refine s_vg rfl rfl (v_move rfl) ?_)
        refine s_xg rfl rfl (o_call rfl (num9_spec 13) rfl ?_)
        rintro v B ⟨rfl, rfl⟩
        refine ⟨permF, ?_⟩
        (simp only [List.nil_append])
        (refine s_vg rfl rfl (v_eql_t rfl rfl (by omega)) ?_; refine s_v rfl (v_pick_t rfl rfl) ?_; refine s_v rfl (v_move rfl) ?_)
        refine s_xg rfl rfl (o_call rfl wakes_spec rfl ?_)
        rintro v B ⟨rfl, rfl⟩
        refine ⟨permF, ?_⟩
        (simp only [List.nil_append])
        (refine s_v rfl (v_pick_t rfl rfl) ?_; refine s_v rfl (v_assign rfl) ?_)
        refine s_end rfl ?_
        exact x_ret rfl [A] ⟨rfl, rfl⟩ Sub.h
      · intro td back2
        by_cases h0 : p.l.length = 0
        · (refine x_seq (x_region ?_); refine r_op (o_fieldAddr rfl rfl ?_); refine r_op (o_load rfl rfl rfl rfl ?_); refine r_op (o_lenS rfl rfl ?_); refine r_op (o_gtr_f rfl rfl (by omega) rfl ?_); refine r_nil ?_; refine x_false rfl ?_; refine x_skip ?_)
          refine x_weak (back2 (none, 0, []) ⟨⟨rfl, fun _ _ _ _ => .inl rfl⟩, by decide, fun _ h => by cases h⟩) (by (repeat' (first | exact trivial | refine ⟨rfl, ?_⟩))) Sub.h
        · (refine x_seq (x_region ?_); refine r_op (o_fieldAddr rfl rfl ?_); refine r_op (o_load rfl rfl rfl rfl ?_); refine r_op (o_lenS rfl rfl ?_); refine r_op (o_gtr_t rfl rfl (by omega) rfl ?_); refine r_nil ?_; refine x_true rfl ?_; refine x_region ?_; refine r_op (o_fieldAddr rfl rfl ?_); refine r_op (o_load rfl rfl rfl rfl ?_))
          (refine r_op ?_)
          refine o_indexR rfl rfl R.l.1 (j := 0) rfl (by omega) rfl (fun b1 off ha => ?_)
          obtain ⟨x, hx⟩ : ∃ x, p.l[0]'(by omega) = x := ⟨_, rfl⟩
          have Fx : x.Fit := hx ▸ F _ (List.getElem_mem _)
          have Rx := R.l.2 _ (List.getElem_mem (show 0 < p.l.length by omega))
          rw [hx] at Rx
          (refine r_op (o_fieldAddr rfl rfl ?_))
          (refine r_op ?_)
          refine o_loadR rfl R.l.1 ha (i := 5) (by omega) (RdS.cells (show 0 < p.l.length by omega) hx 5 _ rfl) rfl ?_
          (refine r_op (o_assign rfl rfl ?_); refine r_nil ?_)
          refine x_weak (back2 (x.pa, x.pc, x.ps) ⟨Rx.2, by have := Fx.pc; simp only [maxLen] at this; dsimp only; omega, fun z hz => (Fx.ps z hz).2⟩) (by (repeat' (first | exact trivial | refine ⟨rfl, ?_⟩))) Sub.h
    · intro td back0
      (refine x_block ?_)
      refine x_loop (α := Nat × Dk) (fun q => q.1 ≤ 40 ∧ q.1 ≤ p.l.length ∧ SaOk q.2 ∧ q.2.okn (2 + 2 * q.1)) (fun q => [(1, dp px), (3, dp b), (5, .slice (some ⟨bl, 0, none⟩) 20 20), (6, .int .i64 q.1)])
        (fun q => DiskI b q.2 :: Sl 1 (some ⟨bl, 0, none⟩) 20 20 (saS.map bv) :: Row px 0 p.cells :: A :: Γ)
        (fun q => 40 - q.1) (0, saD2) ⟨Nat.zero_le _, Nat.zero_le _, sa_ok, ok2⟩ ⟨rfl, rfl, rfl, rfl, trivial⟩ Sub.h ?_
      rintro ⟨i, d⟩ ⟨hi, hi2, hd, hok⟩ back
      dsimp only at hi hi2 hd hok back ⊢
      have lb := R.lb
      (refine x_seq ?_; refine x_seq (x_region ?_); refine r_op (o_move rfl rfl ?_); refine r_op (o_fieldAddr rfl rfl ?_); refine r_op (o_load rfl rfl rfl rfl ?_); refine r_op (o_lenS rfl rfl ?_))
      (refine r_op ?_)
      refine o_lss rfl rfl rfl (fun h1 => ?_) (fun h1 => ?_)
      · (refine r_op (o_move rfl rfl ?_); refine r_guard rfl (o_move rfl rfl ?_))
        (refine r_guard rfl ?_)
        refine o_lss rfl rfl rfl (fun h2 => ?_) (fun h2 => ?_)
        · have hi1 : i < p.l.length := by omega
          (refine r_op (o_pick_t rfl rfl rfl ?_); refine r_nil ?_; refine x_true rfl ?_; refine x_skip ?_; refine x_seq ?_; refine x_block ?_; refine x_seq (x_region ?_); refine r_op (o_fieldAddr rfl rfl ?_); refine r_op (o_load rfl rfl rfl rfl ?_); refine r_op (o_move rfl rfl ?_))
          (refine r_op ?_)
          refine o_indexR rfl rfl R.l.1 (j := i) rfl hi1 rfl (fun b1 off ha => ?_)
          obtain ⟨x, hx⟩ : ∃ x, p.l[i] = x := ⟨_, rfl⟩
          have Fx : x.Fit := hx ▸ F _ (List.getElem_mem hi1)
          have Rx := R.l.2 _ (List.getElem_mem hi1)
          rw [hx] at Rx
          (refine r_op ?_)
          refine o_loadAR rfl R.l.1 ha (i := i * 6) (us := x.cells) (by omega) rfl (RdS.cells hi1 hx) rfl ?_
          (refine r_op ?_)
          refine o_alloc rfl (fun pa => ?_)
          (refine r_do ?_)
          refine o_storeA rfl rfl rfl rfl rfl (Nat.le_refl 6) ?_
          refine r_mem (Γ' := Row pa 0 x.cells :: DiskI b d :: Sl 1 (some ⟨bl, 0, none⟩) 20 20 (saS.map bv) :: Row px 0 p.cells :: A :: Γ) (Ent.row_eq rfl _) ?_
          (refine r_nil ?_; refine x_seq (x_region ?_); refine r_op (o_fieldAddr rfl rfl ?_); refine r_op (o_load rfl rfl rfl rfl ?_))
          (refine r_op ?_)
          refine o_call rfl (within_spec x.n 8 (by decide)) rfl ?_
          rintro v B ⟨⟨fi, rfl, hf0, hf8, _⟩, rfl⟩
          (simp only [List.nil_append])
          obtain ⟨f, rfl⟩ : ∃ f : Nat, fi = f := ⟨fi.toNat, by omega⟩
          have hf : f < 8 := by omega
          have h8 := hok.1
          (refine r_op (o_assign rfl rfl ?_); refine r_nil ?_; refine x_seq (x_region ?_); refine r_op (o_move rfl rfl ?_); refine r_op (o_move rfl rfl ?_))
          (refine r_op ?_)
          refine o_call rfl (size_spec b d f) rfl ?_
          rintro v B ⟨rfl, rfl⟩
          (simp only [List.cons_append, List.nil_append])
          rw [hd.size hf]
          (refine r_op (o_move rfl rfl ?_); refine r_op (o_extract rfl rfl rfl ?_); refine r_op (o_extract rfl rfl rfl ?_); refine r_op (o_assign rfl rfl ?_); refine r_op (o_assign rfl rfl ?_); refine r_nil ?_; refine x_seq ?_; refine x_seq (x_region ?_); refine r_op (o_move rfl rfl ?_))
          (refine r_op ?_)
          refine o_call rfl (num9_spec 0) rfl ?_
          rintro v B ⟨rfl, rfl⟩
          (simp only [List.nil_append])
          (refine r_op ?_)
          (refine o_neq_f rfl rfl (by omega) rfl ?_)
          (refine r_nil ?_)
          (refine x_false rfl ?_)
          (refine x_skip ?_)
          (refine x_seq ?_)
          (refine x_region ?_)
          (refine r_op (o_move rfl rfl ?_); refine r_op (o_assign rfl rfl ?_); refine r_nil ?_)
          have hnl : (d.file f).now.length ≤ 131072 := (hok.file f).1
          refine x_cut (α := Nat) (fun q => q ≤ (d.file f).now.length ∧ (f = 2 → q = (d.file 2).now.length)) (fun q => [(11, .int .i64 q), (1, dp px), (3, dp b), (5, .slice (some ⟨bl, 0, none⟩) 20 20), (6, .int .i64 i), (7, dp pa), (8, .int .i64 f)])
            (fun _ => DiskI b d :: Row pa 0 x.cells :: Sl 1 (some ⟨bl, 0, none⟩) 20 20 (saS.map bv) :: Row px 0 p.cells :: A :: Γ) ?_ ?_
          · rintro q ⟨hq, hq2⟩
            obtain ⟨hw, hdw⟩ := hd.write h8 hf hq hq2 x.b.2.2
            have okw := okn_write hok f q x.b.2.2
            have SW := write_spec (bs := x.b.2.2) (cap := x.b.2.1) b d f q Rx.1 Fx.b.1 (hok.small (by omega))
            obtain ⟨e, he⟩ : ∃ e, (d.write f q x.b.2.2).2 = e := ⟨_, rfl⟩
            obtain ⟨d', hd'⟩ : ∃ d', (d.write f q x.b.2.2).1 = d' := ⟨_, rfl⟩
            rw [he] at hw SW
            rw [hd'] at hdw okw SW
            (refine x_seq (x_region ?_); refine r_op (o_move rfl rfl ?_); refine r_op (o_move rfl rfl ?_); refine r_op (o_move rfl rfl ?_); refine r_op (o_fieldAddr rfl rfl ?_); refine r_op (o_load rfl rfl rfl rfl ?_))
            (refine r_op ?_)
            refine o_call rfl SW rfl ?_
            rintro v B ⟨rfl, rfl⟩
            (simp only [List.cons_append, List.nil_append])
            (refine r_op ?_)
            refine o_call rfl (num9_spec e) rfl ?_
            rintro v B ⟨rfl, rfl⟩
            (simp only [List.nil_append])
            (refine r_op (o_assign rfl rfl ?_); refine r_nil ?_)
            refine x_cut (α := Unit) (fun _ => True) (fun _ => [(1, dp px), (3, dp b), (5, .slice (some ⟨bl, 0, none⟩) 20 20), (6, .int .i64 i), (7, dp pa), (8, .int .i64 f)])
              (fun _ => DiskI b d' :: A :: Row pa 0 x.cells :: Sl 1 (some ⟨bl, 0, none⟩) 20 20 (saS.map bv) :: Row px 0 p.cells :: Γ) ?_ ?_
            · rintro - -
              (refine x_seq (x_region ?_); refine r_op (o_fieldAddr rfl rfl ?_); refine r_op (o_load rfl rfl rfl rfl ?_))
              (refine r_op ?_)
              refine o_remG rfl rfl (by decide) rfl ?_
              by_cases h3 : x.op.tmod 3 = 0
              · obtain ⟨g, hg⟩ : ∃ g, (f + 1) % 8 = g := ⟨_, rfl⟩
                have hg8 : g < 8 := by omega
                have hdy := hdw.sync okw.1 hg8
                have oky := okn_sync okw g
                have SY := sync_spec b d' g (okw.small (by omega))
                rw [hdy.1] at SY
                (refine r_op (o_eql_t rfl rfl (by omega) rfl ?_); refine r_op (o_move rfl rfl ?_); refine r_guard rfl (o_move rfl rfl ?_); refine r_guard rfl (o_move rfl rfl ?_); refine r_guard rfl (o_add rfl rfl (add_i64 (by omega)) rfl ?_); refine r_guard rfl (o_rem rfl rfl (by omega) (by omega) rfl ?_))
                rw [show ((f : Int) + 1) % 8 = (g : Int) by omega]
                (refine r_guard rfl ?_)
                refine o_call rfl SY rfl ?_
                rintro v B ⟨rfl, rfl⟩
                (simp only [List.cons_append, List.nil_append])
                (refine r_guard rfl ?_)
                refine o_call rfl (num9_spec 0) rfl ?_
                rintro v B ⟨rfl, rfl⟩
                (simp only [List.nil_append])
                (refine r_guard rfl (o_neq_f rfl rfl (by omega) rfl ?_); refine r_op (o_pick_t rfl rfl rfl ?_); refine r_nil ?_; refine x_false rfl ?_; refine x_skip ?_; refine x_inBlock ?_; refine x_region ?_; refine r_op (o_move rfl rfl ?_); refine r_op (o_add rfl rfl (add_i64 (by omega)) rfl ?_); refine r_op (o_assign rfl rfl ?_); refine r_nil ?_)
                refine x_weak (back (i + 1, (d'.sync g).1) ⟨by dsimp only; omega, by dsimp only; omega, hdy.2, oky.mono (by dsimp only; omega)⟩ (by dsimp only; omega)) (by (repeat' (first | exact trivial | refine ⟨rfl, ?_⟩))) Sub.h
              · (refine r_op (o_eql_f rfl rfl (by omega) rfl ?_); refine r_op (o_move rfl rfl ?_); refine r_skip rfl rfl rfl ?_; refine r_skip rfl rfl rfl ?_; refine r_skip rfl rfl rfl ?_; refine r_skip rfl rfl rfl ?_; refine r_skip rfl rfl rfl ?_; refine r_skip rfl rfl rfl ?_; refine r_skip rfl rfl rfl ?_; refine r_op (o_pick_f rfl rfl rfl ?_); refine r_nil ?_; refine x_false rfl ?_; refine x_skip ?_; refine x_inBlock ?_; refine x_region ?_; refine r_op (o_move rfl rfl ?_); refine r_op (o_add rfl rfl (add_i64 (by omega)) rfl ?_); refine r_op (o_assign rfl rfl ?_); refine r_nil ?_)
                refine x_weak (back (i + 1, d') ⟨by dsimp only; omega, by dsimp only; omega, hdw, okw.mono (by dsimp only; omega)⟩ (by dsimp only; omega)) (by (repeat' (first | exact trivial | refine ⟨rfl, ?_⟩))) Sub.h
            · intro td back2
              rcases hw with hw | hw
              · subst hw
                (refine x_seq (x_region ?_); refine r_op (o_move rfl rfl ?_); refine r_op (o_neq_f rfl rfl (by omega) rfl ?_); refine r_op (o_move rfl rfl ?_); refine r_skip rfl rfl rfl ?_; refine r_skip rfl rfl rfl ?_; refine r_op (o_pick_f rfl rfl rfl ?_); refine r_nil ?_; refine x_false rfl ?_; refine x_skip ?_)
                refine x_weak (back2 () trivial) (by (repeat' (first | exact trivial | refine ⟨rfl, ?_⟩))) Sub.h
              · subst hw
                (refine x_seq (x_region ?_); refine r_op (o_move rfl rfl ?_); refine r_op (o_neq_t rfl rfl (by omega) rfl ?_); refine r_op (o_move rfl rfl ?_); refine r_guard rfl (o_move rfl rfl ?_); refine r_guard rfl (o_neq_f rfl rfl (by omega) rfl ?_); refine r_op (o_pick_t rfl rfl rfl ?_); refine r_nil ?_; refine x_false rfl ?_; refine x_skip ?_)
                refine x_weak (back2 () trivial) (by (repeat' (first | exact trivial | refine ⟨rfl, ?_⟩))) Sub.h
          · intro td back2
            by_cases h2 : f = 2
            · subst h2
              (refine x_seq (x_region ?_); refine r_op (o_move rfl rfl ?_); refine r_op (o_neq_f rfl rfl (by omega) rfl ?_); refine r_nil ?_; refine x_false rfl ?_; refine x_skip ?_)
              refine x_weak (back2 (d.file 2).now.length ⟨Nat.le_refl _, fun _ => rfl⟩) (by (repeat' (first | exact trivial | refine ⟨rfl, ?_⟩))) Sub.h
            · (refine x_seq (x_region ?_); refine r_op (o_move rfl rfl ?_); refine r_op (o_neq_t rfl rfl (by omega) rfl ?_); refine r_nil ?_; refine x_true rfl ?_; refine x_region ?_; refine r_op (o_fieldAddr rfl rfl ?_); refine r_op (o_load rfl rfl rfl rfl ?_); refine r_op (o_move rfl rfl ?_); refine r_op (o_add rfl rfl (add_i64 (by omega)) rfl ?_))
              (refine r_op ?_)
              refine o_call rfl (within_spec x.at' ((d.file f).now.length + 1) (by omega)) rfl ?_
              rintro v B ⟨⟨q, rfl, q0, q1, _⟩, rfl⟩
              (simp only [List.nil_append])
              obtain ⟨q, rfl⟩ : ∃ q' : Nat, q = q' := ⟨q.toNat, by omega⟩
              (refine r_op (o_assign rfl rfl ?_); refine r_nil ?_)
              refine x_weak (back2 q ⟨by omega, fun h => absurd h h2⟩) (by (repeat' (first | exact trivial | refine ⟨rfl, ?_⟩))) Sub.h
        · obtain rfl : i = 40 := by omega
          (refine r_op (o_pick_t rfl rfl rfl ?_); refine r_nil ?_; refine x_false rfl ?_; refine x_exit rfl ?_)
          refine x_weak (back0 d ⟨hd, hok.mono (by omega)⟩) (by (repeat' (first | exact trivial | refine ⟨rfl, ?_⟩))) Sub.h
      · (refine r_op (o_move rfl rfl ?_); refine r_skip rfl rfl rfl ?_; refine r_skip rfl rfl rfl ?_; refine r_op (o_pick_f rfl rfl rfl ?_); refine r_nil ?_; refine x_false rfl ?_; refine x_exit rfl ?_)
        refine x_weak (back0 d ⟨hd, hok.mono (by omega)⟩) (by (repeat' (first | exact trivial | refine ⟨rfl, ?_⟩))) Sub.h
  · (refine r_nil ?_; refine x_true rfl ?_; refine x_seq (x_region ?_); refine r_op (o_assign rfl rfl ?_); refine r_nil ?_)
    exact x_ret rfl [A] ⟨rfl, rfl⟩ Sub.h
end Go.Proofs.Ythneebbmodkjiaa
