/- Part of a proof over the seat Ythneebbmodkjiaa: module E20. Its claim's last module says what is proved. -/
import Derived.Test.YthneebbmodkjiaaE21
namespace Go.Proofs.Ythneebbmodkjiaa
open Go.Proofs

structure MS where
  i : Nat
  bs : List (List UInt8)
  es : List En
  al : Option Addr
  cl : Nat
  b : Nat
  ps : Nat
structure MS.Ok (f n : Nat) (q : MS) : Prop where
  h20 : q.i ≤ 20
  hc : Calm q.bs
  hh : Holds n q.es (q.bs.getD f [])
  hl : (live 0 q.es).length ≤ q.i
abbrev MS.Γ (f n : Nat) (q : MS) : List HP := [ShelfI q.ps q.b ⟨f, n, q.es, false⟩, DiskI q.b (newD q.bs), Sl 2 q.al (live 0 q.es).length q.cl ((live 0 q.es).flatMap yv)]
theorem shl_fits {k : Nat} (hk : k < 4) : fitsB ((128 * 2 ^ k : Nat) : Int) = true ∧ 16 ≤ 128 * 2 ^ k ∧ 128 * 2 ^ k ≤ 1024 := by
  have : k = 0 ∨ k = 1 ∨ k = 2 ∨ k = 3 := by omega
  rcases this with rfl | rfl | rfl | rfl <;> decide
theorem yv_take (l : List (Nat × Tx)) : ∀ k, (l.flatMap yv).take (k * 2) = (l.take k).flatMap yv := by
  induction l with
  | nil => intro k; simp
  | cons y l ih =>
    intro k
    cases k with
    | zero => simp
    | succ k =>
      rw [show (k + 1) * 2 = k * 2 + 1 + 1 by omega]
      simp only [List.flatMap_cons, List.take_succ_cons, yv, List.cons_append, List.nil_append, ih]
theorem yv_drop (l : List (Nat × Tx)) : ∀ k, (l.flatMap yv).drop (k * 2) = (l.drop k).flatMap yv := by
  induction l with
  | nil => intro k; simp
  | cons y l ih =>
    intro k
    cases k with
    | zero => simp
    | succ k =>
      rw [show (k + 1) * 2 = k * 2 + 1 + 1 by omega]
      simp only [List.flatMap_cons, List.drop_succ_cons, yv, List.cons_append, List.nil_append, ih]
theorem yv_set (l : List (Nat × Tx)) : ∀ (j m : Nat) (h : j < l.length), (l.flatMap yv).set (j * 2) (.int .i64 m) = (l.set j (m, l[j].2)).flatMap yv := by
  induction l with
  | nil => intro j m h; simp at h
  | cons y l ih =>
    intro j m h
    cases j with
    | zero => simp [yv]
    | succ j =>
      rw [show (j + 1) * 2 = j * 2 + 1 + 1 by omega]
      simp only [List.flatMap_cons, yv, List.cons_append, List.nil_append, List.set_cons_succ, List.getElem_cons_succ]
      rw [ih j m (by simpa using h)]
/-- Entries of which the first j have their new slots. -/
def renum (L : List (Nat × Tx)) (j : Nat) : List (Nat × Tx) := (L.mapIdx fun i y => (0 + i, y.2)).take j ++ L.drop j
theorem renum_len (L : List (Nat × Tx)) (j : Nat) (h : j ≤ L.length) : (renum L j).length = L.length := by unfold renum; simp; omega
theorem renum_get (L : List (Nat × Tx)) (j : Nat) (h : j < L.length) : ∃ h2 : j < (renum L j).length, (renum L j)[j] = L[j] := by
  refine ⟨by rw [renum_len L j (by omega)]; exact h, ?_⟩
  unfold renum
  rw [List.getElem_append_right (by simp; omega)]
  simp [Nat.min_eq_left (Nat.le_of_lt h)]
theorem renum_succ (L : List (Nat × Tx)) (j : Nat) (h : j < L.length) : (renum L j).set j (j, L[j].2) = renum L (j + 1) := by
  unfold renum
  rw [List.set_append_right _ _ (by simp; omega)]
  rw [List.take_succ_eq_append_getElem (by simpa using h)]
  rw [show j - ((L.mapIdx fun i y => (0 + i, y.2)).take j).length = 0 by simp; omega]
  simp
  rw [List.drop_eq_getElem_cons h]; rfl
set_option maxHeartbeats 6400000 in
theorem model_spec {A : HP} {p : TV} (R : TV.Rd A p) (Fi : p.Fi) : Spec Try.prog 15 [p.val] [A] (fun v B => v = .bool true ∧ B = [A]) := by
  refine Spec.of_ex Try.func15 rfl Try.ntmps15 rfl fun E cs Γ => ?_
  (simp only [argRho, List.cons_append, List.nil_append])
  (refine x_seq ?_); (refine x_region ?_)
  (refine r_op ?_)
  refine o_boxA (vs := p.cells) rfl rfl (fun b0 => ?_)
  have lb := R.lb
  (refine r_op (o_assign rfl rfl ?_); refine r_nil ?_; refine x_seq ?_; refine x_seq (x_region ?_))
  (refine r_op ?_)
  refine o_loadA (us := p.cells) rfl rfl rfl rfl rfl ?_
  (refine r_op ?_)
  refine o_call rfl (heavy10_spec R) rfl ?_
  rintro v B ⟨⟨hb, rfl, hbl⟩, rfl⟩
  (simp only [List.cons_append, List.nil_append])
  cases hb
  · (refine r_nil ?_; refine x_false rfl ?_; refine x_skip ?_; refine x_seq (x_region ?_); refine r_op (o_fieldAddr rfl rfl ?_); refine r_op (o_load rfl rfl rfl rfl ?_))
    (refine r_op ?_)
    refine o_call rfl (within_spec p.f 8 (by decide)) rfl ?_
    rintro v B ⟨⟨f, rfl, hf0, hf1, -⟩, rfl⟩
    obtain ⟨f, rfl⟩ : ∃ i : Nat, f = i := ⟨f.toNat, by omega⟩
    have hf : f < 8 := by omega
    (simp only [List.nil_append])
    (refine r_op (o_assign rfl rfl ?_); refine r_nil ?_; refine x_seq (x_region ?_); refine r_op (o_fieldAddr rfl rfl ?_); refine r_op (o_load rfl rfl rfl rfl ?_))
    (refine r_op ?_)
    refine o_call rfl (within_spec p.k 4 (by decide)) rfl ?_
    rintro v B ⟨⟨k, rfl, hk0, hk1, -⟩, rfl⟩
    obtain ⟨k, rfl⟩ : ∃ i : Nat, k = i := ⟨k.toNat, by omega⟩
    have hk : k < 4 := by omega
    obtain ⟨hfit, hn1, hn2⟩ := shl_fits hk
    have hsh : (128 : Int) * 2 ^ (k : Int).toNat = ((128 * 2 ^ k : Nat) : Int) := by rw [Int.toNat_natCast]; simp
    obtain ⟨n, hn⟩ : ∃ n, 128 * 2 ^ k = n := ⟨_, rfl⟩
    rw [hn] at hsh hfit hn1 hn2
    (simp only [List.nil_append])
    (refine r_op ?_)
    refine o_shl rfl rfl ⟨by omega, by simp [IntKind.bits]; omega⟩ (by rw [hsh]; exact in_i64 (by omega)) rfl ?_
    rw [hsh]
    (refine r_op (o_assign rfl rfl ?_); refine r_nil ?_; refine x_seq (x_region ?_))
    (refine r_op ?_)
    refine o_call rfl disk0_spec rfl ?_
    rintro v B ⟨b, rfl, rfl⟩
    (simp only [List.cons_append, List.nil_append])
    (refine r_op (o_assign rfl rfl ?_); refine r_nil ?_; refine x_seq (x_region ?_); refine r_op (o_move rfl rfl ?_); refine r_op (o_move rfl rfl ?_); refine r_op (o_move rfl rfl ?_))
    (refine r_op ?_)
    refine o_call rfl (open0C_spec b calm0 (f := f) (n := n) hf hfit (getD_0 f)) rfl ?_
    rintro v B ⟨ps, rfl, rfl⟩
    (simp only [List.cons_append, List.nil_append])
    (refine r_op (o_move rfl rfl ?_); refine r_op (o_extract rfl rfl rfl ?_); refine r_op (o_extract rfl rfl rfl ?_); refine r_op (o_assign rfl rfl ?_); refine r_op (o_assign rfl rfl ?_); refine r_nil ?_; refine x_seq ?_; refine x_seq (x_region ?_); refine r_op (o_move rfl rfl ?_))
    (refine r_op ?_)
    refine o_call rfl (num10_spec 0) rfl ?_
    rintro v B ⟨rfl, rfl⟩
    (simp only [List.nil_append])
    (refine r_op (o_neq_f rfl rfl (by omega) rfl ?_); refine r_op (o_move rfl rfl ?_); refine r_guard rfl (o_move rfl rfl ?_))
    (refine r_guard rfl ?_)
    refine o_peq (.inl rfl) rfl rfl (.inr rfl) rfl ?_
    (refine r_op (o_pick_f rfl rfl rfl ?_); refine r_nil ?_; refine x_false rfl ?_; refine x_skip ?_; refine x_seq (x_region ?_); refine r_op (o_assign rfl rfl ?_); refine r_nil ?_; refine x_seq ?_; refine x_seq (x_region ?_); refine r_op (o_assign rfl rfl ?_); refine r_nil ?_; refine x_block ?_)
    refine x_mem (Γ' := ShelfI ps b ⟨f, n, [], false⟩ :: DiskI b (newD (List.replicate 8 [])) :: Sl 2 none 0 0 ([] : List Value) :: A :: Row b0 0 p.cells :: Γ) ((Ent.nilSl 2 _).trans Sub.h) ?_
    refine x_loop (α := MS) (fun q => q.Ok f n) (fun q => [(1, dp b0), (3, .int .i64 f), (4, .int .i64 n), (5, dp q.b), (6, dp q.ps), (8, .slice q.al (live 0 q.es).length q.cl), (9, .int .i64 q.i)])
      (fun q => ShelfI q.ps q.b ⟨f, n, q.es, false⟩ :: DiskI q.b (newD q.bs) :: Sl 2 q.al (live 0 q.es).length q.cl ((live 0 q.es).flatMap yv) :: A :: Row b0 0 p.cells :: Γ)
      (fun q => 20 - q.i) ⟨0, List.replicate 8 [], [], none, 0, b, ps⟩ ⟨Nat.zero_le _, calm0, by dsimp only; rw [getD_0]; exact holds_nil (by omega), Nat.le_refl _⟩ ⟨rfl, rfl, rfl, rfl, rfl, rfl, rfl, trivial⟩ (.refl _) ?_
    rintro ⟨i, bs, es, al, cl, b, ps⟩ ⟨h20, hc, hh, hl⟩ back
    dsimp only at h20 hc hh hl ⊢
    have hes := hh.len (by omega)
    obtain ⟨L, hL⟩ : ∃ L, live 0 es = L := ⟨_, rfl⟩
    rw [hL] at hl ⊢
    (refine x_seq ?_; refine x_seq (x_region ?_); refine r_op (o_move rfl rfl ?_); refine r_op (o_fieldAddr rfl rfl ?_); refine r_op (o_load rfl rfl rfl rfl ?_); refine r_op (o_lenS rfl rfl ?_))
    (refine r_op ?_)
    refine o_lss rfl rfl rfl (fun h => ?_) (fun h => ?_)
    · have hi1 : i < p.l.length := by omega
      (refine r_op (o_move rfl rfl ?_); refine r_guard rfl (o_move rfl rfl ?_))
      (refine r_guard rfl ?_)
      refine o_lss rfl rfl rfl (fun h2 => ?_) (fun h2 => ?_)
      · obtain ⟨x, hx⟩ : ∃ x, p.l[i] = x := ⟨_, rfl⟩
        have Fx := Fi.l x (hx ▸ List.getElem_mem _)
        have Zx := R.sb x (hx ▸ List.getElem_mem _)
        have Rx := R.l.2 x (hx ▸ List.getElem_mem _)
        (refine r_op (o_pick_t rfl rfl rfl ?_); refine r_nil ?_; refine x_true rfl ?_; refine x_skip ?_; refine x_seq ?_; refine x_block ?_; refine x_seq (x_region ?_); refine r_op (o_fieldAddr rfl rfl ?_); refine r_op (o_load rfl rfl rfl rfl ?_); refine r_op (o_move rfl rfl ?_))
        (refine r_op ?_)
        refine o_indexR rfl rfl R.l.1 (j := i) rfl hi1 rfl (fun b1 off ha => ?_)
        (refine r_op ?_)
        refine o_loadAR rfl R.l.1 ha (i := i * 4) (us := x.cells) (by omega) (BX.cl _) (fun jj v hv => ?_) rfl ?_
        · have hjj : jj < 4 := (List.getElem?_eq_some_iff.1 hv).1
          rw [bx_get hi1 jj hjj, hx, hv]
        (refine r_op ?_)
        refine o_alloc rfl (fun px => ?_)
        (refine r_do ?_)
        refine o_storeA rfl rfl rfl rfl rfl (Nat.le_refl 4) ?_
        refine r_mem (Γ' := Row px 0 x.cells :: ShelfI ps b ⟨f, n, es, false⟩ :: DiskI b (newD bs) :: Sl 2 al L.length cl (L.flatMap yv) :: A :: Row b0 0 p.cells :: Γ) (Ent.row_eq rfl _) ?_
        (refine r_nil ?_; refine x_seq (x_region ?_); refine r_op (o_fieldAddr rfl rfl ?_); refine r_op (o_load rfl rfl rfl rfl ?_); refine r_op (o_move rfl rfl ?_); refine r_op (o_lenS rfl rfl ?_); refine r_op (o_add rfl rfl (add_i64 (by omega)) rfl ?_))
        (refine r_op ?_)
        refine o_call rfl (within_spec x.n (L.length + 2) (by omega)) rfl ?_
        rintro v B ⟨⟨sl, rfl, hs0, hs1, -⟩, rfl⟩
        (simp only [List.nil_append])
        (refine r_op (o_sub rfl rfl (sub_i64 (by omega)) rfl ?_); refine r_op (o_assign rfl rfl ?_); refine r_nil ?_; refine x_seq (x_region ?_); refine r_op (o_move rfl rfl ?_); refine r_op (o_move rfl rfl ?_))
        obtain ⟨slot, hslot⟩ : ∃ s, sl - 1 = s := ⟨_, rfl⟩
        rw [hslot]
        have RLv := Sl.reads 2 al L.length cl (L.flatMap yv) (flen yv_cl L)
        (refine r_op ?_)
        refine o_call rfl (find_spec slot RLv (by omega)) rfl ?_
        rintro v B ⟨rfl, rfl⟩
        obtain ⟨ix, hix⟩ : ∃ ix, L.findIdx (isAt slot) = ix := ⟨_, rfl⟩
        rw [show (L.findIdx fun y => decide ((y.1 : Int) = slot)) = ix from hix]
        (simp only [List.cons_append, List.nil_append])
        (refine r_op (o_assign rfl rfl ?_); refine r_nil ?_; refine x_seq ?_; refine x_seq (x_region ?_); refine r_op (o_fieldAddr rfl rfl ?_); refine r_op (o_load rfl rfl rfl rfl ?_))
        (refine r_op ?_)
        refine o_call rfl (within_spec x.k 8 (by decide)) rfl ?_
        rintro v B ⟨⟨w, rfl, hw0, hw1, -⟩, rfl⟩
        (simp only [List.nil_append])
        (refine r_nil ?_)
        obtain ⟨w, rfl⟩ : ∃ i : Nat, w = i := ⟨w.toNat, by omega⟩
        by_cases hlong : ¬ (w = 4 ∨ w = 5 ∨ w = 6 ∨ w = 7) ∧ n < x.s.length + 16
        · (refine x_block ?_; refine x_seq ?_; refine x_seq (x_region ?_); refine r_op (o_eql_f rfl rfl (by omega) rfl ?_); refine r_op (o_assign rfl rfl ?_); refine r_nil ?_; refine x_false rfl ?_; refine x_region ?_; refine r_op (o_eql_f rfl rfl (by omega) rfl ?_); refine r_op (o_assign rfl rfl ?_); refine r_nil ?_; refine x_false rfl ?_; refine x_seq (x_region ?_); refine r_op (o_eql_f rfl rfl (by omega) rfl ?_); refine r_op (o_assign rfl rfl ?_); refine r_nil ?_; refine x_false rfl ?_; refine x_seq (x_region ?_); refine r_op (o_eql_f rfl rfl (by omega) rfl ?_); refine r_op (o_assign rfl rfl ?_); refine r_nil ?_; refine x_false rfl ?_; refine x_seq (x_region ?_); refine r_op (o_move rfl rfl ?_); refine r_op (o_fieldAddr rfl rfl ?_); refine r_op (o_load rfl rfl rfl rfl ?_))
          (refine r_op ?_)
          refine o_call rfl (putLong_spec ps b (newD bs) hc.okn f n ⟨hn1, by omega⟩ es hes x.s hlong.2 (by omega)) rfl ?_
          rintro v B ⟨rfl, rfl⟩
          (simp only [List.cons_append, List.nil_append])
          (refine r_op (o_move rfl rfl ?_); refine r_op (o_extract rfl rfl rfl ?_); refine r_op (o_extract rfl rfl rfl ?_); refine r_op (o_assign rfl rfl ?_); refine r_op (o_assign rfl rfl ?_); refine r_nil ?_; refine x_seq ?_; refine x_seq (x_region ?_); refine r_op (o_fieldAddr rfl rfl ?_); refine r_op (o_load rfl rfl rfl rfl ?_); refine r_op (o_lenStr rfl rfl ?_))
          rw [bstr_size]
          (refine r_op (o_add rfl rfl (add_i64 (by omega)) rfl ?_); refine r_op (o_move rfl rfl ?_); refine r_op (o_gtr_t rfl rfl (by omega) rfl ?_); refine r_nil ?_; refine x_true rfl ?_; refine x_seq ?_; refine x_seq (x_region ?_); refine r_op (o_move rfl rfl ?_))
          (refine r_op ?_)
          refine o_call rfl (num10_spec 2) rfl ?_
          rintro v B ⟨rfl, rfl⟩
          (simp only [List.nil_append])
          (refine r_op (o_neq_f rfl rfl (by omega) rfl ?_); refine r_nil ?_; refine x_false rfl ?_; refine x_skip ?_; refine x_exit rfl ?_; refine x_region ?_; refine r_op (o_move rfl rfl ?_); refine r_op (o_add rfl rfl (add_i64 (by omega)) rfl ?_); refine r_op (o_assign rfl rfl ?_); refine r_nil ?_)
          subst hL
          refine x_mem (Γ' := ShelfI ps b ⟨f, n, es, false⟩ :: DiskI b (newD bs) :: Sl 2 al (live 0 es).length cl ((live 0 es).flatMap yv) :: A :: Row b0 0 p.cells :: Γ) Sub.h ?_
          refine x_weak (back ⟨i + 1, bs, es, al, cl, b, ps⟩ ⟨by dsimp only; omega, hc, hh, by dsimp only; omega⟩ (by dsimp only; omega)) (by (repeat' (first | exact trivial | refine ⟨rfl, ?_⟩))) Sub.h
        · refine x_cutK (α := MS) (fun q => Calm q.bs ∧ Holds n q.es (q.bs.getD f []) ∧ (live 0 q.es).length ≤ i + 1)
            (fun q => [(1, dp b0), (3, .int .i64 f), (4, .int .i64 n), (5, dp q.b), (6, dp q.ps), (8, .slice q.al (live 0 q.es).length q.cl), (9, .int .i64 i)])
            (fun q => ShelfI q.ps q.b ⟨f, n, q.es, false⟩ :: DiskI q.b (newD q.bs) :: Sl 2 q.al (live 0 q.es).length q.cl ((live 0 q.es).flatMap yv) :: A :: Row b0 0 p.cells :: Γ) ?_ ?_
          · rintro ⟨i', bs, es, al, cl, b, ps⟩ ⟨hc, hh, hl⟩
            dsimp only at hc hh hl ⊢
            have hes2 : es.length ≤ 128 := hh.len (by omega)
            obtain ⟨M, hM⟩ : ∃ M, live 0 es = M := ⟨_, rfl⟩
            have Ren := entries_spec ps b 1000 ⟨f, n, es, false⟩ (by show es.length ≤ _; omega) (by decide)
            have hlen : Sh.len ⟨f, n, es, false⟩ = M.length := by unfold Sh.len; rw [← hM]
            have hMl : M.length ≤ 128 := by have := live_len es 0; rw [hM] at this; omega
            rw [show live 0 (⟨f, n, es, false⟩ : Sh).es = M from hM, List.take_of_length_le (by omega)] at Ren
            rw [hM]
            have RM := Sl.reads 2 al M.length cl (M.flatMap yv) (flen yv_cl M)
            (refine x_seq (x_region ?_); refine r_op (o_move rfl rfl ?_))
            (refine r_op ?_)
            refine o_call rfl Ren rfl ?_
            rintro v B ⟨a5, c5, rfl, rfl⟩
            have RM2 := Sl.reads 2 a5 M.length c5 (M.flatMap yv) (flen yv_cl M)
            (simp only [List.cons_append, List.nil_append])
            (refine r_op (o_assign rfl rfl ?_); refine r_nil ?_; refine x_seq ?_; refine x_seq (x_region ?_); refine r_op (o_move rfl rfl ?_); refine r_op (o_lenS rfl rfl ?_); refine r_op (o_move rfl rfl ?_); refine r_op (o_lenS rfl rfl ?_); refine r_op (o_neq_f rfl rfl (by omega) rfl ?_); refine r_op (o_move rfl rfl ?_); refine r_guard rfl (o_move rfl rfl ?_))
            (refine r_guard rfl ?_)
            refine o_call rfl (len_spec ps b ⟨f, n, es, false⟩ (by show es.length ≤ _; omega)) rfl ?_
            rintro v B ⟨rfl, rfl⟩
            rw [hlen]
            (simp only [List.cons_append, List.nil_append])
            (refine r_guard rfl (o_move rfl rfl ?_); refine r_guard rfl (o_lenS rfl rfl ?_); refine r_guard rfl (o_neq_f rfl rfl (by omega) rfl ?_); refine r_op (o_pick_f rfl rfl rfl ?_); refine r_op (o_move rfl rfl ?_); refine r_guard rfl (o_move rfl rfl ?_))
            (refine r_guard rfl ?_)
            refine o_call rfl (failed_spec ps b ⟨f, n, es, false⟩) rfl ?_
            rintro v B ⟨rfl, rfl⟩
            (simp only [List.cons_append, List.nil_append])
            (refine r_op (o_pick_f rfl rfl rfl ?_); refine r_nil ?_; refine x_false rfl ?_; refine x_skip ?_; refine x_seq ?_; refine x_seq (x_region ?_); refine r_op (o_assign rfl rfl ?_); refine r_nil ?_)
            (refine x_block ?_)
            refine x_loop (α := Nat) (fun j => j ≤ M.length) (fun j => [(1, dp b0), (3, .int .i64 f), (4, .int .i64 n), (5, dp b), (6, dp ps), (8, .slice al M.length cl), (9, .int .i64 i), (22, .slice a5 M.length c5), (23, .int .i64 j)])
              (fun _ => ShelfI ps b ⟨f, n, es, false⟩ :: Sl 2 a5 M.length c5 (M.flatMap yv) :: DiskI b (newD bs) :: Sl 2 al M.length cl (M.flatMap yv) :: A :: Row b0 0 p.cells :: Γ)
              (fun j => M.length - j) 0 (Nat.zero_le _) ⟨rfl, rfl, rfl, rfl, rfl, rfl, rfl, rfl, rfl, trivial⟩ (.refl _) ?_
            intro j hj back3
            (refine x_seq ?_; refine x_seq (x_region ?_); refine r_op (o_move rfl rfl ?_); refine r_op (o_move rfl rfl ?_); refine r_op (o_lenS rfl rfl ?_))
            (refine r_op ?_)
            refine o_lss rfl rfl rfl (fun hjl => ?_) (fun hjl => ?_)
            · have hj1 : j < M.length := by omega
              have hget : ∀ (jj : Nat) (v : Value), (yv M[j])[jj]? = some v → (M.flatMap yv)[j * 2 + jj]? = some v := fun jj v hv => by
                have hjj : jj < 2 := (List.getElem?_eq_some_iff.1 hv).1
                exact (fget yv_cl hj1 jj hjj).trans hv
              (refine r_nil ?_; refine x_true rfl ?_; refine x_skip ?_; refine x_seq ?_; refine x_block ?_; refine x_seq ?_)
              refine x_base RM2 (by omega) fun b1 o1 ha1 => ?_
              refine x_base RM (by omega) fun b2 o2 ha2 => ?_
              refine x_script 9 [(0,false),(1,false),(2,false),(3,false),(4,false),(5,false),(6,false),(7,false),(8,false)] [Sl 2 a5 M.length c5 (M.flatMap yv), Sl 2 al M.length cl (M.flatMap yv)] mixed (by kernel_rfl) permF ?_
              (refine s_v rfl (v_move rfl) ?_; refine s_v rfl (v_move rfl) ?_)
              refine s_v rfl (v_indexH rfl rfl ha1 (j := j) rfl hj1) ?_
              refine s_v rfl (v_loadAR rfl RM2 ha1 (i := j * 2) (us := yv M[j]) (by omega) rfl hget) ?_
              (refine s_v rfl (v_move rfl) ?_; refine s_v rfl (v_move rfl) ?_)
              refine s_v rfl (v_indexH rfl rfl ha2 (j := j) rfl hj1) ?_
              refine s_v rfl (v_loadAR rfl RM ha2 (i := j * 2) (us := yv M[j]) (by omega) rfl hget) ?_
              refine s_v rfl (v_neqE rfl rfl) ?_
              refine s_end rfl ?_
              (refine x_false rfl ?_; refine x_skip ?_; refine x_inBlock ?_; refine x_region ?_; refine r_op (o_move rfl rfl ?_); refine r_op (o_add rfl rfl (add_i64 (by omega)) rfl ?_); refine r_op (o_assign rfl rfl ?_); refine r_nil ?_)
              refine x_weak (back3 (j + 1) (by omega) (by omega)) (by (repeat' (first | exact trivial | refine ⟨rfl, ?_⟩))) Sub.h
            · (refine r_nil ?_; refine x_false rfl ?_; refine x_exit rfl ?_; refine x_seq (x_region ?_); refine r_op (o_move rfl rfl ?_); refine r_op (o_move rfl rfl ?_); refine r_op (o_lenS rfl rfl ?_); refine r_op (o_quo rfl rfl (by omega) (by omega) (in_i64 (by omega)) rfl ?_))
              rw [show (M.length : Int) / 2 = ((M.length / 2 : Nat) : Int) by omega]
              have Ren2 := entries_spec ps b (M.length / 2) ⟨f, n, es, false⟩ (by show es.length ≤ _; omega) (by omega)
              rw [show live 0 (⟨f, n, es, false⟩ : Sh).es = M from hM, List.length_take, Nat.min_eq_left (by omega)] at Ren2
              (refine r_op ?_)
              refine o_call rfl Ren2 rfl ?_
              rintro v B ⟨a6, c6, rfl, rfl⟩
              (simp only [List.cons_append, List.nil_append])
              (refine r_op (o_lenS rfl rfl ?_); refine r_op (o_move rfl rfl ?_); refine r_op (o_lenS rfl rfl ?_); refine r_op (o_quo rfl rfl (by omega) (by omega) (in_i64 (by omega)) rfl ?_); refine r_op (o_neq_f rfl rfl (by omega) rfl ?_); refine r_nil ?_; refine x_false rfl ?_; refine x_skip ?_; refine x_inBlock ?_; refine x_region ?_; refine r_op (o_move rfl rfl ?_); refine r_op (o_add rfl rfl (add_i64 (by omega)) rfl ?_); refine r_op (o_assign rfl rfl ?_); refine r_nil ?_)
              subst hM
              refine x_mem (Γ' := ShelfI ps b ⟨f, n, es, false⟩ :: DiskI b (newD bs) :: Sl 2 al (live 0 es).length cl ((live 0 es).flatMap yv) :: A :: Row b0 0 p.cells :: Γ) Sub.h ?_
              refine x_weak (back ⟨i + 1, bs, es, al, cl, b, ps⟩ ⟨by dsimp only; omega, hc, hh, hl⟩ (by dsimp only; omega)) (by (repeat' (first | exact trivial | refine ⟨rfl, ?_⟩))) Sub.h
          · intro td back2
            by_cases h4 : w = 4 ∨ w = 5
            · cases htx : Sh.txt ⟨f, n, es, false⟩ slot with
              | none =>
                have hix2 := txt_none htx
                rw [hL, hix] at hix2
                rw [if_neg (by omega)]
                rcases h4 with rfl | rfl
                · (refine x_block ?_; refine x_seq ?_; refine x_seq (x_region ?_); refine r_op (o_eql_t rfl rfl (by omega) rfl ?_); refine r_op (o_assign rfl rfl ?_); refine r_nil ?_; refine x_true rfl ?_; refine x_skip ?_; refine x_true rfl ?_; refine x_seq (x_region ?_); refine r_op (o_move rfl rfl ?_); refine r_op (o_move rfl rfl ?_))
                  (refine r_op ?_)
                  refine o_call rfl (delNone_spec ps b hc (f := f) ⟨hn1, hn2⟩ hes htx) rfl ?_
                  rintro v B ⟨rfl, rfl⟩
                  (simp only [List.cons_append, List.nil_append])
                  (refine r_op ?_)
                  refine o_call rfl (num10_spec 3) rfl ?_
                  rintro v B ⟨rfl, rfl⟩
                  (simp only [List.nil_append])
                  (refine r_op (o_assign rfl rfl ?_); refine r_nil ?_; refine x_seq ?_; refine x_seq (x_region ?_); refine r_op (o_move rfl rfl ?_); refine r_op (o_lss_t rfl rfl (by omega) rfl ?_); refine r_op (o_move rfl rfl ?_); refine r_guard rfl (o_move rfl rfl ?_); refine r_guard rfl (o_neq_f rfl rfl (by omega) rfl ?_); refine r_op (o_pick_t rfl rfl rfl ?_); refine r_op (o_move rfl rfl ?_); refine r_guard rfl (o_move rfl rfl ?_); refine r_guard rfl (o_geq_f rfl rfl (by omega) rfl ?_); refine r_guard rfl (o_move rfl rfl ?_); refine r_skip rfl rfl rfl ?_; refine r_skip rfl rfl rfl ?_; refine r_guard rfl (o_pick_f rfl rfl rfl ?_); refine r_op (o_pick_f rfl rfl rfl ?_); refine r_nil ?_; refine x_false rfl ?_; refine x_skip ?_; refine x_seq (x_region ?_); refine r_op (o_move rfl rfl ?_); refine r_op (o_geq_f rfl rfl (by omega) rfl ?_); refine r_nil ?_; refine x_false rfl ?_; refine x_skip ?_; refine x_inBlock ?_)
                  subst hL
                  refine x_mem (Γ' := ShelfI ps b ⟨f, n, es, false⟩ :: DiskI b (newD bs) :: Sl 2 al (live 0 es).length cl ((live 0 es).flatMap yv) :: A :: Row b0 0 p.cells :: Γ) Sub.h ?_
                  refine x_weak (back2 ⟨i, bs, es, al, cl, b, ps⟩ ⟨hc, hh, by dsimp only; omega⟩) (by (repeat' (first | exact trivial | refine ⟨rfl, ?_⟩))) Sub.h
                · (refine x_block ?_; refine x_seq ?_; refine x_seq (x_region ?_); refine r_op (o_eql_f rfl rfl (by omega) rfl ?_); refine r_op (o_assign rfl rfl ?_); refine r_nil ?_; refine x_false rfl ?_; refine x_region ?_; refine r_op (o_eql_t rfl rfl (by omega) rfl ?_); refine r_op (o_assign rfl rfl ?_); refine r_nil ?_; refine x_true rfl ?_; refine x_seq (x_region ?_); refine r_op (o_move rfl rfl ?_); refine r_op (o_move rfl rfl ?_))
                  (refine r_op ?_)
                  refine o_call rfl (delNone_spec ps b hc (f := f) ⟨hn1, hn2⟩ hes htx) rfl ?_
                  rintro v B ⟨rfl, rfl⟩
                  (simp only [List.cons_append, List.nil_append])
                  (refine r_op ?_)
                  refine o_call rfl (num10_spec 3) rfl ?_
                  rintro v B ⟨rfl, rfl⟩
                  (simp only [List.nil_append])
                  (refine r_op (o_assign rfl rfl ?_); refine r_nil ?_; refine x_seq ?_; refine x_seq (x_region ?_); refine r_op (o_move rfl rfl ?_); refine r_op (o_lss_t rfl rfl (by omega) rfl ?_); refine r_op (o_move rfl rfl ?_); refine r_guard rfl (o_move rfl rfl ?_); refine r_guard rfl (o_neq_f rfl rfl (by omega) rfl ?_); refine r_op (o_pick_t rfl rfl rfl ?_); refine r_op (o_move rfl rfl ?_); refine r_guard rfl (o_move rfl rfl ?_); refine r_guard rfl (o_geq_f rfl rfl (by omega) rfl ?_); refine r_guard rfl (o_move rfl rfl ?_); refine r_skip rfl rfl rfl ?_; refine r_skip rfl rfl rfl ?_; refine r_guard rfl (o_pick_f rfl rfl rfl ?_); refine r_op (o_pick_f rfl rfl rfl ?_); refine r_nil ?_; refine x_false rfl ?_; refine x_skip ?_; refine x_seq (x_region ?_); refine r_op (o_move rfl rfl ?_); refine r_op (o_geq_f rfl rfl (by omega) rfl ?_); refine r_nil ?_; refine x_false rfl ?_; refine x_skip ?_; refine x_inBlock ?_)
                  subst hL
                  refine x_mem (Γ' := ShelfI ps b ⟨f, n, es, false⟩ :: DiskI b (newD bs) :: Sl 2 al (live 0 es).length cl ((live 0 es).flatMap yv) :: A :: Row b0 0 p.cells :: Γ) Sub.h ?_
                  refine x_weak (back2 ⟨i, bs, es, al, cl, b, ps⟩ ⟨hc, hh, by dsimp only; omega⟩) (by (repeat' (first | exact trivial | refine ⟨rfl, ?_⟩))) Sub.h
              | some t =>
                have htx2 := txt_some htx
                have hh3 := live_hit es 0 slot.toNat t htx2.2
                rw [Nat.zero_add, Int.toNat_of_nonneg htx2.1, hL, hix] at hh3
                rw [if_pos hh3.1]
                rcases h4 with rfl | rfl
                · (refine x_block ?_; refine x_seq ?_; refine x_seq (x_region ?_); refine r_op (o_eql_t rfl rfl (by omega) rfl ?_); refine r_op (o_assign rfl rfl ?_); refine r_nil ?_; refine x_true rfl ?_; refine x_skip ?_; refine x_true rfl ?_; refine x_seq (x_region ?_); refine r_op (o_move rfl rfl ?_); refine r_op (o_move rfl rfl ?_))
                  (refine r_op ?_)
                  refine o_call rfl (delC_spec ps b hc (f := f) (n := n) hf ⟨hn1, hn2⟩ hh htx) rfl ?_
                  rintro v B ⟨b', rfl, rfl, hh2⟩
                  (simp only [List.cons_append, List.nil_append])
                  (refine r_op ?_)
                  refine o_call rfl (num10_spec 0) rfl ?_
                  rintro v B ⟨rfl, rfl⟩
                  (simp only [List.nil_append])
                  (refine r_op (o_assign rfl rfl ?_); refine r_nil ?_; refine x_seq ?_; refine x_seq (x_region ?_); refine r_op (o_move rfl rfl ?_); refine r_op (o_lss_f rfl rfl (by omega) rfl ?_); refine r_op (o_move rfl rfl ?_); refine r_skip rfl rfl rfl ?_; refine r_skip rfl rfl rfl ?_; refine r_op (o_pick_f rfl rfl rfl ?_); refine r_op (o_move rfl rfl ?_); refine r_guard rfl (o_move rfl rfl ?_); refine r_guard rfl (o_geq_t rfl rfl (by omega) rfl ?_); refine r_guard rfl (o_move rfl rfl ?_); refine r_guard rfl (o_move rfl rfl ?_); refine r_guard rfl (o_neq_f rfl rfl (by omega) rfl ?_); refine r_guard rfl (o_pick_t rfl rfl rfl ?_); refine r_op (o_pick_f rfl rfl rfl ?_); refine r_nil ?_; refine x_false rfl ?_; refine x_skip ?_; refine x_seq (x_region ?_); refine r_op (o_move rfl rfl ?_); refine r_op (o_geq_t rfl rfl (by omega) rfl ?_); refine r_nil ?_; refine x_true rfl ?_)
                  have R1 := RLv.firstN ix (Nat.le_of_lt hh3.1)
                  rw [yv_take] at R1
                  refine x_sl al fun _ hcap => ?_
                  have R2 := RLv.sub cl (ix + 1) L.length hh3.1 (Nat.le_refl _) hcap
                  rw [yv_drop, List.take_of_length_le (by rw [flen yv_cl]; simp)] at R2
                  refine x_script 10 [(1,false),(2,false),(3,false),(5,false),(6,false),(7,false),(8,false),(0,true),(4,true),(9,true),(10,false)] [Sl 2 al L.length cl (L.flatMap yv)] mixed (by kernel_rfl) permF ?_
                  (refine s_v rfl (v_move rfl) ?_; refine s_v rfl (v_move rfl) ?_)
                  refine s_v rfl (v_sliceHi rfl rfl (jh := ix) rfl (by omega)) ?_
                  (refine s_v rfl (v_move rfl) ?_; refine s_v rfl (v_move rfl) ?_)
                  refine s_v rfl (v_add rfl rfl (add_i64 (by omega))) ?_
                  skip
                  refine s_v rfl (v_sliceLo rfl rfl (jl := ix + 1) (by omega) hh3.1) ?_
                  refine s_x rfl (o_buildSlice rfl (by rfl) (by rfl) (by rfl) (by rfl) rfl (fun a11 => ?_))
                  refine ⟨permF, ?_⟩
                  refine s_x rfl (o_append rfl rfl R1 (by rfl) (by rfl) (yv_one _) (by omega) rfl (fun a12 c12 hc12 => ?_))
                  refine ⟨permF, ?_⟩
                  refine s_x rfl (o_append rfl rfl R2 (by rfl) (by rfl) (yv_one _) (by omega) rfl (fun a15 c15 hc15 => ?_))
                  refine ⟨permF, ?_⟩
                  (refine s_v rfl (v_assign rfl) ?_)
                  refine s_end rfl ?_
                  obtain ⟨es2, hes2⟩ : ∃ e, es.set slot.toNat none = e := ⟨_, rfl⟩
                  have hlp := hh3.2.2
                  rw [hes2] at hlp hh2 ⊢
                  have hl2 : (live 0 es2).length = L.length - 1 := by rw [hlp]; simp; omega
                  have hf2 : (live 0 es2).flatMap yv = ([] ++ (L.take ix).flatMap yv ++ (L.drop (ix + 1)).flatMap yv) := by
                    rw [hlp]; simp
                  rw [show 0 + ix + (L.length - (ix + 1)) = (live 0 es2).length by rw [hl2]; omega, ← hf2]
                  (refine x_inBlock ?_)
                  refine x_mem (Γ' := ShelfI ps b ⟨f, n, es2, false⟩ :: DiskI b (newD (bs.set f b')) :: Sl 2 a15 (live 0 es2).length c15 ((live 0 es2).flatMap yv) :: A :: Row b0 0 p.cells :: Γ) Sub.h ?_
                  refine x_weak (back2 ⟨i, bs.set f b', es2, a15, c15, b, ps⟩ ⟨hc.set f (hh2.size ⟨hn1, hn2⟩), by dsimp only; rw [getD_set hc.h8 hf]; exact hh2, by dsimp only; rw [hl2]; omega⟩) (by (repeat' (first | exact trivial | refine ⟨rfl, ?_⟩))) Sub.h
                · (refine x_block ?_; refine x_seq ?_; refine x_seq (x_region ?_); refine r_op (o_eql_f rfl rfl (by omega) rfl ?_); refine r_op (o_assign rfl rfl ?_); refine r_nil ?_; refine x_false rfl ?_; refine x_region ?_; refine r_op (o_eql_t rfl rfl (by omega) rfl ?_); refine r_op (o_assign rfl rfl ?_); refine r_nil ?_; refine x_true rfl ?_; refine x_seq (x_region ?_); refine r_op (o_move rfl rfl ?_); refine r_op (o_move rfl rfl ?_))
                  (refine r_op ?_)
                  refine o_call rfl (delC_spec ps b hc (f := f) (n := n) hf ⟨hn1, hn2⟩ hh htx) rfl ?_
                  rintro v B ⟨b', rfl, rfl, hh2⟩
                  (simp only [List.cons_append, List.nil_append])
                  (refine r_op ?_)
                  refine o_call rfl (num10_spec 0) rfl ?_
                  rintro v B ⟨rfl, rfl⟩
                  (simp only [List.nil_append])
                  (refine r_op (o_assign rfl rfl ?_); refine r_nil ?_; refine x_seq ?_; refine x_seq (x_region ?_); refine r_op (o_move rfl rfl ?_); refine r_op (o_lss_f rfl rfl (by omega) rfl ?_); refine r_op (o_move rfl rfl ?_); refine r_skip rfl rfl rfl ?_; refine r_skip rfl rfl rfl ?_; refine r_op (o_pick_f rfl rfl rfl ?_); refine r_op (o_move rfl rfl ?_); refine r_guard rfl (o_move rfl rfl ?_); refine r_guard rfl (o_geq_t rfl rfl (by omega) rfl ?_); refine r_guard rfl (o_move rfl rfl ?_); refine r_guard rfl (o_move rfl rfl ?_); refine r_guard rfl (o_neq_f rfl rfl (by omega) rfl ?_); refine r_guard rfl (o_pick_t rfl rfl rfl ?_); refine r_op (o_pick_f rfl rfl rfl ?_); refine r_nil ?_; refine x_false rfl ?_; refine x_skip ?_; refine x_seq (x_region ?_); refine r_op (o_move rfl rfl ?_); refine r_op (o_geq_t rfl rfl (by omega) rfl ?_); refine r_nil ?_; refine x_true rfl ?_)
                  have R1 := RLv.firstN ix (Nat.le_of_lt hh3.1)
                  rw [yv_take] at R1
                  refine x_sl al fun _ hcap => ?_
                  have R2 := RLv.sub cl (ix + 1) L.length hh3.1 (Nat.le_refl _) hcap
                  rw [yv_drop, List.take_of_length_le (by rw [flen yv_cl]; simp)] at R2
                  refine x_script 10 [(1,false),(2,false),(3,false),(5,false),(6,false),(7,false),(8,false),(0,true),(4,true),(9,true),(10,false)] [Sl 2 al L.length cl (L.flatMap yv)] mixed (by kernel_rfl) permF ?_
                  (refine s_v rfl (v_move rfl) ?_; refine s_v rfl (v_move rfl) ?_)
                  refine s_v rfl (v_sliceHi rfl rfl (jh := ix) rfl (by omega)) ?_
                  (refine s_v rfl (v_move rfl) ?_; refine s_v rfl (v_move rfl) ?_)
                  refine s_v rfl (v_add rfl rfl (add_i64 (by omega))) ?_
                  skip
                  refine s_v rfl (v_sliceLo rfl rfl (jl := ix + 1) (by omega) hh3.1) ?_
                  refine s_x rfl (o_buildSlice rfl (by rfl) (by rfl) (by rfl) (by rfl) rfl (fun a11 => ?_))
                  refine ⟨permF, ?_⟩
                  refine s_x rfl (o_append rfl rfl R1 (by rfl) (by rfl) (yv_one _) (by omega) rfl (fun a12 c12 hc12 => ?_))
                  refine ⟨permF, ?_⟩
                  refine s_x rfl (o_append rfl rfl R2 (by rfl) (by rfl) (yv_one _) (by omega) rfl (fun a15 c15 hc15 => ?_))
                  refine ⟨permF, ?_⟩
                  (refine s_v rfl (v_assign rfl) ?_)
                  refine s_end rfl ?_
                  obtain ⟨es2, hes2⟩ : ∃ e, es.set slot.toNat none = e := ⟨_, rfl⟩
                  have hlp := hh3.2.2
                  rw [hes2] at hlp hh2 ⊢
                  have hl2 : (live 0 es2).length = L.length - 1 := by rw [hlp]; simp; omega
                  have hf2 : (live 0 es2).flatMap yv = ([] ++ (L.take ix).flatMap yv ++ (L.drop (ix + 1)).flatMap yv) := by
                    rw [hlp]; simp
                  rw [show 0 + ix + (L.length - (ix + 1)) = (live 0 es2).length by rw [hl2]; omega, ← hf2]
                  (refine x_inBlock ?_)
                  refine x_mem (Γ' := ShelfI ps b ⟨f, n, es2, false⟩ :: DiskI b (newD (bs.set f b')) :: Sl 2 a15 (live 0 es2).length c15 ((live 0 es2).flatMap yv) :: A :: Row b0 0 p.cells :: Γ) Sub.h ?_
                  refine x_weak (back2 ⟨i, bs.set f b', es2, a15, c15, b, ps⟩ ⟨hc.set f (hh2.size ⟨hn1, hn2⟩), by dsimp only; rw [getD_set hc.h8 hf]; exact hh2, by dsimp only; rw [hl2]; omega⟩) (by (repeat' (first | exact trivial | refine ⟨rfl, ?_⟩))) Sub.h
            by_cases h6 : w = 6
            · subst h6
              (refine x_block ?_; refine x_seq ?_; refine x_seq (x_region ?_); refine r_op (o_eql_f rfl rfl (by omega) rfl ?_); refine r_op (o_assign rfl rfl ?_); refine r_nil ?_; refine x_false rfl ?_; refine x_region ?_; refine r_op (o_eql_f rfl rfl (by omega) rfl ?_); refine r_op (o_assign rfl rfl ?_); refine r_nil ?_; refine x_false rfl ?_; refine x_seq (x_region ?_); refine r_op (o_eql_t rfl rfl (by omega) rfl ?_); refine r_op (o_assign rfl rfl ?_); refine r_nil ?_; refine x_true rfl ?_; refine x_seq (x_region ?_); refine r_op (o_move rfl rfl ?_); refine r_op (o_move rfl rfl ?_))
              (refine r_op ?_)
              refine o_call rfl (get_spec ps b ⟨f, n, es, false⟩ slot (by show es.length ≤ _; omega)) rfl ?_
              rintro v B ⟨rfl, rfl⟩
              cases htx : Sh.txt ⟨f, n, es, false⟩ slot with
              | none =>
                have hix2 := txt_none htx
                rw [hL, hix] at hix2
                rw [show Sh.get ⟨f, n, es, false⟩ slot = ([], 3) by unfold Sh.get; rw [htx], if_neg (by omega)]
                (simp only [List.cons_append, List.nil_append])
                (refine r_op (o_move rfl rfl ?_); refine r_op (o_extract rfl rfl rfl ?_); refine r_op (o_extract rfl rfl rfl ?_); refine r_op (o_assign rfl rfl ?_); refine r_op (o_assign rfl rfl ?_); refine r_nil ?_; refine x_seq (x_region ?_); refine r_op (o_move rfl rfl ?_); refine r_op (o_lss_t rfl rfl (by omega) rfl ?_); refine r_op (o_move rfl rfl ?_); refine r_guard rfl (o_move rfl rfl ?_))
                (refine r_guard rfl ?_)
                refine o_call rfl (num10_spec 3) rfl ?_
                rintro v B ⟨rfl, rfl⟩
                (simp only [List.nil_append])
                (refine r_guard rfl (o_neq_f rfl rfl (by omega) rfl ?_); refine r_guard rfl (o_move rfl rfl ?_); refine r_guard rfl (o_move rfl rfl ?_))
                (refine r_guard rfl ?_)
                refine o_sneq_f rfl rfl (by rfl) rfl ?_
                (refine r_guard rfl (o_pick_f rfl rfl rfl ?_); refine r_op (o_pick_t rfl rfl rfl ?_); refine r_op (o_move rfl rfl ?_); refine r_guard rfl (o_move rfl rfl ?_); refine r_guard rfl (o_geq_f rfl rfl (by omega) rfl ?_); refine r_guard rfl (o_move rfl rfl ?_); refine r_skip rfl rfl rfl ?_; refine r_skip rfl rfl rfl ?_; refine r_skip rfl rfl rfl ?_; refine r_skip rfl rfl rfl ?_; refine r_skip' rfl rfl ?_; refine r_skip' rfl rfl ?_; refine r_skip' rfl rfl ?_; refine r_skip' rfl rfl ?_; refine r_skip' rfl rfl ?_; refine r_skip' rfl rfl ?_; refine r_skip' rfl rfl ?_; refine r_skip rfl rfl rfl ?_; refine r_guard rfl (o_pick_f rfl rfl rfl ?_); refine r_op (o_pick_f rfl rfl rfl ?_); refine r_nil ?_; refine x_false rfl ?_; refine x_skip ?_; refine x_inBlock ?_)
                subst hL
                refine x_mem (Γ' := ShelfI ps b ⟨f, n, es, false⟩ :: DiskI b (newD bs) :: Sl 2 al (live 0 es).length cl ((live 0 es).flatMap yv) :: A :: Row b0 0 p.cells :: Γ) Sub.h ?_
                refine x_weak (back2 ⟨i, bs, es, al, cl, b, ps⟩ ⟨hc, hh, by dsimp only; omega⟩) (by (repeat' (first | exact trivial | refine ⟨rfl, ?_⟩))) Sub.h
              | some t =>
                have htx2 := txt_some htx
                have hh3 := live_hit es 0 slot.toNat t htx2.2
                rw [Nat.zero_add, Int.toNat_of_nonneg htx2.1, hL, hix] at hh3
                rw [show Sh.get ⟨f, n, es, false⟩ slot = (t, 0) by unfold Sh.get; rw [htx], if_pos hh3.1]
                (simp only [List.cons_append, List.nil_append])
                (refine r_op (o_move rfl rfl ?_); refine r_op (o_extract rfl rfl rfl ?_); refine r_op (o_extract rfl rfl rfl ?_); refine r_op (o_assign rfl rfl ?_); refine r_op (o_assign rfl rfl ?_); refine r_nil ?_; refine x_seq (x_region ?_); refine r_op (o_move rfl rfl ?_); refine r_op (o_lss_f rfl rfl (by omega) rfl ?_); refine r_op (o_move rfl rfl ?_); refine r_skip rfl rfl rfl ?_; refine r_skip rfl rfl rfl ?_; refine r_skip rfl rfl rfl ?_; refine r_skip rfl rfl rfl ?_; refine r_skip' rfl rfl ?_; refine r_skip' rfl rfl ?_; refine r_skip rfl rfl rfl ?_; refine r_op (o_pick_f rfl rfl rfl ?_); refine r_op (o_move rfl rfl ?_); refine r_guard rfl (o_move rfl rfl ?_); refine r_guard rfl (o_geq_t rfl rfl (by omega) rfl ?_); refine r_guard rfl (o_move rfl rfl ?_); refine r_guard rfl (o_move rfl rfl ?_))
                (refine r_guard rfl ?_)
                refine o_call rfl (num10_spec 0) rfl ?_
                rintro v B ⟨rfl, rfl⟩
                (simp only [List.nil_append])
                (refine r_guard rfl (o_neq_f rfl rfl (by omega) rfl ?_); refine r_guard rfl (o_move rfl rfl ?_); refine r_guard rfl (o_move rfl rfl ?_); refine r_guard rfl (o_move rfl rfl ?_); refine r_guard rfl (o_move rfl rfl ?_))
                (refine r_guard rfl ?_)
                refine o_indexR rfl rfl RLv (j := ix) rfl hh3.1 rfl (fun b1 off ha1 => ?_)
                (refine r_guard rfl (o_fieldAddr rfl rfl ?_))
                have hcell : (L.flatMap yv)[ix * 2 + 1]? = some (tv t) := by
                  rw [fget yv_cl hh3.1 1 (by decide)]
                  have := List.getElem?_eq_some_iff.1 hh3.2.1
                  rw [this.2]; rfl
                (refine r_guard rfl ?_)
                refine o_loadR rfl RLv ha1 (i := ix * 2 + 1) (by omega) hcell rfl ?_
                skip
                (refine r_guard rfl ?_)
                refine o_sneq_f rfl rfl (by rfl) rfl ?_
                (refine r_guard rfl (o_pick_f rfl rfl rfl ?_); refine r_guard rfl (o_pick_t rfl rfl rfl ?_); refine r_op (o_pick_f rfl rfl rfl ?_); refine r_nil ?_; refine x_false rfl ?_; refine x_skip ?_; refine x_inBlock ?_)
                subst hL
                refine x_mem (Γ' := ShelfI ps b ⟨f, n, es, false⟩ :: DiskI b (newD bs) :: Sl 2 al (live 0 es).length cl ((live 0 es).flatMap yv) :: A :: Row b0 0 p.cells :: Γ) Sub.h ?_
                refine x_weak (back2 ⟨i, bs, es, al, cl, b, ps⟩ ⟨hc, hh, by dsimp only; omega⟩) (by (repeat' (first | exact trivial | refine ⟨rfl, ?_⟩))) Sub.h
            by_cases h7 : w = 7
            · subst h7
              have cpk : Reads A 1 x.pa x.ps.length (x.ps.map iv) := Rx
              (refine x_block ?_; refine x_seq ?_; refine x_seq (x_region ?_); refine r_op (o_eql_f rfl rfl (by omega) rfl ?_); refine r_op (o_assign rfl rfl ?_); refine r_nil ?_; refine x_false rfl ?_; refine x_region ?_; refine r_op (o_eql_f rfl rfl (by omega) rfl ?_); refine r_op (o_assign rfl rfl ?_); refine r_nil ?_; refine x_false rfl ?_; refine x_seq (x_region ?_); refine r_op (o_eql_f rfl rfl (by omega) rfl ?_); refine r_op (o_assign rfl rfl ?_); refine r_nil ?_; refine x_false rfl ?_; refine x_seq (x_region ?_); refine r_op (o_eql_t rfl rfl (by omega) rfl ?_); refine r_op (o_assign rfl rfl ?_); refine r_nil ?_; refine x_true rfl ?_; refine x_seq (x_region ?_); refine r_op (o_move rfl rfl ?_); refine r_op (o_fieldAddr rfl rfl ?_); refine r_op (o_load rfl rfl rfl rfl ?_))
              (refine r_op ?_)
              refine o_call rfl (again_spec b hc Rx (by omega) (fun z hz => (Fx.2.2 z hz).2)) rfl ?_
              rintro v B ⟨b2, rfl, rfl⟩
              (simp only [List.cons_append, List.nil_append])
              (refine r_op (o_assign rfl rfl ?_); refine r_nil ?_; refine x_seq ?_; refine x_seq (x_region ?_); refine r_op (o_move rfl rfl ?_))
              (refine r_op ?_)
              refine o_peq (.inl rfl) rfl rfl (.inr rfl) rfl ?_
              (refine r_nil ?_; refine x_false rfl ?_; refine x_skip ?_; refine x_seq (x_region ?_); refine r_op (o_move rfl rfl ?_); refine r_op (o_move rfl rfl ?_); refine r_op (o_move rfl rfl ?_))
              (refine r_op ?_)
              refine o_call rfl (openC_spec b2 hc hf hfit hh) rfl ?_
              rintro v B ⟨ps2, b', rfl, rfl, hh2⟩
              have hc2 := hc.set f (hh2.size ⟨hn1, hn2⟩)
              have hg2 : Holds n (compact es) ((bs.set f b').getD f []) := by rw [getD_set hc.h8 hf]; exact hh2
              have hb'l : b'.length = L.length * n := by rw [hh2.2, compact_len es 0, hL]
              have hsz2 : (newD (bs.set f b')).size f = (((L.length * n : Nat) : Int), 0) := by
                unfold Dk.size
                rw [if_pos (newD_asks hc2.h8 hf), newD_file hc2.h8 hf, getD_set hc.h8 hf]
                show ((b'.length : Int), (0 : Int)) = _
                rw [hb'l]
              have hlc := live_compact es 0 0
              rw [hL] at hlc
              obtain ⟨bs2, hbs2⟩ : ∃ y, bs.set f b' = y := ⟨_, rfl⟩
              obtain ⟨es2, hes2⟩ : ∃ y, compact es = y := ⟨_, rfl⟩
              rw [hbs2] at hc2 hg2 hsz2 ⊢
              rw [hes2] at hg2 hlc ⊢
              (simp only [List.cons_append, List.nil_append])
              (refine r_op (o_move rfl rfl ?_); refine r_op (o_extract rfl rfl rfl ?_); refine r_op (o_extract rfl rfl rfl ?_); refine r_op (o_assign rfl rfl ?_); refine r_op (o_assign rfl rfl ?_); refine r_nil ?_; refine x_seq ?_; refine x_seq (x_region ?_); refine r_op (o_move rfl rfl ?_))
              (refine r_op ?_)
              refine o_call rfl (num10_spec 0) rfl ?_
              rintro v B ⟨rfl, rfl⟩
              (simp only [List.nil_append])
              (refine r_op (o_neq_f rfl rfl (by omega) rfl ?_); refine r_op (o_move rfl rfl ?_); refine r_guard rfl (o_move rfl rfl ?_))
              (refine r_guard rfl ?_)
              refine o_peq (.inl rfl) rfl rfl (.inr rfl) rfl ?_
              (refine r_op (o_pick_f rfl rfl rfl ?_); refine r_nil ?_; refine x_false rfl ?_; refine x_skip ?_; refine x_seq ?_; refine x_seq (x_region ?_); refine r_op (o_assign rfl rfl ?_); refine r_nil ?_)
              (refine x_block ?_)
              refine x_loop (α := Nat) (fun j => j ≤ L.length) (fun j => [(1, dp b0), (3, .int .i64 f), (4, .int .i64 n), (5, dp b2), (6, dp ps2), (8, .slice al L.length cl), (9, .int .i64 i), (16, .int .i64 j)])
                (fun j => Sl 2 al L.length cl ((renum L j).flatMap yv) :: ShelfI ps2 b2 ⟨f, n, es2, false⟩ :: DiskI b2 (newD bs2) :: A :: Row b0 0 p.cells :: Γ)
                (fun j => L.length - j) 0 (Nat.zero_le _) ⟨rfl, rfl, rfl, rfl, rfl, rfl, rfl, rfl, trivial⟩ (show Ent _ (Sl 2 al L.length cl (L.flatMap yv) :: _) from Sub.h) ?_
              intro j hj back4
              (refine x_seq ?_; refine x_seq (x_region ?_); refine r_op (o_move rfl rfl ?_); refine r_op (o_move rfl rfl ?_); refine r_op (o_lenS rfl rfl ?_))
              (refine r_op ?_)
              refine o_lss rfl rfl rfl (fun hjl => ?_) (fun hjl => ?_)
              · have hj1 : j < L.length := by omega
                have hrl := renum_len L j hj
                obtain ⟨hr1, hr2⟩ := renum_get L j hj1
                have RJ := Sl.reads 2 al L.length cl ((renum L j).flatMap yv) (by rw [flen yv_cl, hrl])
                (refine r_nil ?_; refine x_true rfl ?_; refine x_skip ?_; refine x_seq ?_; refine x_block ?_; refine x_region ?_; refine r_op (o_move rfl rfl ?_); refine r_op (o_move rfl rfl ?_); refine r_op (o_move rfl rfl ?_))
                (refine r_op ?_)
                refine o_indexR rfl rfl RJ (j := j) rfl hj1 rfl (fun b1 off ha1 => ?_)
                (refine r_op (o_fieldAddr rfl rfl ?_))
                (refine r_do ?_)
                refine o_storeS rfl rfl rfl ha1 (i := j * 2) (by omega) (by rw [flen yv_cl, hrl]; omega) ?_
                rw [yv_set _ j j hr1, hr2, renum_succ L j hj1]
                (refine r_nil ?_; refine x_inBlock ?_; refine x_region ?_; refine r_op (o_move rfl rfl ?_); refine r_op (o_add rfl rfl (add_i64 (by omega)) rfl ?_); refine r_op (o_assign rfl rfl ?_); refine r_nil ?_)
                refine x_weak (back4 (j + 1) (by omega) (by omega)) (by (repeat' (first | exact trivial | refine ⟨rfl, ?_⟩))) Sub.h
              · have hjL : j = L.length := by omega
                subst hjL
                have hrn : renum L L.length = live 0 es2 := by rw [hlc]; unfold renum; rw [List.drop_length, List.append_nil, List.take_of_length_le (by simp)]
                rw [hrn]
                have hl3 : (live 0 es2).length = L.length := by rw [hlc]; simp
                (refine r_nil ?_; refine x_false rfl ?_; refine x_exit rfl ?_; refine x_seq (x_region ?_); refine r_op (o_move rfl rfl ?_); refine r_op (o_move rfl rfl ?_))
                (refine r_op ?_)
                refine o_call rfl (size_spec b2 (newD bs2) f) rfl ?_
                rintro v B ⟨rfl, rfl⟩
                rw [hsz2]
                (simp only [List.cons_append, List.nil_append])
                (refine r_op (o_move rfl rfl ?_); refine r_op (o_extract rfl rfl rfl ?_); refine r_op (o_extract rfl rfl rfl ?_); refine r_op (o_assign rfl rfl ?_); refine r_op (o_assign rfl rfl ?_); refine r_nil ?_; refine x_seq (x_region ?_); refine r_op (o_move rfl rfl ?_))
                (refine r_op ?_)
                refine o_call rfl (num10_spec 0) rfl ?_
                rintro v B ⟨rfl, rfl⟩
                (simp only [List.nil_append])
                (refine r_op (o_neq_f rfl rfl (by omega) rfl ?_); refine r_op (o_move rfl rfl ?_); refine r_guard rfl (o_move rfl rfl ?_); refine r_guard rfl (o_move rfl rfl ?_); refine r_guard rfl (o_lenS rfl rfl ?_); refine r_guard rfl (o_move rfl rfl ?_))
                have hLn := mul_le (show L.length ≤ 2 ^ 10 by omega) (show n ≤ 2 ^ 10 by omega)
                (refine r_guard rfl ?_)
                refine o_mul rfl rfl (in_i64 (by rw [← Int.natCast_mul]; omega)) rfl ?_
                rw [← Int.natCast_mul]
                (refine r_guard rfl ?_)
                refine o_neq_f rfl rfl rfl rfl ?_
                (refine r_op (o_pick_f rfl rfl rfl ?_); refine r_nil ?_; refine x_false rfl ?_; refine x_skip ?_; refine x_inBlock ?_)
                rw [← hl3]
                refine x_mem (Γ' := ShelfI ps2 b2 ⟨f, n, es2, false⟩ :: DiskI b2 (newD bs2) :: Sl 2 al (live 0 es2).length cl ((live 0 es2).flatMap yv) :: A :: Row b0 0 p.cells :: Γ) Sub.h ?_
                refine x_weak (back2 ⟨i, bs2, es2, al, cl, b2, ps2⟩ ⟨hc2, hg2, by dsimp only; omega⟩) (by (repeat' (first | exact trivial | refine ⟨rfl, ?_⟩))) Sub.h
            have hsz : x.s.length + 16 ≤ n := by omega
            have hffl := ff_live es
            rw [hL] at hffl
            (refine x_block ?_; refine x_seq ?_; refine x_seq (x_region ?_); refine r_op (o_eql_f rfl rfl (by omega) rfl ?_); refine r_op (o_assign rfl rfl ?_); refine r_nil ?_; refine x_false rfl ?_; refine x_region ?_; refine r_op (o_eql_f rfl rfl (by omega) rfl ?_); refine r_op (o_assign rfl rfl ?_); refine r_nil ?_; refine x_false rfl ?_; refine x_seq (x_region ?_); refine r_op (o_eql_f rfl rfl (by omega) rfl ?_); refine r_op (o_assign rfl rfl ?_); refine r_nil ?_; refine x_false rfl ?_; refine x_seq (x_region ?_); refine r_op (o_eql_f rfl rfl (by omega) rfl ?_); refine r_op (o_assign rfl rfl ?_); refine r_nil ?_; refine x_false rfl ?_; refine x_seq (x_region ?_); refine r_op (o_move rfl rfl ?_); refine r_op (o_fieldAddr rfl rfl ?_); refine r_op (o_load rfl rfl rfl rfl ?_))
            (refine r_op ?_)
            refine o_call rfl (putC_spec ps b hc (f := f) (n := n) (es := es) (t := x.s) hf ⟨hn1, hn2⟩ hh hsz (by omega)) rfl ?_
            rintro v B ⟨b', rfl, rfl, hh2⟩
            have hlp := live_put es 0 x.s
            rw [hL, Nat.zero_add] at hlp
            obtain ⟨fr, hfr⟩ : ∃ fr, ff es = fr := ⟨_, rfl⟩
            rw [hfr] at hffl hlp hh2 ⊢
            obtain ⟨es2, hes2⟩ : ∃ e, putAt es fr x.s = e := ⟨_, rfl⟩
            rw [hes2] at hlp hh2 ⊢
            (simp only [List.cons_append, List.nil_append])
            (refine r_op (o_move rfl rfl ?_); refine r_op (o_extract rfl rfl rfl ?_); refine r_op (o_extract rfl rfl rfl ?_); refine r_op (o_assign rfl rfl ?_); refine r_op (o_assign rfl rfl ?_); refine r_nil ?_; refine x_seq ?_; refine x_seq (x_region ?_); refine r_op (o_fieldAddr rfl rfl ?_); refine r_op (o_load rfl rfl rfl rfl ?_); refine r_op (o_lenStr rfl rfl ?_))
            rw [bstr_size]
            (refine r_op (o_add rfl rfl (add_i64 (by omega)) rfl ?_); refine r_op (o_move rfl rfl ?_); refine r_op (o_gtr_f rfl rfl (by omega) rfl ?_); refine r_nil ?_; refine x_false rfl ?_; refine x_skip ?_; refine x_seq (x_region ?_); refine r_op (o_assign rfl rfl ?_); refine r_nil ?_; refine x_seq ?_)
            refine x_cutK (α := Unit) (fun _ => True) (fun _ => [(1, dp b0), (3, .int .i64 f), (4, .int .i64 n), (5, dp b), (6, dp ps), (8, .slice al L.length cl), (9, .int .i64 i), (10, dp px), (19, .int .i64 fr), (20, .int .i64 0), (21, .int .i64 fr)])
              (fun _ => Sl 2 al L.length cl (L.flatMap yv) :: Row px 0 x.cells :: ShelfI ps b ⟨f, n, es2, false⟩ :: DiskI b (newD (bs.set f b')) :: A :: Row b0 0 p.cells :: Γ) ?_ ?_
            · rintro - -
              (refine x_seq ?_; refine x_seq (x_region ?_); refine r_op (o_move rfl rfl ?_))
              (refine r_op ?_)
              refine o_call rfl (num10_spec 0) rfl ?_
              rintro v B ⟨rfl, rfl⟩
              (simp only [List.nil_append])
              (refine r_op (o_neq_f rfl rfl (by omega) rfl ?_); refine r_op (o_move rfl rfl ?_); refine r_guard rfl (o_move rfl rfl ?_); refine r_guard rfl (o_move rfl rfl ?_); refine r_guard rfl (o_neq_f rfl rfl (by omega) rfl ?_); refine r_op (o_pick_f rfl rfl rfl ?_); refine r_nil ?_; refine x_false rfl ?_; refine x_skip ?_)
              have R1 := RLv.firstN fr hffl
              rw [yv_take] at R1
              refine x_sl al fun _ hcap => ?_
              have R2 := RLv.sub cl fr L.length hffl (Nat.le_refl _) hcap
              rw [yv_drop, List.take_of_length_le (by rw [flen yv_cl]; simp)] at R2
              refine x_scriptT 15 [0, 4, 9, 10, 14] (.look 1 (.look 2 (.look 3 (.look 5 (.look 6 (.look 7 (.look 8 (.look 11 (.look 12 (.look 13 (.alt (.act 0 (.alt (.act 4 (.act 9 (.act 10 (.act 14 (.look 15 .nil))))) (.act 9 (.act 4 (.act 10 (.act 14 (.look 15 .nil))))))) (.act 9 (.act 0 (.act 4 (.act 10 (.act 14 (.look 15 .nil))))))))))))))))) [Sl 2 al L.length cl (L.flatMap yv), Row px 0 x.cells] mixed (by kernel_rfl) permF ?_
              refine t_v rfl (v_move rfl) ?_
              refine t_v rfl (v_move rfl) ?_
              refine t_v rfl (v_sliceHi rfl rfl (jh := fr) rfl (by omega)) ?_
              refine t_v rfl (v_move rfl) ?_
              refine t_v rfl (v_fieldAddr rfl) ?_
              refine t_v rfl (v_load rfl rfl rfl) ?_
              refine t_v rfl (v_build rfl (by rfl)) ?_
              refine t_v rfl (v_move rfl) ?_
              refine t_v rfl (v_move rfl) ?_
              refine t_v rfl (v_sliceLo rfl rfl (jl := fr) rfl hffl) ?_
              refine t_alt ?_ ?_
              · refine t_x rfl (o_buildSlice rfl (by rfl) (by rfl) (by rfl) (by rfl) rfl (fun a11 => ?_))
                refine ⟨permF, ?_⟩
                refine t_alt ?_ ?_
                · refine t_x rfl (o_append rfl rfl R1 (by rfl) (by rfl) (yv_one _) (by omega) rfl (fun a12 c12 hc12 => ?_))
                  refine ⟨permF, ?_⟩
                  refine t_x rfl (o_buildSlice rfl (by rfl) (by rfl) (by rfl) (by rfl) rfl (fun a13 => ?_))
                  refine ⟨permF, ?_⟩
                  refine t_x rfl (o_appendT rfl rfl (by rfl) (by rfl) (by rfl) (by omega) rfl (fun a14 c14 hc14 => ?_))
                  refine ⟨permF, ?_⟩
                  refine t_x rfl (o_append rfl rfl R2 (by rfl) (by rfl) (yv_one _) (by omega) rfl (fun a15 c15 hc15 => ?_))
                  refine ⟨permF, ?_⟩
                  refine t_v rfl (v_assign rfl) ?_
                  refine t_end rfl ?_
                  have hl2 : (live 0 es2).length = L.length + 1 := by rw [hlp]; simp; omega
                  have hf2 : (live 0 es2).flatMap yv = ([] ++ (L.take fr).flatMap yv ++ [Value.int IntKind.i64 fr, tv x.s] ++ (L.drop fr).flatMap yv) := by
                    rw [hlp]; simp [yv]
                  rw [show 0 + fr + 1 + (L.length - fr) = (live 0 es2).length by rw [hl2]; omega, ← hf2]
                  (refine x_inBlock ?_)
                  refine x_mem (Γ' := ShelfI ps b ⟨f, n, es2, false⟩ :: DiskI b (newD (bs.set f b')) :: Sl 2 a15 (live 0 es2).length c15 ((live 0 es2).flatMap yv) :: A :: Row b0 0 p.cells :: Γ) Sub.h ?_
                  refine x_weak (back2 ⟨i, bs.set f b', es2, a15, c15, b, ps⟩ ⟨hc.set f (hh2.size ⟨hn1, hn2⟩), by dsimp only; rw [getD_set hc.h8 hf]; exact hh2, by dsimp only; rw [hl2]; omega⟩) (by (repeat' (first | exact trivial | refine ⟨rfl, ?_⟩))) Sub.h
                · refine t_x rfl (o_buildSlice rfl (by rfl) (by rfl) (by rfl) (by rfl) rfl (fun a13 => ?_))
                  refine ⟨permF, ?_⟩
                  refine t_x rfl (o_append rfl rfl R1 (by rfl) (by rfl) (yv_one _) (by omega) rfl (fun a12 c12 hc12 => ?_))
                  refine ⟨permF, ?_⟩
                  refine t_x rfl (o_appendT rfl rfl (by rfl) (by rfl) (by rfl) (by omega) rfl (fun a14 c14 hc14 => ?_))
                  refine ⟨permF, ?_⟩
                  refine t_x rfl (o_append rfl rfl R2 (by rfl) (by rfl) (yv_one _) (by omega) rfl (fun a15 c15 hc15 => ?_))
                  refine ⟨permF, ?_⟩
                  refine t_v rfl (v_assign rfl) ?_
                  refine t_end rfl ?_
                  have hl2 : (live 0 es2).length = L.length + 1 := by rw [hlp]; simp; omega
                  have hf2 : (live 0 es2).flatMap yv = ([] ++ (L.take fr).flatMap yv ++ [Value.int IntKind.i64 fr, tv x.s] ++ (L.drop fr).flatMap yv) := by
                    rw [hlp]; simp [yv]
                  rw [show 0 + fr + 1 + (L.length - fr) = (live 0 es2).length by rw [hl2]; omega, ← hf2]
                  (refine x_inBlock ?_)
                  refine x_mem (Γ' := ShelfI ps b ⟨f, n, es2, false⟩ :: DiskI b (newD (bs.set f b')) :: Sl 2 a15 (live 0 es2).length c15 ((live 0 es2).flatMap yv) :: A :: Row b0 0 p.cells :: Γ) Sub.h ?_
                  refine x_weak (back2 ⟨i, bs.set f b', es2, a15, c15, b, ps⟩ ⟨hc.set f (hh2.size ⟨hn1, hn2⟩), by dsimp only; rw [getD_set hc.h8 hf]; exact hh2, by dsimp only; rw [hl2]; omega⟩) (by (repeat' (first | exact trivial | refine ⟨rfl, ?_⟩))) Sub.h
              · refine t_x rfl (o_buildSlice rfl (by rfl) (by rfl) (by rfl) (by rfl) rfl (fun a13 => ?_))
                refine ⟨permF, ?_⟩
                refine t_x rfl (o_buildSlice rfl (by rfl) (by rfl) (by rfl) (by rfl) rfl (fun a11 => ?_))
                refine ⟨permF, ?_⟩
                refine t_x rfl (o_append rfl rfl R1 (by rfl) (by rfl) (yv_one _) (by omega) rfl (fun a12 c12 hc12 => ?_))
                refine ⟨permF, ?_⟩
                refine t_x rfl (o_appendT rfl rfl (by rfl) (by rfl) (by rfl) (by omega) rfl (fun a14 c14 hc14 => ?_))
                refine ⟨permF, ?_⟩
                refine t_x rfl (o_append rfl rfl R2 (by rfl) (by rfl) (yv_one _) (by omega) rfl (fun a15 c15 hc15 => ?_))
                refine ⟨permF, ?_⟩
                refine t_v rfl (v_assign rfl) ?_
                refine t_end rfl ?_
                have hl2 : (live 0 es2).length = L.length + 1 := by rw [hlp]; simp; omega
                have hf2 : (live 0 es2).flatMap yv = ([] ++ (L.take fr).flatMap yv ++ [Value.int IntKind.i64 fr, tv x.s] ++ (L.drop fr).flatMap yv) := by
                  rw [hlp]; simp [yv]
                rw [show 0 + fr + 1 + (L.length - fr) = (live 0 es2).length by rw [hl2]; omega, ← hf2]
                (refine x_inBlock ?_)
                refine x_mem (Γ' := ShelfI ps b ⟨f, n, es2, false⟩ :: DiskI b (newD (bs.set f b')) :: Sl 2 a15 (live 0 es2).length c15 ((live 0 es2).flatMap yv) :: A :: Row b0 0 p.cells :: Γ) Sub.h ?_
                refine x_weak (back2 ⟨i, bs.set f b', es2, a15, c15, b, ps⟩ ⟨hc.set f (hh2.size ⟨hn1, hn2⟩), by dsimp only; rw [getD_set hc.h8 hf]; exact hh2, by dsimp only; rw [hl2]; omega⟩) (by (repeat' (first | exact trivial | refine ⟨rfl, ?_⟩))) Sub.h
            · intro td2 back5
              (refine x_block ?_)
              refine x_loop (α := Nat) (fun j => j ≤ fr) (fun j => [(1, dp b0), (3, .int .i64 f), (4, .int .i64 n), (5, dp b), (6, dp ps), (8, .slice al L.length cl), (9, .int .i64 i), (10, dp px), (19, .int .i64 fr), (20, .int .i64 0), (21, .int .i64 j)])
                (fun _ => Sl 2 al L.length cl (L.flatMap yv) :: Row px 0 x.cells :: ShelfI ps b ⟨f, n, es2, false⟩ :: DiskI b (newD (bs.set f b')) :: A :: Row b0 0 p.cells :: Γ)
                (fun j => fr - j) 0 (Nat.zero_le _) ⟨rfl, rfl, rfl, rfl, rfl, rfl, rfl, rfl, rfl, rfl, rfl, trivial⟩ Sub.h ?_
              intro j hj back4
              (refine x_seq ?_; refine x_seq (x_region ?_); refine r_op (o_move rfl rfl ?_); refine r_op (o_move rfl rfl ?_); refine r_op (o_lenS rfl rfl ?_))
              (refine r_op ?_)
              refine o_lss rfl rfl rfl (fun hjl => ?_) (fun hjl => ?_)
              · have hj1 : j < L.length := by omega
                (refine r_op (o_move rfl rfl ?_); refine r_guard rfl (o_move rfl rfl ?_); refine r_guard rfl (o_move rfl rfl ?_))
                (refine r_guard rfl ?_)
                refine o_indexR rfl rfl RLv (j := j) rfl hj1 rfl (fun b1 off ha1 => ?_)
                (refine r_guard rfl (o_fieldAddr rfl rfl ?_))
                (refine r_guard rfl ?_)
                refine o_loadR rfl RLv ha1 (i := j * 2 + 0) (by omega) ((fget yv_cl hj1 0 (by decide)).trans rfl) rfl ?_
                (refine r_guard rfl (o_move rfl rfl ?_))
                (refine r_guard rfl ?_)
                refine o_eql rfl rfl rfl (fun heq => ?_) (fun heq => ?_)
                · have hjf : j < fr := by
                    apply Nat.lt_of_le_of_ne hj
                    rintro rfl
                    have := live_gap es 0 (by rw [hL, hfr]; exact hj1)
                    simp only [hL, hfr] at this
                    omega
                  (refine r_op (o_pick_t rfl rfl rfl ?_); refine r_nil ?_; refine x_true rfl ?_; refine x_skip ?_; refine x_block ?_; refine x_region ?_; refine r_op (o_move rfl rfl ?_); refine r_op (o_add rfl rfl (add_i64 (by omega)) rfl ?_); refine r_op (o_assign rfl rfl ?_); refine r_nil ?_; refine x_inBlock ?_)
                  refine x_weak (back4 (j + 1) (by omega) (by omega)) (by (repeat' (first | exact trivial | refine ⟨rfl, ?_⟩))) Sub.h
                · have hjf : j = fr := by
                    apply Nat.le_antisymm hj
                    apply Nat.le_of_not_lt
                    intro hlt
                    obtain ⟨_, h5⟩ := live_lead es 0 j (by omega)
                    simp only [hL] at h5
                    omega
                  subst hjf
                  (refine r_op (o_pick_t rfl rfl rfl ?_); refine r_nil ?_; refine x_false rfl ?_; refine x_exit rfl ?_)
                  refine x_weak (back5 () trivial) (by (repeat' (first | exact trivial | refine ⟨rfl, ?_⟩))) Sub.h
              · have hjf : j = fr := by omega
                subst hjf
                (refine r_op (o_move rfl rfl ?_); refine r_skip rfl rfl rfl ?_; refine r_skip rfl rfl rfl ?_; refine r_skip rfl rfl rfl ?_; refine r_skip rfl rfl rfl ?_; refine r_skip rfl rfl rfl ?_; refine r_skip rfl rfl rfl ?_; refine r_skip rfl rfl rfl ?_; refine r_op (o_pick_f rfl rfl rfl ?_); refine r_nil ?_; refine x_false rfl ?_; refine x_exit rfl ?_)
                refine x_weak (back5 () trivial) (by (repeat' (first | exact trivial | refine ⟨rfl, ?_⟩))) Sub.h
      · (refine r_op (o_pick_t rfl rfl rfl ?_); refine r_nil ?_; refine x_false rfl ?_; refine x_exit rfl ?_; refine x_seq (x_region ?_))
        (refine r_op ?_)
        refine o_call rfl wakes10_spec rfl ?_
        rintro v B ⟨rfl, rfl⟩
        (simp only [List.nil_append])
        (refine r_op (o_assign rfl rfl ?_); refine r_nil ?_)
        exact x_ret rfl [A] ⟨rfl, rfl⟩ Sub.h
    · (refine r_op (o_move rfl rfl ?_); refine r_skip rfl rfl rfl ?_; refine r_skip rfl rfl rfl ?_; refine r_op (o_pick_f rfl rfl rfl ?_); refine r_nil ?_; refine x_false rfl ?_; refine x_exit rfl ?_; refine x_seq (x_region ?_))
      (refine r_op ?_)
      refine o_call rfl wakes10_spec rfl ?_
      rintro v B ⟨rfl, rfl⟩
      (simp only [List.nil_append])
      (refine r_op (o_assign rfl rfl ?_); refine r_nil ?_)
      exact x_ret rfl [A] ⟨rfl, rfl⟩ Sub.h
  · (refine r_nil ?_; refine x_true rfl ?_; refine x_seq (x_region ?_); refine r_op (o_assign rfl rfl ?_); refine r_nil ?_)
    exact x_ret rfl [A] ⟨rfl, rfl⟩ Sub.h
end Go.Proofs.Ythneebbmodkjiaa
