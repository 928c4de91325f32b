/- Part of a proof over the seat Ythneebbmodkjiaa: module E16. Its claim's last module says what is proved. -/
import Derived.Test.YthneebbmodkjiaaE15
namespace Go.Proofs.Ythneebbmodkjiaa
open Go.Proofs

theorem ff_some (l : List Tx) : ff (l.map some) = l.length := by
  induction l with
  | nil => rfl
  | cons t l ih => simp [ff, ih]
theorem putAt_some (l : List Tx) (t : Tx) : putAt (l.map some) l.length t = (l ++ [t]).map some := by
  unfold putAt; rw [if_pos (by simp)]; simp
theorem live_some (l : List Tx) : ∀ k, (live k (l.map some)).map Prod.snd = l := by
  induction l with
  | nil => intro k; rfl
  | cons t l ih => intro k; simp [live, ih]
theorem texts_some (f n : Nat) (l : List Tx) (b : Bool) : Sh.texts ⟨f, n, l.map some, b⟩ = l := live_some l 0
/-- Where two shelves stand. -/
structure TwoS where
  i : Nat
  bs : List (List UInt8)
  l : List Tx
  m : List Tx
  al : Option Addr
  cl : Nat
  am : Option Addr
  cm : Nat
structure TwoS.Ok (q : TwoS) : Prop where
  hi : q.l.length + q.m.length ≤ q.i
  h12 : q.i ≤ 12
  hc : Calm q.bs
  hl : Holds 128 (q.l.map some) (q.bs.getD 0 [])
  hm : Holds 256 (q.m.map some) (q.bs.getD 1 [])
set_option maxHeartbeats 3200000 in
theorem two_spec {A : HP} {p : TV} (R : TV.Rd A p) : Spec Try.prog 13 [p.val] [A] (fun v B => v = .bool true ∧ B = [A]) := by
  refine Spec.of_ex Try.func13 rfl Try.ntmps13 rfl fun E cs Γ => ?_
  (simp only [argRho, List.cons_append, List.nil_append])
  (refine x_seq ?_); (refine x_region ?_)
  (refine r_op ?_)
  refine o_boxA (vs := p.cells) rfl rfl (fun b0 => ?_)
  have lb := R.lb
  (refine r_op (o_assign rfl rfl ?_); refine r_nil ?_; refine x_seq ?_; refine x_seq (x_region ?_))
  (refine r_op ?_)
  refine o_loadA (us := p.cells) rfl rfl rfl rfl rfl ?_
  (refine r_op ?_)
  refine o_call rfl (heavy10_spec R) rfl ?_
  rintro v B ⟨⟨hb, rfl, hbl⟩, rfl⟩
  (simp only [List.cons_append, List.nil_append])
  cases hb
  · (refine r_nil ?_; refine x_false rfl ?_; refine x_skip ?_; refine x_seq (x_region ?_))
    (refine r_op ?_)
    refine o_call rfl disk0_spec rfl ?_
    rintro v B ⟨b, rfl, rfl⟩
    (simp only [List.cons_append, List.nil_append])
    (refine r_op (o_assign rfl rfl ?_); refine r_nil ?_; refine x_seq (x_region ?_); refine r_op (o_move rfl rfl ?_))
    (refine r_op ?_)
    refine o_call rfl (open0C_spec b calm0 (f := 0) (n := 128) (by decide) rfl rfl) rfl ?_
    rintro v B ⟨pa, rfl, rfl⟩
    (simp only [List.cons_append, List.nil_append])
    (refine r_op (o_move rfl rfl ?_); refine r_op (o_extract rfl rfl rfl ?_); refine r_op (o_extract rfl rfl rfl ?_); refine r_op (o_assign rfl rfl ?_); refine r_op (o_assign rfl rfl ?_); refine r_nil ?_; refine x_seq (x_region ?_); refine r_op (o_move rfl rfl ?_))
    (refine r_op ?_)
    refine o_call rfl (open0C_spec b calm0 (f := 1) (n := 256) (by decide) rfl rfl) rfl ?_
    rintro v B ⟨pb, rfl, rfl⟩
    (simp only [List.cons_append, List.nil_append])
    (refine r_op (o_move rfl rfl ?_); refine r_op (o_extract rfl rfl rfl ?_); refine r_op (o_extract rfl rfl rfl ?_); refine r_op (o_assign rfl rfl ?_); refine r_op (o_assign rfl rfl ?_); refine r_nil ?_; refine x_seq ?_; refine x_seq (x_region ?_); refine r_op (o_move rfl rfl ?_))
    (refine r_op ?_)
    refine o_call rfl (num10_spec 0) rfl ?_
    rintro v B ⟨rfl, rfl⟩
    (simp only [List.nil_append])
    (refine r_op (o_neq_f rfl rfl (by omega) rfl ?_); refine r_op (o_move rfl rfl ?_); refine r_guard rfl (o_move rfl rfl ?_))
    (refine r_guard rfl ?_)
    refine o_call rfl (num10_spec 0) rfl ?_
    rintro v B ⟨rfl, rfl⟩
    (simp only [List.nil_append])
    (refine r_guard rfl (o_neq_f rfl rfl (by omega) rfl ?_); refine r_op (o_pick_f rfl rfl rfl ?_); refine r_op (o_move rfl rfl ?_); refine r_guard rfl (o_move rfl rfl ?_))
    (refine r_guard rfl ?_)
    refine o_peq (.inl rfl) rfl rfl (.inr rfl) rfl ?_
    (refine r_op (o_pick_f rfl rfl rfl ?_); refine r_op (o_move rfl rfl ?_); refine r_guard rfl (o_move rfl rfl ?_))
    (refine r_guard rfl ?_)
    refine o_peq (.inl rfl) rfl rfl (.inr rfl) rfl ?_
    (refine r_op (o_pick_f rfl rfl rfl ?_); refine r_nil ?_; refine x_false rfl ?_; refine x_skip ?_; refine x_seq (x_region ?_); refine r_op (o_assign rfl rfl ?_); refine r_op (o_assign rfl rfl ?_); refine r_nil ?_; refine x_seq ?_; refine x_seq (x_region ?_); refine r_op (o_assign rfl rfl ?_); refine r_nil ?_; refine x_block ?_)
    refine x_mem (Γ' := Sl 1 none 0 0 ([] : List Value) :: Sl 1 none 0 0 ([] : List Value) :: A :: Row b0 0 p.cells :: ShelfI pa b ⟨0, 128, [], false⟩ :: ShelfI pb b ⟨1, 256, [], false⟩ :: DiskI b (newD (List.replicate 8 [])) :: Γ) ((Ent.nilSl 1 _).trans ((Ent.nilSl 1 _).trans Sub.h)) ?_
    refine x_loop (α := TwoS) (fun q => q.Ok) (fun q => [(1, dp b0), (3, dp b), (4, dp pa), (6, dp pb), (8, .slice q.al q.l.length q.cl), (9, .slice q.am q.m.length q.cm), (10, .int .i64 q.i)])
      (fun q => Sl 1 q.al q.l.length q.cl (q.l.map tv) :: Sl 1 q.am q.m.length q.cm (q.m.map tv) :: A :: Row b0 0 p.cells :: ShelfI pa b ⟨0, 128, q.l.map some, false⟩ :: ShelfI pb b ⟨1, 256, q.m.map some, false⟩ :: DiskI b (newD q.bs) :: Γ)
      (fun q => 12 - q.i) ⟨0, List.replicate 8 [], [], [], none, 0, none, 0⟩ ⟨Nat.le_refl _, by decide, calm0, holds_nil (by decide), holds_nil (by decide)⟩ ⟨rfl, rfl, rfl, rfl, rfl, rfl, rfl, trivial⟩ (.refl _) ?_
    rintro ⟨i, bs, l, m, al, cl, am, cm⟩ ok back
    obtain ⟨hi, h12, hc, hl, hm⟩ := ok
    dsimp only at hi h12 hc hl hm ⊢
    (refine x_seq ?_; refine x_seq (x_region ?_); refine r_op (o_move rfl rfl ?_); refine r_op (o_fieldAddr rfl rfl ?_); refine r_op (o_load rfl rfl rfl rfl ?_); refine r_op (o_lenS rfl rfl ?_))
    (refine r_op ?_)
    refine o_lss rfl rfl rfl (fun h => ?_) (fun h => ?_)
    · have hi1 : i < p.l.length := by omega
      (refine r_op (o_move rfl rfl ?_); refine r_guard rfl (o_move rfl rfl ?_))
      (refine r_guard rfl ?_)
      refine o_lss rfl rfl rfl (fun h2 => ?_) (fun h2 => ?_)
      · (refine r_op (o_pick_t rfl rfl rfl ?_); refine r_nil ?_; refine x_true rfl ?_; refine x_skip ?_; refine x_seq ?_; refine x_block ?_; refine x_seq (x_region ?_); refine r_op (o_fieldAddr rfl rfl ?_); refine r_op (o_load rfl rfl rfl rfl ?_); refine r_op (o_move rfl rfl ?_))
        (refine r_op ?_)
        refine o_indexR rfl rfl R.l.1 (j := i) rfl hi1 rfl (fun b1 off ha => ?_)
        (refine r_op (o_fieldAddr rfl rfl ?_))
        (refine r_op ?_)
        refine o_loadR rfl R.l.1 ha (i := i * 4 + 2) (by omega) ((bx_get hi1 2 (by decide)).trans rfl) rfl ?_
        (refine r_op (o_assign rfl rfl ?_); refine r_nil ?_; refine x_seq ?_; refine x_seq (x_region ?_); refine r_op (o_move rfl rfl ?_); refine r_op (o_lenStr rfl rfl ?_))
        rw [bstr_size]
        obtain ⟨t, ht⟩ : ∃ t, p.l[i].s = t := ⟨_, rfl⟩
        rw [ht]
        (refine r_op ?_)
        refine o_gtr rfl rfl rfl (fun h3 => ?_) (fun h3 => ?_)
        · (refine r_nil ?_; refine x_true rfl ?_; refine x_exit rfl ?_; refine x_region ?_; refine r_op (o_move rfl rfl ?_); refine r_op (o_add rfl rfl (add_i64 (by omega)) rfl ?_); refine r_op (o_assign rfl rfl ?_); refine r_nil ?_)
          refine x_weak (back ⟨i + 1, bs, l, m, al, cl, am, cm⟩ ⟨by dsimp only; omega, by dsimp only; omega, hc, hl, hm⟩ (by dsimp only; omega)) (by (repeat' (first | exact trivial | refine ⟨rfl, ?_⟩))) Sub.h
        · (refine r_nil ?_; refine x_false rfl ?_; refine x_skip ?_; refine x_seq ?_; refine x_seq (x_region ?_); refine r_op (o_fieldAddr rfl rfl ?_); refine r_op (o_load rfl rfl rfl rfl ?_); refine r_op (o_move rfl rfl ?_))
          (refine r_op ?_)
          refine o_indexR rfl rfl R.l.1 (j := i) rfl hi1 rfl (fun b2 off2 ha2 => ?_)
          (refine r_op (o_fieldAddr rfl rfl ?_))
          (refine r_op ?_)
          refine o_loadR rfl R.l.1 ha2 (i := i * 4 + 1) (by omega) ((bx_get hi1 1 (by decide)).trans rfl) rfl ?_
          skip
          (refine r_op ?_)
          refine o_call rfl (within_spec p.l[i].n 2 (by decide)) rfl ?_
          rintro v B ⟨⟨r, rfl, hr0, hr1, -⟩, rfl⟩
          (simp only [List.nil_append])
          by_cases hr : r = 0
          · subst hr
            (refine r_op (o_eql_t rfl rfl (by omega) rfl ?_); refine r_nil ?_; refine x_true rfl ?_; refine x_seq (x_region ?_); refine r_op (o_move rfl rfl ?_); refine r_op (o_move rfl rfl ?_))
            (refine r_op ?_)
            refine o_call rfl (putC_spec pa b hc (f := 0) (n := 128) (es := l.map some) (t := t) (by decide) (by decide) hl (by omega) (by rw [ff_some]; omega)) rfl ?_
            rintro v B ⟨b', rfl, rfl, hh⟩
            rw [ff_some, putAt_some] at hh ⊢
            have hsz := hh.size (by decide)
            (simp only [List.cons_append, List.nil_append])
            (refine r_op (o_move rfl rfl ?_); refine r_op (o_extract rfl rfl rfl ?_); refine r_op (o_extract rfl rfl rfl ?_); refine r_op (o_assign rfl rfl ?_); refine r_op (o_assign rfl rfl ?_); refine r_nil ?_; refine x_seq ?_; refine x_seq (x_region ?_); refine r_op (o_move rfl rfl ?_))
            (refine r_op ?_)
            refine o_call rfl (num10_spec 0) rfl ?_
            rintro v B ⟨rfl, rfl⟩
            (simp only [List.nil_append])
            (refine r_op (o_neq_f rfl rfl (by omega) rfl ?_); refine r_op (o_move rfl rfl ?_); refine r_guard rfl (o_move rfl rfl ?_); refine r_guard rfl (o_move rfl rfl ?_); refine r_guard rfl (o_lenS rfl rfl ?_); refine r_guard rfl (o_neq_f rfl rfl (by omega) rfl ?_); refine r_op (o_pick_f rfl rfl rfl ?_); refine r_nil ?_; refine x_false rfl ?_; refine x_skip ?_; refine x_region ?_; refine r_op (o_move rfl rfl ?_); refine r_op (o_move rfl rfl ?_))
            (refine r_op ?_)
            refine o_buildSlice rfl (by rfl) (by rfl) (by rfl) (by rfl) rfl (fun a2 => ?_)
            (refine r_op ?_)
            refine o_appendT rfl rfl (by rfl) (by rfl) (by rfl) (by omega) rfl (fun a3 c3 hcap => ?_)
            (refine r_op (o_assign rfl rfl ?_); refine r_nil ?_; refine x_seq (x_region ?_); refine r_op (o_move rfl rfl ?_))
            rw [show l.length + 1 = (l ++ [t]).length by simp]
            refine r_mem (Γ' := Sl 1 a3 (l ++ [t]).length c3 ((l ++ [t]).map tv) :: Sl 1 am m.length cm (m.map tv) :: A :: Row b0 0 p.cells :: ShelfI pa b ⟨0, 128, (l ++ [t]).map some, false⟩ :: ShelfI pb b ⟨1, 256, m.map some, false⟩ :: DiskI b (newD (bs.set 0 b')) :: Γ) (by rw [show (l ++ [t]).map tv = l.map tv ++ [tv t] by simp]; exact Sub.h) ?_
            (refine r_op ?_)
            refine o_call rfl (texts_spec pa b ⟨0, 128, (l ++ [t]).map some, false⟩ (by simp; omega)) rfl ?_
            rintro v B ⟨a5, c5, rfl, rfl⟩
            rw [texts_some]
            (simp only [List.cons_append, List.nil_append])
            (refine r_op (o_move rfl rfl ?_))
            (refine r_op ?_)
            have RX1 := Sl.reads 1 a5 (l ++ [t]).length c5 ((l ++ [t]).map tv) (by rw [List.length_map, Nat.mul_one])
            have RX2 := Sl.reads 1 a3 (l ++ [t]).length c3 ((l ++ [t]).map tv) (by rw [List.length_map, Nat.mul_one])
            refine o_call rfl (eqStr_spec RX1 RX2 (by simp; omega)) rfl ?_
            rintro v B ⟨rfl, rfl⟩
            rw [decide_eq_true (rfl : (l ++ [t]) = (l ++ [t]))]
            (simp only [List.cons_append, List.nil_append])
            (refine r_op (o_not rfl rfl ?_); refine r_op (o_move rfl rfl ?_); refine r_guard rfl (o_move rfl rfl ?_))
            (refine r_guard rfl ?_)
            refine o_call rfl (texts_spec pb b ⟨1, 256, m.map some, false⟩ (by simp; omega)) rfl ?_
            rintro v B ⟨a6, c6, rfl, rfl⟩
            rw [texts_some]
            (simp only [List.cons_append, List.nil_append])
            (refine r_guard rfl (o_move rfl rfl ?_))
            (refine r_guard rfl ?_)
            refine o_call rfl (eqStr_spec (Sl.reads 1 a6 m.length c6 (m.map tv) (by simp)) (Sl.reads 1 am m.length cm (m.map tv) (by simp)) (by simp; omega)) rfl ?_
            rintro v B ⟨rfl, rfl⟩
            rw [decide_eq_true (rfl : m = m)]
            (simp only [List.cons_append, List.nil_append])
            (refine r_guard rfl (o_not rfl rfl ?_); refine r_op (o_pick_f rfl rfl rfl ?_); refine r_nil ?_; refine x_false rfl ?_; refine x_skip ?_; refine x_inBlock ?_; refine x_region ?_; refine r_op (o_move rfl rfl ?_); refine r_op (o_add rfl rfl (add_i64 (by omega)) rfl ?_); refine r_op (o_assign rfl rfl ?_); refine r_nil ?_)
            refine x_mem (Γ' := Sl 1 a3 (l ++ [t]).length c3 ((l ++ [t]).map tv) :: Sl 1 am m.length cm (m.map tv) :: A :: Row b0 0 p.cells :: ShelfI pa b ⟨0, 128, (l ++ [t]).map some, false⟩ :: ShelfI pb b ⟨1, 256, m.map some, false⟩ :: DiskI b (newD (bs.set 0 b')) :: Γ) Sub.h ?_
            refine x_weak (back ⟨i + 1, (bs.set 0 b'), (l ++ [t]), m, a3, c3, am, cm⟩ ⟨by dsimp only; simp; omega, by dsimp only; omega, hc.set 0 hsz, by dsimp only; rw [getD_set hc.h8 (by decide)]; exact hh, by dsimp only; rw [getD_set_ne (by decide)]; exact hm⟩ (by dsimp only; omega)) (by (repeat' (first | exact trivial | refine ⟨rfl, ?_⟩))) Sub.h
          · (refine r_op (o_eql_f rfl rfl (by omega) rfl ?_); refine r_nil ?_; refine x_false rfl ?_; refine x_seq (x_region ?_); refine r_op (o_move rfl rfl ?_); refine r_op (o_move rfl rfl ?_))
            (refine r_op ?_)
            refine o_call rfl (putC_spec pb b hc (f := 1) (n := 256) (es := m.map some) (t := t) (by decide) (by decide) hm (by omega) (by rw [ff_some]; omega)) rfl ?_
            rintro v B ⟨b', rfl, rfl, hh⟩
            rw [ff_some, putAt_some] at hh ⊢
            have hsz := hh.size (by decide)
            (simp only [List.cons_append, List.nil_append])
            (refine r_op (o_move rfl rfl ?_); refine r_op (o_extract rfl rfl rfl ?_); refine r_op (o_extract rfl rfl rfl ?_); refine r_op (o_assign rfl rfl ?_); refine r_op (o_assign rfl rfl ?_); refine r_nil ?_; refine x_seq ?_; refine x_seq (x_region ?_); refine r_op (o_move rfl rfl ?_))
            (refine r_op ?_)
            refine o_call rfl (num10_spec 0) rfl ?_
            rintro v B ⟨rfl, rfl⟩
            (simp only [List.nil_append])
            (refine r_op (o_neq_f rfl rfl (by omega) rfl ?_); refine r_op (o_move rfl rfl ?_); refine r_guard rfl (o_move rfl rfl ?_); refine r_guard rfl (o_move rfl rfl ?_); refine r_guard rfl (o_lenS rfl rfl ?_); refine r_guard rfl (o_neq_f rfl rfl (by omega) rfl ?_); refine r_op (o_pick_f rfl rfl rfl ?_); refine r_nil ?_; refine x_false rfl ?_; refine x_skip ?_; refine x_region ?_; refine r_op (o_move rfl rfl ?_); refine r_op (o_move rfl rfl ?_))
            (refine r_op ?_)
            refine o_buildSlice rfl (by rfl) (by rfl) (by rfl) (by rfl) rfl (fun a2 => ?_)
            (refine r_op ?_)
            refine o_appendT rfl rfl (by rfl) (by rfl) (by rfl) (by omega) rfl (fun a3 c3 hcap => ?_)
            (refine r_op (o_assign rfl rfl ?_); refine r_nil ?_; refine x_seq (x_region ?_); refine r_op (o_move rfl rfl ?_))
            rw [show m.length + 1 = (m ++ [t]).length by simp]
            refine r_mem (Γ' := Sl 1 al l.length cl (l.map tv) :: Sl 1 a3 (m ++ [t]).length c3 ((m ++ [t]).map tv) :: A :: Row b0 0 p.cells :: ShelfI pa b ⟨0, 128, l.map some, false⟩ :: ShelfI pb b ⟨1, 256, (m ++ [t]).map some, false⟩ :: DiskI b (newD (bs.set 1 b')) :: Γ) (by rw [show (m ++ [t]).map tv = m.map tv ++ [tv t] by simp]; exact Sub.h) ?_
            (refine r_op ?_)
            refine o_call rfl (texts_spec pa b ⟨0, 128, l.map some, false⟩ (by simp; omega)) rfl ?_
            rintro v B ⟨a5, c5, rfl, rfl⟩
            rw [texts_some]
            (simp only [List.cons_append, List.nil_append])
            (refine r_op (o_move rfl rfl ?_))
            (refine r_op ?_)
            refine o_call rfl (eqStr_spec (Sl.reads 1 a5 l.length c5 (l.map tv) (by simp)) (Sl.reads 1 al l.length cl (l.map tv) (by simp)) (by simp; omega)) rfl ?_
            rintro v B ⟨rfl, rfl⟩
            rw [decide_eq_true (rfl : l = l)]
            (simp only [List.cons_append, List.nil_append])
            (refine r_op (o_not rfl rfl ?_); refine r_op (o_move rfl rfl ?_); refine r_guard rfl (o_move rfl rfl ?_))
            (refine r_guard rfl ?_)
            refine o_call rfl (texts_spec pb b ⟨1, 256, (m ++ [t]).map some, false⟩ (by simp; omega)) rfl ?_
            rintro v B ⟨a6, c6, rfl, rfl⟩
            rw [texts_some]
            (simp only [List.cons_append, List.nil_append])
            (refine r_guard rfl (o_move rfl rfl ?_))
            (refine r_guard rfl ?_)
            have RX3 := Sl.reads 1 a6 (m ++ [t]).length c6 ((m ++ [t]).map tv) (by rw [List.length_map, Nat.mul_one])
            have RX4 := Sl.reads 1 a3 (m ++ [t]).length c3 ((m ++ [t]).map tv) (by rw [List.length_map, Nat.mul_one])
            refine o_call rfl (eqStr_spec RX3 RX4 (by simp; omega)) rfl ?_
            rintro v B ⟨rfl, rfl⟩
            rw [decide_eq_true (rfl : (m ++ [t]) = (m ++ [t]))]
            (simp only [List.cons_append, List.nil_append])
            (refine r_guard rfl (o_not rfl rfl ?_); refine r_op (o_pick_f rfl rfl rfl ?_); refine r_nil ?_; refine x_false rfl ?_; refine x_skip ?_; refine x_inBlock ?_; refine x_region ?_; refine r_op (o_move rfl rfl ?_); refine r_op (o_add rfl rfl (add_i64 (by omega)) rfl ?_); refine r_op (o_assign rfl rfl ?_); refine r_nil ?_)
            refine x_mem (Γ' := Sl 1 al l.length cl (l.map tv) :: Sl 1 a3 (m ++ [t]).length c3 ((m ++ [t]).map tv) :: A :: Row b0 0 p.cells :: ShelfI pa b ⟨0, 128, l.map some, false⟩ :: ShelfI pb b ⟨1, 256, (m ++ [t]).map some, false⟩ :: DiskI b (newD (bs.set 1 b')) :: Γ) Sub.h ?_
            refine x_weak (back ⟨i + 1, (bs.set 1 b'), l, (m ++ [t]), al, cl, a3, c3⟩ ⟨by dsimp only; simp; omega, by dsimp only; omega, hc.set 1 hsz, by dsimp only; rw [getD_set_ne (by decide)]; exact hl, by dsimp only; rw [getD_set hc.h8 (by decide)]; exact hh⟩ (by dsimp only; omega)) (by (repeat' (first | exact trivial | refine ⟨rfl, ?_⟩))) Sub.h
      · (refine r_op (o_pick_t rfl rfl rfl ?_); refine r_nil ?_; refine x_false rfl ?_; refine x_exit rfl ?_; refine x_seq (x_region ?_))
        (refine r_op ?_)
        refine o_call rfl wakes10_spec rfl ?_
        rintro v B ⟨rfl, rfl⟩
        (simp only [List.nil_append])
        (refine r_op (o_assign rfl rfl ?_); refine r_nil ?_)
        exact x_ret rfl [A] ⟨rfl, rfl⟩ Sub.h
    · (refine r_op (o_move rfl rfl ?_); refine r_skip rfl rfl rfl ?_; refine r_skip rfl rfl rfl ?_; refine r_op (o_pick_f rfl rfl rfl ?_); refine r_nil ?_; refine x_false rfl ?_; refine x_exit rfl ?_; refine x_seq (x_region ?_))
      (refine r_op ?_)
      refine o_call rfl wakes10_spec rfl ?_
      rintro v B ⟨rfl, rfl⟩
      (simp only [List.nil_append])
      (refine r_op (o_assign rfl rfl ?_); refine r_nil ?_)
      exact x_ret rfl [A] ⟨rfl, rfl⟩ Sub.h
  · (refine r_nil ?_; refine x_true rfl ?_; refine x_seq (x_region ?_); refine r_op (o_assign rfl rfl ?_); refine r_nil ?_)
    exact x_ret rfl [A] ⟨rfl, rfl⟩ Sub.h
end Go.Proofs.Ythneebbmodkjiaa
