/- Part of a proof over the seat Ythneebbmodkjiaa: module K14. Its claim's last module says what is proved. -/
import Derived.Test.YthneebbmodkjiaaK13
import Derived.Test.YthneebbmodkjiaaE19
namespace Go.Proofs.Ythneebbmodkjiaa
open Go.Proofs

theorem rshelf_spec (n : Nat) (hn : n ≤ 2 ^ 47) : Spec Try.prog 91 [.int .i64 n] [] (fun v B => v = (if 1008 < n then .tuple #[.int .i64 0, .bool false] else .tuple #[.int .i64 (sizeOf n).1, .bool true]) ∧ B = []) := by
  refine Spec.of_ex Try.func91 rfl Try.ntmps91 rfl fun E cs Γ => ?_
  (simp only [argRho, List.nil_append])
  (refine x_seq (x_region ?_); refine r_op (o_assign rfl rfl ?_); refine r_op (o_assign rfl rfl ?_); refine r_nil ?_; refine x_seq ?_; refine x_seq (x_region ?_); refine r_op (o_assign rfl rfl ?_); refine r_nil ?_; refine x_block ?_)
  refine x_loop (α := Nat) (fun i => i ≤ 4 ∧ ∀ k < i, ¬ (n : Int) ≤ ((128 * 2 ^ k : Nat) : Int) - 16) (fun i => [(0, .int .i64 n), (4, .int .i64 i)]) (fun _ => Γ) (fun i => 4 - i) 0 ⟨by omega, fun k h => by omega⟩ ⟨rfl, rfl, trivial⟩ (.refl _) ?_
  rintro i ⟨hi, hk⟩ back
  (refine x_seq ?_; refine x_seq (x_region ?_); refine r_op (o_move rfl rfl ?_))
  by_cases h : i < 4
  · obtain ⟨-, hn1, hn2⟩ := k4_facts h
    (refine r_op (o_lss_t rfl rfl (by omega) rfl ?_); refine r_nil ?_; refine x_true rfl ?_; refine x_skip ?_; refine x_seq ?_; refine x_block ?_; refine x_seq (x_region ?_); refine r_op (o_move rfl rfl ?_); refine r_op (o_move rfl rfl ?_))
    (refine r_op ?_)
    refine o_call rfl (rslot_spec i h) rfl ?_
    rintro v B ⟨rfl, rfl⟩
    (simp only [List.nil_append])
    (refine r_op ?_)
    refine o_sub rfl rfl (in_i64 (by omega)) rfl ?_
    (refine r_op ?_)
    refine o_leq rfl rfl rfl (fun hl => ?_) (fun hl => ?_)
    · have hs := sizeOf_at n i h (by omega) hk hl
      (refine r_nil ?_; refine x_true rfl ?_; refine x_seq (x_region ?_); refine r_op (o_move rfl rfl ?_); refine r_op (o_assign rfl rfl ?_); refine r_op (o_assign rfl rfl ?_); refine r_nil ?_)
      exact x_ret rfl [] ⟨by rw [if_neg (by omega), hs]; rfl, rfl⟩ Sub.h
    · (refine r_nil ?_; refine x_false rfl ?_; refine x_skip ?_; refine x_inBlock ?_; refine x_region ?_; refine r_op (o_move rfl rfl ?_); refine r_op (o_add rfl rfl (add_i64 (by omega)) rfl ?_); refine r_op (o_assign rfl rfl ?_); refine r_nil ?_)
      refine x_weak (back (i + 1) ⟨by omega, fun k h => by
        rcases Nat.lt_succ_iff_lt_or_eq.1 h with h | rfl
        · exact hk k h
        · exact hl⟩ (by omega)) (by (repeat' (first | exact trivial | refine ⟨rfl, ?_⟩))) Sub.h
  · have e : i = 4 := by omega
    subst e
    have h3 : 1008 < n := by
      have : ¬ (n : Int) ≤ ((128 * 2 ^ 3 : Nat) : Int) - 16 := hk 3 (by omega)
      omega
    (refine r_op (o_lss_f rfl rfl (by omega) rfl ?_); refine r_nil ?_; refine x_false rfl ?_; refine x_exit rfl ?_; refine x_seq (x_region ?_); refine r_op (o_assign rfl rfl ?_); refine r_op (o_assign rfl rfl ?_); refine r_nil ?_)
    exact x_ret rfl [] ⟨by rw [if_pos h3]; rfl, rfl⟩ Sub.h
theorem re_cell {l : List RE} {i : Nat} (h : i < l.length) {y : RE} (hy : l[i] = y) (j : Nat) (v : Value) (hv : (re y)[j]? = some v) : (l.flatMap re)[i * 3 + j]? = some v := by
  have hj : j < 3 := (List.getElem?_eq_some_iff.1 hv).1
  rw [fget re_cl h j hj, hy, hv]
theorem bx_cellR {l : List BX} {i : Nat} (h : i < l.length) {x : BX} (hx : l[i] = x) (j : Nat) (v : Value) (hv : x.cells[j]? = some v) : (l.flatMap BX.cells)[i * 4 + j]? = some v := by
  have hj : j < 4 := (List.getElem?_eq_some_iff.1 hv).1
  rw [bx_get h j hj, hx, hv]
theorem re_take (l : List RE) : ∀ k, (l.flatMap re).take (k * 3) = (l.take k).flatMap re := by
  induction l with
  | nil => intro k; simp
  | cons y l ih =>
    intro k
    cases k with
    | zero => simp
    | succ k =>
      rw [show (k + 1) * 3 = k * 3 + 1 + 1 + 1 by omega]
      simp only [List.flatMap_cons, List.take_succ_cons, re, List.cons_append, List.nil_append, ih]
theorem re_drop (l : List RE) : ∀ k, (l.flatMap re).drop (k * 3) = (l.drop k).flatMap re := fun k => fdrop re_cl l k
theorem re_set : ∀ (l : List RE) (k c : Nat) (y : RE), l[k]? = some y → (l.flatMap re).set (k * 3 + 1) (.int .i64 c) = (l.set k ((y.1.1, c), y.2)).flatMap re
  | z :: l, 0, c, y, h => by
    obtain rfl : z = y := Option.some.inj h
    rfl
  | z :: l, k + 1, c, y, h => by
    have ih := re_set l k c y h
    rw [show (k + 1) * 3 + 1 = (k * 3 + 1) + 1 + 1 + 1 by omega, List.set_cons_succ]
    simp only [List.flatMap_cons, re, List.cons_append, List.nil_append, List.set_cons_succ] at ih ⊢
    rw [ih]
theorem renum_step {L L' : List RE} {k : Nat} {v : RE} (hk : k < L.length) (h : L'[k]? = some v) : (L'.take k ++ L.drop k).set k v = L'.take (k + 1) ++ L.drop (k + 1) := by
  obtain ⟨hk', he⟩ := List.getElem?_eq_some_iff.1 h
  have hl : (L'.take k).length = k := by simp; omega
  rw [List.set_append_right _ _ (by omega), hl, Nat.sub_self, List.drop_eq_getElem_cons hk, List.set_cons_zero, List.take_add_one, h, List.append_assoc]; rfl
theorem renum_at {L L' : List RE} {k : Nat} (hk : k < L.length) (hk' : k < L'.length) : (L'.take k ++ L.drop k)[k]? = some L[k] := by
  have hl : (L'.take k).length = k := by simp; omega
  rw [List.getElem?_append_right (by omega), hl, Nat.sub_self, List.getElem?_drop, Nat.add_zero, List.getElem?_eq_getElem hk]
/-- How many of each shelf. -/
def nA (T : List RE) : List Value := (List.range 4).map fun s => .int .i64 (T.countP (fun z => z.1.1 == s))
theorem nA_get (T : List RE) {s : Nat} (hs : s < 4) : (nA T)[s]? = some (.int .i64 (T.countP (fun z => z.1.1 == s))) := by
  unfold nA; rw [List.getElem?_map, List.getElem?_range hs]; rfl
theorem nA_set (T : List RE) (y : RE) : (nA T).set y.1.1 (.int .i64 ((T.countP (fun z => z.1.1 == y.1.1) + 1 : Nat) : Int)) = nA (T ++ [y]) := by
  unfold nA
  refine List.ext_getElem (by simp) fun i h1 h2 => ?_
  rw [List.getElem_set]
  simp only [List.getElem_map, List.getElem_range, List.countP_append, List.countP_singleton]
  by_cases e : y.1.1 = i
  · rw [if_pos e]; simp [e]
  · rw [if_neg e]; simp [e]
structure MR where
  i : Nat
  bs : List (List UInt8)
  ess : List (List En)
  al : Option Addr
  cl : Nat
  b : Nat
  r : Nat
structure MR.Ok (first : Nat) (q : MR) : Prop where
  h20 : q.i ≤ 20
  hc : Calm q.bs
  hR : HoldsR first q.ess q.bs
  hl : (rlF 0 q.ess).length ≤ q.i
set_option maxHeartbeats 6400000 in
theorem rmodel_spec {A : HP} {p : SR} (R : SR.Rd A p) (Fi : p.Fi) : Spec Try.prog 28 [p.val] [A] (fun v B => v = .bool true ∧ B = [A]) := by
  refine Spec.of_ex Try.func28 rfl Try.ntmps28 rfl fun E cs Γ => ?_
  (simp only [argRho, List.cons_append, List.nil_append])
  (refine x_seq ?_); (refine x_region ?_)
  (refine r_op ?_)
  refine o_boxA (vs := p.cells) rfl rfl (fun b0 => ?_)
  have lb := R.lb
  (refine r_op (o_assign rfl rfl ?_); refine r_nil ?_; refine x_seq ?_; refine x_seq (x_region ?_))
  (refine r_op ?_)
  refine o_loadA (us := p.cells) rfl rfl rfl rfl rfl ?_
  (refine r_op ?_)
  refine o_call rfl (heavy11_spec R) rfl ?_
  rintro v B ⟨⟨hb, rfl, hbl⟩, rfl⟩
  (simp only [List.cons_append, List.nil_append])
  cases hb
  · (refine r_nil ?_; refine x_false rfl ?_; refine x_skip ?_; refine x_seq (x_region ?_); refine r_op (o_fieldAddr rfl rfl ?_); refine r_op (o_load rfl rfl rfl rfl ?_))
    (refine r_op ?_)
    refine o_call rfl (within_spec p.f 5 (by decide)) rfl ?_
    rintro v B ⟨⟨f, rfl, hf0, hf1, -⟩, rfl⟩
    obtain ⟨f, rfl⟩ : ∃ i : Nat, f = i := ⟨f.toNat, by omega⟩
    have hf : f + 4 ≤ 8 := by omega
    (simp only [List.nil_append])
    (refine r_op (o_assign rfl rfl ?_); refine r_nil ?_; refine x_seq (x_region ?_))
    (refine r_op ?_)
    refine o_call rfl disk0_spec rfl ?_
    rintro v B ⟨b, rfl, rfl⟩
    (simp only [List.cons_append, List.nil_append])
    (refine r_op (o_assign rfl rfl ?_); refine r_nil ?_; refine x_seq (x_region ?_); refine r_op (o_move rfl rfl ?_); refine r_op (o_move rfl rfl ?_))
    (refine r_op ?_)
    refine o_call rfl (ropen0_spec b f hf) rfl ?_
    rintro v B ⟨r, bs, rfl, rfl, hc, hR⟩
    (simp only [List.cons_append, List.nil_append])
    (refine r_op (o_move rfl rfl ?_); refine r_op (o_extract rfl rfl rfl ?_); refine r_op (o_extract rfl rfl rfl ?_); refine r_op (o_assign rfl rfl ?_); refine r_op (o_assign rfl rfl ?_); refine r_nil ?_; refine x_seq ?_; refine x_seq (x_region ?_); refine r_op (o_move rfl rfl ?_))
    (refine r_op ?_)
    refine o_call rfl (num11_spec 0) rfl ?_
    rintro v B ⟨rfl, rfl⟩
    (simp only [List.nil_append])
    (refine r_op (o_neq_f rfl rfl (by omega) rfl ?_); refine r_op (o_move rfl rfl ?_); refine r_guard rfl (o_move rfl rfl ?_))
    (refine r_guard rfl ?_)
    refine o_peq (.inl rfl) rfl rfl (.inr rfl) rfl ?_
    (refine r_op (o_pick_f rfl rfl rfl ?_); refine r_nil ?_; refine x_false rfl ?_; refine x_skip ?_; refine x_seq (x_region ?_); refine r_op (o_assign rfl rfl ?_); refine r_nil ?_; refine x_seq ?_; refine x_seq (x_region ?_); refine r_op (o_assign rfl rfl ?_); refine r_nil ?_; refine x_block ?_)
    refine x_mem (Γ' := RackI r b (ssOf f ess0) :: DiskI b (newD bs) :: Sl 3 none 0 0 ([] : List Value) :: A :: Row b0 0 p.cells :: Γ) ((Ent.nilSl 3 _).trans Sub.h) ?_
    refine x_loop (α := MR) (fun q => q.Ok f) (fun q => [(1, dp b0), (3, .int .i64 f), (4, dp q.b), (5, dp q.r), (7, .slice q.al (rlF 0 q.ess).length q.cl), (8, .int .i64 q.i)])
      (fun q => RackI q.r q.b (ssOf f q.ess) :: DiskI q.b (newD q.bs) :: Sl 3 q.al (rlF 0 q.ess).length q.cl ((rlF 0 q.ess).flatMap re) :: A :: Row b0 0 p.cells :: Γ)
      (fun q => 20 - q.i) ⟨0, bs, ess0, none, 0, b, r⟩ ⟨Nat.zero_le _, hc, hR, Nat.le_refl _⟩ ⟨rfl, rfl, rfl, rfl, rfl, rfl, trivial⟩ (.refl _) ?_
    clear hc hR
    rintro ⟨i, bs, ess, al, cl, b, r⟩ ⟨h20, hc, hR, hl⟩ back
    dsimp only at h20 hc hR hl ⊢
    obtain ⟨L, hL⟩ : ∃ L, rlF 0 ess = L := ⟨_, rfl⟩
    rw [hL] at hl ⊢
    (refine x_seq ?_; refine x_seq (x_region ?_); refine r_op (o_move rfl rfl ?_); refine r_op (o_fieldAddr rfl rfl ?_); refine r_op (o_load rfl rfl rfl rfl ?_); refine r_op (o_lenS rfl rfl ?_))
    (refine r_op ?_)
    refine o_lss rfl rfl rfl (fun h => ?_) (fun h => ?_)
    · have hi1 : i < p.l.length := by omega
      (refine r_op (o_move rfl rfl ?_); refine r_guard rfl (o_move rfl rfl ?_))
      (refine r_guard rfl ?_)
      refine o_lss rfl rfl rfl (fun h2 => ?_) (fun h2 => ?_)
      · obtain ⟨x, hx⟩ : ∃ x, p.l[i] = x := ⟨_, rfl⟩
        have Fx := Fi.l x (hx ▸ List.getElem_mem _)
        have Zx := R.sb x (hx ▸ List.getElem_mem _)
        have Rx := R.l.2 x (hx ▸ List.getElem_mem _)
        (refine r_op (o_pick_t rfl rfl rfl ?_); refine r_nil ?_; refine x_true rfl ?_; refine x_skip ?_; refine x_seq ?_; refine x_block ?_; refine x_seq (x_region ?_); refine r_op (o_fieldAddr rfl rfl ?_); refine r_op (o_load rfl rfl rfl rfl ?_); refine r_op (o_move rfl rfl ?_))
        (refine r_op ?_)
        refine o_indexR rfl rfl R.l.1 (j := i) rfl hi1 rfl (fun b1 off ha => ?_)
        (refine r_op ?_)
        refine o_loadAR rfl R.l.1 ha (i := i * 4) (us := x.cells) (by omega) (BX.cl _) (bx_cellR hi1 hx) rfl ?_
        (refine r_op ?_)
        refine o_alloc rfl (fun px => ?_)
        (refine r_do ?_)
        refine o_storeA rfl rfl rfl rfl rfl (Nat.le_refl 4) ?_
        refine r_mem (Ent.row_eq (us := x.cells) rfl _) ?_
        (refine r_nil ?_; refine x_seq (x_region ?_); refine r_op (o_assign rfl rfl ?_); refine r_nil ?_; refine x_seq (x_region ?_); refine r_op (o_fieldAddr rfl rfl ?_); refine r_op (o_load rfl rfl rfl rfl ?_); refine r_op (o_fieldAddr rfl rfl ?_); refine r_op (o_load rfl rfl rfl rfl ?_))
        (refine r_op ?_)
        refine o_build (cs := refC (x.n, x.n)) rfl (by rfl) rfl ?_
        (refine r_op ?_)
        refine o_alloc rfl (fun pr => ?_)
        (refine r_do ?_)
        refine o_storeA (us := refC (x.n, x.n)) rfl rfl rfl rfl rfl (Nat.le_refl 2) ?_
        refine r_mem (Ent.row_eq (us := refC (x.n, x.n)) rfl _) ?_
        (refine r_nil ?_)
        have RL := Sl.reads 3 al L.length cl (L.flatMap re) (flen re_cl L)
        refine x_cut (α := Int × (Int × Int)) (fun q => (q.1 = -1 ∧ q.2 = (x.n, x.n) ∧ (L.length = 0 ∨ x.n < 0)) ∨ ∃ j : Nat, ∃ h : j < L.length, q.1 = j ∧ q.2 = rat L[j])
          (fun q => [(1, dp b0), (3, .int .i64 f), (4, dp b), (5, dp r), (7, .slice al L.length cl), (8, .int .i64 i), (9, dp px), (10, .int .i64 q.1), (11, dp pr)])
          (fun q => Row pr 0 (refC q.2) :: Row px 0 x.cells :: RackI r b (ssOf f ess) :: DiskI b (newD bs) :: Sl 3 al L.length cl (L.flatMap re) :: A :: Row b0 0 p.cells :: Γ) ?_ ?_
        · rintro ⟨a, ref⟩ hq
          dsimp only at hq ⊢
          (refine x_seq ?_; refine x_seq (x_region ?_); refine r_op (o_fieldAddr rfl rfl ?_); refine r_op (o_load rfl rfl rfl rfl ?_))
          (refine r_op ?_)
          refine o_call rfl (within_spec x.k 8 (by decide)) rfl ?_
          rintro v B ⟨⟨w, rfl, hw0, hw1, -⟩, rfl⟩
          (simp only [List.nil_append])
          (refine r_nil ?_)
          obtain ⟨w, rfl⟩ : ∃ i : Nat, w = i := ⟨w.toNat, by omega⟩
          have hrn : a = -1 → rnone ess ref := fun ha1 => by
            rcases hq with ⟨_, rfl, hh⟩ | ⟨j, hj, h1, -⟩
            · by_cases hx0 : x.n < 0
              · left
                unfold rhas
                rw [decide_eq_false (by dsimp only; omega)]; rfl
              · have hLn : rlF 0 ess = [] := by
                  rw [hL]
                  exact List.eq_nil_of_length_eq_zero (by omega)
                by_cases hx4 : x.n < 4
                · right
                  refine ⟨by unfold rhas; rw [decide_eq_true (by dsimp only; omega), decide_eq_true (by dsimp only; omega)]; rfl, fun es he => .inr (rlF_none ess 0 hLn es (List.mem_of_getElem? he) _)⟩
                · left
                  unfold rhas
                  rw [decide_eq_false (p := _ < (4 : Int)) (by dsimp only; omega)]; simp
            · omega
          by_cases hcd : (w = 4 ∨ w = 5) ∧ a = -1
          · obtain ⟨h45, rfl⟩ := hcd
            rcases h45 with rfl | rfl
            · (refine x_block ?_; refine x_seq ?_; refine x_seq (x_region ?_); refine r_op (o_eql_t rfl rfl (by omega) rfl ?_); refine r_op (o_assign rfl rfl ?_); refine r_nil ?_; refine x_true rfl ?_; refine x_skip ?_; refine x_true rfl ?_; refine x_seq (x_region ?_); refine r_op (o_move rfl rfl ?_))
              (refine r_op ?_)
              refine o_loadA (us := refC ref) rfl rfl rfl rfl rfl ?_
              (refine r_op ?_)
              refine o_call rfl (rdelN_spec r b hc hR (hrn rfl)) rfl ?_
              rintro v B ⟨rfl, rfl⟩
              (simp only [List.cons_append, List.nil_append])
              (refine r_op ?_)
              refine o_call rfl (num11_spec 3) rfl ?_
              rintro v B ⟨rfl, rfl⟩
              (simp only [List.nil_append])
              (refine r_op (o_assign rfl rfl ?_); refine r_nil ?_; refine x_seq ?_; refine x_seq (x_region ?_); refine r_op (o_move rfl rfl ?_); refine r_op (o_lss_t rfl rfl (by omega) rfl ?_); refine r_nil ?_; refine x_true rfl ?_; refine x_seq ?_; refine x_seq (x_region ?_); refine r_op (o_move rfl rfl ?_); refine r_op (o_neq_f rfl rfl (by omega) rfl ?_); refine r_nil ?_; refine x_false rfl ?_; refine x_skip ?_; refine x_exit rfl ?_; refine x_region ?_; refine r_op (o_move rfl rfl ?_); refine r_op (o_add rfl rfl (add_i64 (by omega)) rfl ?_); refine r_op (o_assign rfl rfl ?_); refine r_nil ?_)
              subst hL
              refine x_mem (Γ' := RackI r b (ssOf f ess) :: DiskI b (newD bs) :: Sl 3 al (rlF 0 ess).length cl ((rlF 0 ess).flatMap re) :: A :: Row b0 0 p.cells :: Γ) Sub.h ?_
              refine x_weak (back ⟨i + 1, bs, ess, al, cl, b, r⟩ ⟨by dsimp only; omega, hc, hR, by dsimp only; omega⟩ (by dsimp only; omega)) (by (repeat' (first | exact trivial | refine ⟨rfl, ?_⟩))) Sub.h
            · (refine x_block ?_; refine x_seq ?_; refine x_seq (x_region ?_); refine r_op (o_eql_f rfl rfl (by omega) rfl ?_); refine r_op (o_assign rfl rfl ?_); refine r_nil ?_; refine x_false rfl ?_; refine x_region ?_; refine r_op (o_eql_t rfl rfl (by omega) rfl ?_); refine r_op (o_assign rfl rfl ?_); refine r_nil ?_; refine x_true rfl ?_; refine x_seq (x_region ?_); refine r_op (o_move rfl rfl ?_))
              (refine r_op ?_)
              refine o_loadA (us := refC ref) rfl rfl rfl rfl rfl ?_
              (refine r_op ?_)
              refine o_call rfl (rdelN_spec r b hc hR (hrn rfl)) rfl ?_
              rintro v B ⟨rfl, rfl⟩
              (simp only [List.cons_append, List.nil_append])
              (refine r_op ?_)
              refine o_call rfl (num11_spec 3) rfl ?_
              rintro v B ⟨rfl, rfl⟩
              (simp only [List.nil_append])
              (refine r_op (o_assign rfl rfl ?_); refine r_nil ?_; refine x_seq ?_; refine x_seq (x_region ?_); refine r_op (o_move rfl rfl ?_); refine r_op (o_lss_t rfl rfl (by omega) rfl ?_); refine r_nil ?_; refine x_true rfl ?_; refine x_seq ?_; refine x_seq (x_region ?_); refine r_op (o_move rfl rfl ?_); refine r_op (o_neq_f rfl rfl (by omega) rfl ?_); refine r_nil ?_; refine x_false rfl ?_; refine x_skip ?_; refine x_exit rfl ?_; refine x_region ?_; refine r_op (o_move rfl rfl ?_); refine r_op (o_add rfl rfl (add_i64 (by omega)) rfl ?_); refine r_op (o_assign rfl rfl ?_); refine r_nil ?_)
              subst hL
              refine x_mem (Γ' := RackI r b (ssOf f ess) :: DiskI b (newD bs) :: Sl 3 al (rlF 0 ess).length cl ((rlF 0 ess).flatMap re) :: A :: Row b0 0 p.cells :: Γ) Sub.h ?_
              refine x_weak (back ⟨i + 1, bs, ess, al, cl, b, r⟩ ⟨by dsimp only; omega, hc, hR, by dsimp only; omega⟩ (by dsimp only; omega)) (by (repeat' (first | exact trivial | refine ⟨rfl, ?_⟩))) Sub.h
          · by_cases hlong : ¬ (w = 4 ∨ w = 5 ∨ w = 6 ∨ w = 7) ∧ 1008 < x.s.length
            · have hz : sizeOf x.s.length = (0, 2) := by
                rcases sizeOf_cases x.s.length with ⟨e, _⟩ | ⟨k, hk, _, h1, _⟩
                · exact e
                · have := (k4_facts hk).2.2; omega
              (refine x_block ?_; refine x_seq ?_; refine x_seq (x_region ?_); refine r_op (o_eql_f rfl rfl (by omega) rfl ?_); refine r_op (o_assign rfl rfl ?_); refine r_nil ?_; refine x_false rfl ?_; refine x_region ?_; refine r_op (o_eql_f rfl rfl (by omega) rfl ?_); refine r_op (o_assign rfl rfl ?_); refine r_nil ?_; refine x_false rfl ?_; refine x_seq (x_region ?_); refine r_op (o_eql_f rfl rfl (by omega) rfl ?_); refine r_op (o_assign rfl rfl ?_); refine r_nil ?_; refine x_false rfl ?_; refine x_seq (x_region ?_); refine r_op (o_eql_f rfl rfl (by omega) rfl ?_); refine r_op (o_assign rfl rfl ?_); refine r_nil ?_; refine x_false rfl ?_; refine x_seq (x_region ?_); refine r_op (o_move rfl rfl ?_); refine r_op (o_fieldAddr rfl rfl ?_); refine r_op (o_load rfl rfl rfl rfl ?_))
              (refine r_op ?_)
              refine o_call rfl (rputL_spec r b hc hR hz (by have := Zx.1; omega)) rfl ?_
              rintro v B ⟨rfl, rfl⟩
              (simp only [List.cons_append, List.nil_append])
              (refine r_op (o_move rfl rfl ?_); refine r_op (o_extract rfl rfl rfl ?_); refine r_op (o_extract rfl rfl rfl ?_))
              (refine r_op ?_)
              refine o_alloc rfl (fun p17 => ?_)
              (refine r_do ?_)
              refine o_storeA (us := refC (0, 0)) rfl rfl rfl rfl rfl (Nat.le_refl 2) ?_
              (refine r_op (o_assign rfl rfl ?_); refine r_nil ?_; refine x_seq (x_region ?_); refine r_op (o_fieldAddr rfl rfl ?_); refine r_op (o_load rfl rfl rfl rfl ?_); refine r_op (o_lenStr rfl rfl ?_))
              rw [bstr_size]
              (refine r_op ?_)
              refine o_call rfl (rshelf_spec x.s.length Zx.1) rfl ?_
              rintro v B ⟨rfl, rfl⟩
              rw [if_pos hlong.2]
              (simp only [List.nil_append])
              (refine r_op (o_move rfl rfl ?_); refine r_op (o_extract rfl rfl rfl ?_); refine r_op (o_extract rfl rfl rfl ?_); refine r_op (o_assign rfl rfl ?_); refine r_op (o_assign rfl rfl ?_); refine r_nil ?_; refine x_seq ?_; refine x_seq (x_region ?_); refine r_op (o_move rfl rfl ?_); refine r_op (o_not rfl rfl ?_); refine r_nil ?_; refine x_true rfl ?_; refine x_seq ?_; refine x_seq (x_region ?_); refine r_op (o_move rfl rfl ?_))
              (refine r_op ?_)
              refine o_call rfl (num11_spec 2) rfl ?_
              rintro v B ⟨rfl, rfl⟩
              (simp only [List.nil_append])
              (refine r_op (o_neq_f rfl rfl (by omega) rfl ?_); refine r_nil ?_; refine x_false rfl ?_; refine x_skip ?_; refine x_exit rfl ?_; refine x_region ?_; refine r_op (o_move rfl rfl ?_); refine r_op (o_add rfl rfl (add_i64 (by omega)) rfl ?_); refine r_op (o_assign rfl rfl ?_); refine r_nil ?_)
              subst hL
              refine x_mem (Γ' := RackI r b (ssOf f ess) :: DiskI b (newD bs) :: Sl 3 al (rlF 0 ess).length cl ((rlF 0 ess).flatMap re) :: A :: Row b0 0 p.cells :: Γ) Sub.h ?_
              refine x_weak (back ⟨i + 1, bs, ess, al, cl, b, r⟩ ⟨by dsimp only; omega, hc, hR, by dsimp only; omega⟩ (by dsimp only; omega)) (by (repeat' (first | exact trivial | refine ⟨rfl, ?_⟩))) Sub.h
            · refine x_cutK (α := MR) (fun q => Calm q.bs ∧ HoldsR f q.ess q.bs ∧ (rlF 0 q.ess).length ≤ i + 1)
                (fun q => [(1, dp b0), (3, .int .i64 f), (4, dp q.b), (5, dp q.r), (7, .slice q.al (rlF 0 q.ess).length q.cl), (8, .int .i64 i)])
                (fun q => RackI q.r q.b (ssOf f q.ess) :: DiskI q.b (newD q.bs) :: Sl 3 q.al (rlF 0 q.ess).length q.cl ((rlF 0 q.ess).flatMap re) :: A :: Row b0 0 p.cells :: Γ) ?_ ?_
              · rintro ⟨_, bs, ess, al, cl, b, r⟩ ⟨hc, hR, hl⟩
                dsimp only at hc hR hl ⊢
                have Ren := rentriesC_spec r b 1000 hR (by decide)
                have SB := rbytesC_spec r b hR
                have SF := rfailed_spec r b (ssOf f ess)
                rw [ssOf_fail] at SF
                have h4 : ∀ y ∈ rlF 0 ess, y.1.1 < 4 := fun y hy => by
                  have := (rlF_shelf _ _ y hy).2
                  rw [hR.h4] at this; omega
                obtain ⟨M, hM⟩ : ∃ M, rlF 0 ess = M := ⟨_, rfl⟩
                rw [hM] at hl Ren SB h4 ⊢
                have RM := Sl.reads 3 al M.length cl (M.flatMap re) (flen re_cl M)
                (refine x_seq (x_region ?_); refine r_op (o_move rfl rfl ?_))
                (refine r_op ?_)
                refine o_call rfl Ren rfl ?_
                rintro v B ⟨a5, c5, rfl, rfl⟩
                have RM2 := Sl.reads 3 a5 M.length c5 (M.flatMap re) (flen re_cl M)
                (simp only [List.cons_append, List.nil_append])
                (refine r_op (o_assign rfl rfl ?_); refine r_nil ?_; refine x_seq (x_region ?_); refine r_op (o_assign rfl rfl ?_); refine r_nil ?_; refine x_seq ?_; refine x_seq (x_region ?_); refine r_op (o_move rfl rfl ?_); refine r_op (o_lenS rfl rfl ?_); refine r_op (o_move rfl rfl ?_); refine r_op (o_lenS rfl rfl ?_); refine r_op (o_neq_f rfl rfl (by omega) rfl ?_); refine r_op (o_move rfl rfl ?_); refine r_guard rfl (o_move rfl rfl ?_))
                (refine r_guard rfl ?_)
                refine o_call rfl SF rfl ?_
                rintro v B ⟨rfl, rfl⟩
                (simp only [List.cons_append, List.nil_append])
                (refine r_op (o_pick_f rfl rfl rfl ?_); refine r_nil ?_; refine x_false rfl ?_; refine x_skip ?_; refine x_seq ?_; refine x_seq (x_region ?_); refine r_op (o_assign rfl rfl ?_); refine r_nil ?_)
                (refine x_block ?_)
                refine x_loop (α := Nat) (fun j => j ≤ M.length) (fun j => [(1, dp b0), (3, .int .i64 f), (4, dp b), (5, dp r), (7, .slice al M.length cl), (8, .int .i64 i), (23, .slice a5 M.length c5), (24, .int .i64 (rbytes (M.take j))), (25, .int .i64 j)])
                  (fun _ => RackI r b (ssOf f ess) :: Sl 3 a5 M.length c5 (M.flatMap re) :: DiskI b (newD bs) :: Sl 3 al M.length cl (M.flatMap re) :: A :: Row b0 0 p.cells :: Γ)
                  (fun j => M.length - j) 0 (Nat.zero_le _) ⟨rfl, rfl, rfl, rfl, rfl, rfl, rfl, rfl, rfl, trivial⟩ (.refl _) ?_
                intro j hj back3
                (refine x_seq ?_; refine x_seq (x_region ?_); refine r_op (o_move rfl rfl ?_); refine r_op (o_move rfl rfl ?_); refine r_op (o_lenS rfl rfl ?_))
                (refine r_op ?_)
                refine o_lss rfl rfl rfl (fun hjl => ?_) (fun hjl => ?_)
                · have hj1 : j < M.length := by omega
                  have hy4 := h4 _ (List.getElem_mem hj1)
                  have hrb := rbytes_take (List.getElem?_eq_getElem hj1)
                  have hrl := rbytes_le (M.take j) (fun z hz => h4 z (List.mem_of_mem_take hz))
                  have htl : (M.take j).length ≤ j := by simp; omega
                  have hs2 := (k4_facts hy4).2.2
                  (refine r_nil ?_; refine x_true rfl ?_; refine x_skip ?_; refine x_seq ?_; refine x_block ?_; refine x_seq (x_region ?_); refine r_op (o_move rfl rfl ?_); refine r_op (o_move rfl rfl ?_); refine r_op (o_move rfl rfl ?_))
                  (refine r_op ?_)
                  refine o_indexR rfl rfl RM (j := j) rfl hj1 rfl (fun b2 off2 ha2 => ?_)
                  (refine r_op (o_fieldAddr rfl rfl ?_); refine r_op (o_fieldAddr rfl rfl ?_))
                  (refine r_op ?_)
                  refine o_loadR rfl RM ha2 (i := j * 3 + 0) (by omega) ((fget re_cl hj1 0 (by decide)).trans rfl) rfl ?_
                  (refine r_op ?_)
                  refine o_call rfl (rslot_spec M[j].1.1 hy4) rfl ?_
                  rintro v B ⟨rfl, rfl⟩
                  (simp only [List.nil_append])
                  (refine r_op ?_)
                  refine o_add rfl rfl (add_i64 (by omega)) rfl ?_
                  rw [show (rbytes (M.take j) : Int) + ((128 * 2 ^ M[j].1.1 : Nat) : Int) = ((rbytes (M.take (j + 1)) : Nat) : Int) by rw [hrb]; omega]
                  (refine r_op (o_assign rfl rfl ?_); refine r_nil ?_; refine x_seq ?_)
                  refine x_base RM2 (by omega) fun b1 o1 ha1 => ?_
                  refine x_base RM (by omega) fun b2 o2 ha2 => ?_
                  refine x_script 9 [(0,false),(1,false),(2,false),(3,false),(4,false),(5,false),(6,false),(7,false),(8,false)] [Sl 3 a5 M.length c5 (M.flatMap re), Sl 3 al M.length cl (M.flatMap re)] mixed (by kernel_rfl) permF ?_
                  (refine s_v rfl (v_move rfl) ?_; refine s_v rfl (v_move rfl) ?_)
                  refine s_v rfl (v_indexH rfl rfl ha1 (j := j) rfl hj1) ?_
                  refine s_v rfl (v_loadAR rfl RM2 ha1 (i := j * 3) (us := re M[j]) (by omega) rfl (re_cell hj1 rfl)) ?_
                  (refine s_v rfl (v_move rfl) ?_; refine s_v rfl (v_move rfl) ?_)
                  refine s_v rfl (v_indexH rfl rfl ha2 (j := j) rfl hj1) ?_
                  refine s_v rfl (v_loadAR rfl RM ha2 (i := j * 3) (us := re M[j]) (by omega) rfl (re_cell hj1 rfl)) ?_
                  refine s_v rfl (v_neqRE (z := M[j]) rfl rfl) ?_
                  refine s_end rfl ?_
                  (refine x_false rfl ?_; refine x_skip ?_; refine x_inBlock ?_; refine x_region ?_; refine r_op (o_move rfl rfl ?_); refine r_op (o_add rfl rfl (add_i64 (by omega)) rfl ?_); refine r_op (o_assign rfl rfl ?_); refine r_nil ?_)
                  refine x_weak (back3 (j + 1) (by omega) (by omega)) (by (repeat' (first | exact trivial | refine ⟨rfl, ?_⟩))) Sub.h
                · obtain rfl : j = M.length := by omega
                  rw [List.take_length]
                  (refine r_nil ?_; refine x_false rfl ?_; refine x_exit rfl ?_; refine x_seq (x_region ?_); refine r_op (o_move rfl rfl ?_))
                  (refine r_op ?_)
                  refine o_call rfl SB rfl ?_
                  rintro v B ⟨rfl, rfl⟩
                  (simp only [List.cons_append, List.nil_append])
                  (refine r_op (o_move rfl rfl ?_); refine r_op (o_neq_f rfl rfl (by omega) rfl ?_); refine r_nil ?_; refine x_false rfl ?_; refine x_skip ?_; refine x_inBlock ?_; refine x_region ?_; refine r_op (o_move rfl rfl ?_); refine r_op (o_add rfl rfl (add_i64 (by omega)) rfl ?_); refine r_op (o_assign rfl rfl ?_); refine r_nil ?_)
                  subst hM
                  refine x_mem (Γ' := RackI r b (ssOf f ess) :: DiskI b (newD bs) :: Sl 3 al (rlF 0 ess).length cl ((rlF 0 ess).flatMap re) :: A :: Row b0 0 p.cells :: Γ) Sub.h ?_
                  refine x_weak (back ⟨i + 1, bs, ess, al, cl, b, r⟩ ⟨by dsimp only; omega, hc, hR, hl⟩ (by dsimp only; omega)) (by (repeat' (first | exact trivial | refine ⟨rfl, ?_⟩))) Sub.h
              · intro td back2
                have hL20 : L.length ≤ 20 := by omega
                by_cases h45 : w = 4 ∨ w = 5
                · obtain ⟨j, hj, rfl, rfl⟩ : ∃ j : Nat, ∃ h : j < L.length, a = j ∧ ref = rat L[j] := by
                    rcases hq with ⟨h1, _⟩ | h
                    · exact absurd ⟨h45, h1⟩ hcd
                    · exact h
                  obtain ⟨y, hy⟩ : ∃ y, L[j] = y := ⟨_, rfl⟩
                  rw [hy]
                  obtain ⟨-, es, hes, hey, hdel⟩ := rlF_del ess 0 j y (by rw [hL, List.getElem?_eq_getElem hj, hy])
                  rw [Nat.sub_zero] at hes hdel
                  rw [hL] at hdel
                  rcases h45 with rfl | rfl
                  · (refine x_block ?_; refine x_seq ?_; refine x_seq (x_region ?_); refine r_op (o_eql_t rfl rfl (by omega) rfl ?_); refine r_op (o_assign rfl rfl ?_); refine r_nil ?_; refine x_true rfl ?_; refine x_skip ?_; refine x_true rfl ?_; refine x_seq (x_region ?_); refine r_op (o_move rfl rfl ?_))
                    (refine r_op ?_)
                    refine o_loadA (us := refC (rat y)) rfl rfl rfl rfl rfl ?_
                    (refine r_op ?_)
                    refine o_call rfl (rdelC_spec r b hc hR hes hey) rfl ?_
                    rintro v B ⟨bs2, rfl, rfl, hc2, hR2⟩
                    (simp only [List.cons_append, List.nil_append])
                    (refine r_op ?_)
                    refine o_call rfl (num11_spec 0) rfl ?_
                    rintro v B ⟨rfl, rfl⟩
                    (simp only [List.nil_append])
                    (refine r_op (o_assign rfl rfl ?_); refine r_nil ?_; refine x_seq ?_; refine x_seq (x_region ?_); refine r_op (o_move rfl rfl ?_); refine r_op (o_lss_f rfl rfl (by omega) rfl ?_); refine r_nil ?_; refine x_false rfl ?_; refine x_skip ?_; refine x_seq ?_; refine x_seq (x_region ?_); refine r_op (o_move rfl rfl ?_); refine r_op (o_neq_f rfl rfl (by omega) rfl ?_); refine r_nil ?_; refine x_false rfl ?_; refine x_skip ?_)
                    have R1 := RL.firstN j (Nat.le_of_lt hj)
                    rw [re_take] at R1
                    refine x_sl al fun _ hcap => ?_
                    have R2 := RL.sub cl (j + 1) L.length hj (Nat.le_refl _) hcap
                    rw [re_drop, List.take_of_length_le (by rw [flen re_cl]; simp)] at R2
                    refine x_script 10 [(1,false),(2,false),(3,false),(5,false),(6,false),(7,false),(8,false),(0,true),(4,true),(9,true),(10,false)] [Sl 3 al L.length cl (L.flatMap re)] mixed (by kernel_rfl) permF ?_
                    (refine s_v rfl (v_move rfl) ?_; refine s_v rfl (v_move rfl) ?_)
                    refine s_v rfl (v_sliceHi rfl rfl (jh := j) rfl (by omega)) ?_
                    (refine s_v rfl (v_move rfl) ?_; refine s_v rfl (v_move rfl) ?_)
                    refine s_v rfl (v_add rfl rfl (add_i64 (by omega))) ?_
                    skip
                    refine s_v rfl (v_sliceLo rfl rfl (jl := j + 1) (by omega) hj) ?_
                    refine s_x rfl (o_buildSlice rfl (by rfl) (by rfl) (by rfl) (by rfl) rfl (fun a11 => ?_))
                    refine ⟨permF, ?_⟩
                    refine s_x rfl (o_append rfl rfl R1 (by rfl) (by rfl) (re_one _) (by omega) rfl (fun a12 c12 hc12 => ?_))
                    refine ⟨permF, ?_⟩
                    refine s_x rfl (o_append rfl rfl R2 (by rfl) (by rfl) (re_one _) (by omega) rfl (fun a15 c15 hc15 => ?_))
                    refine ⟨permF, ?_⟩
                    (refine s_v rfl (v_assign rfl) ?_)
                    refine s_end rfl ?_
                    obtain ⟨ess2, hess2⟩ : ∃ e, ess.set y.1.1 (es.set y.1.2 none) = e := ⟨_, rfl⟩
                    rw [hess2] at hdel hR2 ⊢
                    have hl2 : (rlF 0 ess2).length = L.length - 1 := by rw [hdel]; simp; omega
                    have hf2 : (rlF 0 ess2).flatMap re = ([] ++ (L.take j).flatMap re ++ (L.drop (j + 1)).flatMap re) := by
                      rw [hdel]; simp
                    rw [show 0 + j + (L.length - (j + 1)) = (rlF 0 ess2).length by rw [hl2]; omega, ← hf2]
                    (refine x_inBlock ?_)
                    refine x_mem (Γ' := RackI r b (ssOf f ess2) :: DiskI b (newD bs2) :: Sl 3 a15 (rlF 0 ess2).length c15 ((rlF 0 ess2).flatMap re) :: A :: Row b0 0 p.cells :: Γ) Sub.h ?_
                    refine x_weak (back2 ⟨i, bs2, ess2, a15, c15, b, r⟩ ⟨hc2, hR2, by dsimp only; rw [hl2]; omega⟩) (by (repeat' (first | exact trivial | refine ⟨rfl, ?_⟩))) Sub.h
                  · (refine x_block ?_; refine x_seq ?_; refine x_seq (x_region ?_); refine r_op (o_eql_f rfl rfl (by omega) rfl ?_); refine r_op (o_assign rfl rfl ?_); refine r_nil ?_; refine x_false rfl ?_; refine x_region ?_; refine r_op (o_eql_t rfl rfl (by omega) rfl ?_); refine r_op (o_assign rfl rfl ?_); refine r_nil ?_; refine x_true rfl ?_; refine x_seq (x_region ?_); refine r_op (o_move rfl rfl ?_))
                    (refine r_op ?_)
                    refine o_loadA (us := refC (rat y)) rfl rfl rfl rfl rfl ?_
                    (refine r_op ?_)
                    refine o_call rfl (rdelC_spec r b hc hR hes hey) rfl ?_
                    rintro v B ⟨bs2, rfl, rfl, hc2, hR2⟩
                    (simp only [List.cons_append, List.nil_append])
                    (refine r_op ?_)
                    refine o_call rfl (num11_spec 0) rfl ?_
                    rintro v B ⟨rfl, rfl⟩
                    (simp only [List.nil_append])
                    (refine r_op (o_assign rfl rfl ?_); refine r_nil ?_; refine x_seq ?_; refine x_seq (x_region ?_); refine r_op (o_move rfl rfl ?_); refine r_op (o_lss_f rfl rfl (by omega) rfl ?_); refine r_nil ?_; refine x_false rfl ?_; refine x_skip ?_; refine x_seq ?_; refine x_seq (x_region ?_); refine r_op (o_move rfl rfl ?_); refine r_op (o_neq_f rfl rfl (by omega) rfl ?_); refine r_nil ?_; refine x_false rfl ?_; refine x_skip ?_)
                    have R1 := RL.firstN j (Nat.le_of_lt hj)
                    rw [re_take] at R1
                    refine x_sl al fun _ hcap => ?_
                    have R2 := RL.sub cl (j + 1) L.length hj (Nat.le_refl _) hcap
                    rw [re_drop, List.take_of_length_le (by rw [flen re_cl]; simp)] at R2
                    refine x_script 10 [(1,false),(2,false),(3,false),(5,false),(6,false),(7,false),(8,false),(0,true),(4,true),(9,true),(10,false)] [Sl 3 al L.length cl (L.flatMap re)] mixed (by kernel_rfl) permF ?_
                    (refine s_v rfl (v_move rfl) ?_; refine s_v rfl (v_move rfl) ?_)
                    refine s_v rfl (v_sliceHi rfl rfl (jh := j) rfl (by omega)) ?_
                    (refine s_v rfl (v_move rfl) ?_; refine s_v rfl (v_move rfl) ?_)
                    refine s_v rfl (v_add rfl rfl (add_i64 (by omega))) ?_
                    skip
                    refine s_v rfl (v_sliceLo rfl rfl (jl := j + 1) (by omega) hj) ?_
                    refine s_x rfl (o_buildSlice rfl (by rfl) (by rfl) (by rfl) (by rfl) rfl (fun a11 => ?_))
                    refine ⟨permF, ?_⟩
                    refine s_x rfl (o_append rfl rfl R1 (by rfl) (by rfl) (re_one _) (by omega) rfl (fun a12 c12 hc12 => ?_))
                    refine ⟨permF, ?_⟩
                    refine s_x rfl (o_append rfl rfl R2 (by rfl) (by rfl) (re_one _) (by omega) rfl (fun a15 c15 hc15 => ?_))
                    refine ⟨permF, ?_⟩
                    (refine s_v rfl (v_assign rfl) ?_)
                    refine s_end rfl ?_
                    obtain ⟨ess2, hess2⟩ : ∃ e, ess.set y.1.1 (es.set y.1.2 none) = e := ⟨_, rfl⟩
                    rw [hess2] at hdel hR2 ⊢
                    have hl2 : (rlF 0 ess2).length = L.length - 1 := by rw [hdel]; simp; omega
                    have hf2 : (rlF 0 ess2).flatMap re = ([] ++ (L.take j).flatMap re ++ (L.drop (j + 1)).flatMap re) := by
                      rw [hdel]; simp
                    rw [show 0 + j + (L.length - (j + 1)) = (rlF 0 ess2).length by rw [hl2]; omega, ← hf2]
                    (refine x_inBlock ?_)
                    refine x_mem (Γ' := RackI r b (ssOf f ess2) :: DiskI b (newD bs2) :: Sl 3 a15 (rlF 0 ess2).length c15 ((rlF 0 ess2).flatMap re) :: A :: Row b0 0 p.cells :: Γ) Sub.h ?_
                    refine x_weak (back2 ⟨i, bs2, ess2, a15, c15, b, r⟩ ⟨hc2, hR2, by dsimp only; rw [hl2]; omega⟩) (by (repeat' (first | exact trivial | refine ⟨rfl, ?_⟩))) Sub.h
                · by_cases h6 : w = 6
                  · subst h6
                    (refine x_block ?_; refine x_seq ?_; refine x_seq (x_region ?_); refine r_op (o_eql_f rfl rfl (by omega) rfl ?_); refine r_op (o_assign rfl rfl ?_); refine r_nil ?_; refine x_false rfl ?_; refine x_region ?_; refine r_op (o_eql_f rfl rfl (by omega) rfl ?_); refine r_op (o_assign rfl rfl ?_); refine r_nil ?_; refine x_false rfl ?_; refine x_seq (x_region ?_); refine r_op (o_eql_t rfl rfl (by omega) rfl ?_); refine r_op (o_assign rfl rfl ?_); refine r_nil ?_; refine x_true rfl ?_; refine x_seq (x_region ?_); refine r_op (o_move rfl rfl ?_))
                    (refine r_op ?_)
                    refine o_loadA (us := refC ref) rfl rfl rfl rfl rfl ?_
                    (refine r_op ?_)
                    refine o_call rfl (rget_spec r b (ssOf f ess) ref (fun s hs => by have := (hR.mem s hs).2; omega)) rfl ?_
                    rintro v B ⟨rfl, rfl⟩
                    (simp only [List.cons_append, List.nil_append])
                    rcases hq with ⟨rfl, -, -⟩ | ⟨j, hj, rfl, rfl⟩
                    · rw [rgetN hR (hrn rfl)]
                      (refine r_op (o_move rfl rfl ?_); refine r_op (o_extract rfl rfl rfl ?_); refine r_op (o_extract rfl rfl rfl ?_); refine r_op (o_assign rfl rfl ?_); refine r_op (o_assign rfl rfl ?_); refine r_nil ?_; refine x_seq (x_region ?_); refine r_op (o_move rfl rfl ?_); refine r_op (o_lss_t rfl rfl (by omega) rfl ?_); refine r_op (o_move rfl rfl ?_); refine r_guard rfl (o_move rfl rfl ?_))
                      (refine r_guard rfl ?_)
                      refine o_call rfl (num11_spec 3) rfl ?_
                      rintro v B ⟨rfl, rfl⟩
                      (simp only [List.nil_append])
                      (refine r_guard rfl (o_neq_f rfl rfl (by omega) rfl ?_); refine r_op (o_pick_t rfl rfl rfl ?_); refine r_op (o_move rfl rfl ?_); refine r_guard rfl (o_move rfl rfl ?_); refine r_guard rfl (o_geq_f rfl rfl (by omega) rfl ?_); refine r_guard rfl (o_move rfl rfl ?_); refine r_skip rfl rfl rfl ?_; refine r_skip rfl rfl rfl ?_; refine r_skip rfl rfl rfl ?_; refine r_skip rfl rfl rfl ?_; refine r_skip' rfl rfl ?_; refine r_skip' rfl rfl ?_; refine r_skip' rfl rfl ?_; refine r_skip' rfl rfl ?_; refine r_skip' rfl rfl ?_; refine r_skip' rfl rfl ?_; refine r_skip' rfl rfl ?_; refine r_skip rfl rfl rfl ?_; refine r_guard rfl (o_pick_f rfl rfl rfl ?_); refine r_op (o_pick_f rfl rfl rfl ?_); refine r_nil ?_; refine x_false rfl ?_; refine x_skip ?_; refine x_inBlock ?_)
                      subst hL
                      refine x_mem (Γ' := RackI r b (ssOf f ess) :: DiskI b (newD bs) :: Sl 3 al (rlF 0 ess).length cl ((rlF 0 ess).flatMap re) :: A :: Row b0 0 p.cells :: Γ) Sub.h ?_
                      refine x_weak (back2 ⟨i, bs, ess, al, cl, b, r⟩ ⟨hc, hR, by dsimp only; omega⟩) (by (repeat' (first | exact trivial | refine ⟨rfl, ?_⟩))) Sub.h
                    · obtain ⟨-, es, hes, hey, -⟩ := rlF_del ess 0 j L[j] (by rw [hL, List.getElem?_eq_getElem hj])
                      rw [Nat.sub_zero] at hes
                      have hj4 : L[j].1.1 < 4 := by
                        have := (List.getElem?_eq_some_iff.1 hes).1
                        rw [hR.h4] at this; exact this
                      rw [show rget (ssOf f ess) (rat L[j]) = (L[j].2, 0) from rgetS hj4 hes hey]
                      (refine r_op (o_move rfl rfl ?_); refine r_op (o_extract rfl rfl rfl ?_); refine r_op (o_extract rfl rfl rfl ?_); refine r_op (o_assign rfl rfl ?_); refine r_op (o_assign rfl rfl ?_); refine r_nil ?_; refine x_seq (x_region ?_); refine r_op (o_move rfl rfl ?_); refine r_op (o_lss_f rfl rfl (by omega) rfl ?_); refine r_op (o_move rfl rfl ?_); refine r_skip rfl rfl rfl ?_; refine r_skip rfl rfl rfl ?_; refine r_skip rfl rfl rfl ?_; refine r_op (o_pick_f rfl rfl rfl ?_); refine r_op (o_move rfl rfl ?_); refine r_guard rfl (o_move rfl rfl ?_); refine r_guard rfl (o_geq_t rfl rfl (by omega) rfl ?_); refine r_guard rfl (o_move rfl rfl ?_); refine r_guard rfl (o_move rfl rfl ?_))
                      (refine r_guard rfl ?_)
                      refine o_call rfl (num11_spec 0) rfl ?_
                      rintro v B ⟨rfl, rfl⟩
                      (simp only [List.nil_append])
                      (refine r_guard rfl (o_neq_f rfl rfl (by omega) rfl ?_); refine r_guard rfl (o_move rfl rfl ?_); refine r_guard rfl (o_move rfl rfl ?_); refine r_guard rfl (o_move rfl rfl ?_); refine r_guard rfl (o_move rfl rfl ?_))
                      (refine r_guard rfl ?_)
                      refine o_indexR rfl rfl RL (j := j) rfl hj rfl (fun b2 off2 ha2 => ?_)
                      (refine r_guard rfl (o_fieldAddr rfl rfl ?_))
                      (refine r_guard rfl ?_)
                      refine o_loadR rfl RL ha2 (i := j * 3 + 2) (by omega) ((fget re_cl hj 2 (by decide)).trans rfl) rfl ?_
                      (refine r_guard rfl ?_)
                      refine o_sneq_f rfl rfl rfl rfl ?_
                      (refine r_guard rfl (o_pick_f rfl rfl rfl ?_); refine r_guard rfl (o_pick_t rfl rfl rfl ?_); refine r_op (o_pick_f rfl rfl rfl ?_); refine r_nil ?_; refine x_false rfl ?_; refine x_skip ?_; refine x_inBlock ?_)
                      subst hL
                      refine x_mem (Γ' := RackI r b (ssOf f ess) :: DiskI b (newD bs) :: Sl 3 al (rlF 0 ess).length cl ((rlF 0 ess).flatMap re) :: A :: Row b0 0 p.cells :: Γ) Sub.h ?_
                      refine x_weak (back2 ⟨i, bs, ess, al, cl, b, r⟩ ⟨hc, hR, by dsimp only; omega⟩) (by (repeat' (first | exact trivial | refine ⟨rfl, ?_⟩))) Sub.h
                  · by_cases h7 : w = 7
                    · subst h7
                      (refine x_block ?_; refine x_seq ?_; refine x_seq (x_region ?_); refine r_op (o_eql_f rfl rfl (by omega) rfl ?_); refine r_op (o_assign rfl rfl ?_); refine r_nil ?_; refine x_false rfl ?_; refine x_region ?_; refine r_op (o_eql_f rfl rfl (by omega) rfl ?_); refine r_op (o_assign rfl rfl ?_); refine r_nil ?_; refine x_false rfl ?_; refine x_seq (x_region ?_); refine r_op (o_eql_f rfl rfl (by omega) rfl ?_); refine r_op (o_assign rfl rfl ?_); refine r_nil ?_; refine x_false rfl ?_; refine x_seq (x_region ?_); refine r_op (o_eql_t rfl rfl (by omega) rfl ?_); refine r_op (o_assign rfl rfl ?_); refine r_nil ?_; refine x_true rfl ?_; refine x_seq (x_region ?_); refine r_op (o_move rfl rfl ?_); refine r_op (o_fieldAddr rfl rfl ?_); refine r_op (o_load rfl rfl rfl rfl ?_))
                      (refine r_op ?_)
                      refine o_call rfl (again_spec b hc Rx (by have := Zx.2; omega) (fun z hz => (Fx.2.2 z hz).2)) rfl ?_
                      rintro v B ⟨b2, rfl, rfl⟩
                      (simp only [List.cons_append, List.nil_append])
                      (refine r_op (o_assign rfl rfl ?_); refine r_nil ?_; refine x_seq ?_; refine x_seq (x_region ?_); refine r_op (o_move rfl rfl ?_))
                      (refine r_op ?_)
                      refine o_peq (.inl rfl) rfl rfl (.inr rfl) rfl ?_
                      (refine r_nil ?_; refine x_false rfl ?_; refine x_skip ?_; refine x_seq (x_region ?_); refine r_op (o_move rfl rfl ?_); refine r_op (o_move rfl rfl ?_))
                      (refine r_op ?_)
                      refine o_call rfl (ropenC_spec b2 hc hR) rfl ?_
                      rintro v B ⟨r2, bs2, rfl, rfl, hc2, hR2⟩
                      (simp only [List.cons_append, List.nil_append])
                      (refine r_op (o_move rfl rfl ?_); refine r_op (o_extract rfl rfl rfl ?_); refine r_op (o_extract rfl rfl rfl ?_); refine r_op (o_assign rfl rfl ?_); refine r_op (o_assign rfl rfl ?_); refine r_nil ?_; refine x_seq ?_; refine x_seq (x_region ?_); refine r_op (o_move rfl rfl ?_))
                      (refine r_op ?_)
                      refine o_call rfl (num11_spec 0) rfl ?_
                      rintro v B ⟨rfl, rfl⟩
                      (simp only [List.nil_append])
                      (refine r_op (o_neq_f rfl rfl (by omega) rfl ?_); refine r_op (o_move rfl rfl ?_); refine r_guard rfl (o_move rfl rfl ?_))
                      (refine r_guard rfl ?_)
                      refine o_peq (.inl rfl) rfl rfl (.inr rfl) rfl ?_
                      (refine r_op (o_pick_f rfl rfl rfl ?_); refine r_nil ?_; refine x_false rfl ?_; refine x_skip ?_; refine x_seq (x_region ?_))
                      (refine r_op ?_)
                      refine o_alloc rfl (fun p15 => ?_)
                      have hcl := rlF_clen ess 0
                      have hrn2 := fun k y => rlF_renum ess 0 k y
                      rw [hL] at hcl hrn2
                      obtain ⟨L2, hL2⟩ : ∃ L2, rlF 0 (ess.map compact) = L2 := ⟨_, rfl⟩
                      rw [hL2] at hcl hrn2
                      have hL4 : ∀ y ∈ L, y.1.1 < 4 := fun y hy => by
                        rw [← hL] at hy
                        have := (rlF_shelf _ _ y hy).2
                        rw [hR.h4] at this; omega
                      (refine r_nil ?_; refine x_seq (x_region ?_); refine r_op (o_assign rfl rfl ?_); refine r_nil ?_)
                      (refine x_block ?_)
                      refine x_loop (α := Nat) (fun k => k ≤ L.length) (fun k => [(1, dp b0), (3, .int .i64 f), (4, dp b2), (5, dp r2), (7, .slice al L.length cl), (8, .int .i64 i), (15, dp p15), (16, .int .i64 k)])
                        (fun k => Sl 3 al L.length cl ((L2.take k ++ L.drop k).flatMap re) :: Row p15 0 (nA (L.take k)) :: RackI r2 b2 (ssOf f (ess.map compact)) :: DiskI b2 (newD bs2) :: A :: Row b0 0 p.cells :: Γ)
                        (fun k => L.length - k) 0 (Nat.zero_le _) ⟨rfl, rfl, rfl, rfl, rfl, rfl, rfl, rfl, trivial⟩ (show Ent _ (Sl 3 al L.length cl (L.flatMap re) :: Row p15 0 [.int .i64 0, .int .i64 0, .int .i64 0, .int .i64 0] :: _) from Sub.h) ?_
                      intro k hk back4
                      (refine x_seq ?_; refine x_seq (x_region ?_); refine r_op (o_move rfl rfl ?_); refine r_op (o_move rfl rfl ?_); refine r_op (o_lenS rfl rfl ?_))
                      (refine r_op ?_)
                      refine o_lss rfl rfl rfl (fun hkl => ?_) (fun hkl => ?_)
                      · have hk1 : k < L.length := by omega
                        obtain ⟨y, hy⟩ : ∃ y, L[k] = y := ⟨_, rfl⟩
                        have hy4 : y.1.1 < 4 := hL4 y (hy ▸ List.getElem_mem hk1)
                        have hyk := hrn2 k y (by rw [List.getElem?_eq_getElem hk1, hy])
                        have hat := renum_at hk1 (show k < L2.length by omega)
                        rw [hy] at hat
                        obtain ⟨c, hcc⟩ : ∃ c, (L.take k).countP (fun z => z.1.1 == y.1.1) = c := ⟨_, rfl⟩
                        have hcl2 : c ≤ 20 := by
                          have := List.countP_le_length (p := fun z : RE => z.1.1 == y.1.1) (l := L.take k)
                          rw [hcc, List.length_take] at this; omega
                        rw [hcc] at hyk
                        have hng := nA_get (L.take k) hy4
                        have hns := nA_set (L.take k) y
                        rw [hcc] at hng hns
                        have hst := renum_step hk1 hyk
                        obtain ⟨NN, hNN⟩ : ∃ NN, L2.take k ++ L.drop k = NN := ⟨_, rfl⟩
                        rw [hNN] at hat hst ⊢
                        have hNl : NN.length = L.length := by rw [← hNN]; simp; omega
                        have hkN : k < NN.length := by omega
                        have hNk : NN[k] = y := by rw [List.getElem?_eq_getElem hkN] at hat; exact Option.some.inj hat
                        have RN : Reads (Sl 3 al L.length cl (NN.flatMap re)) 3 al L.length (NN.flatMap re) := Sl.reads 3 al L.length cl (NN.flatMap re) (by rw [flen re_cl, hNl])
                        have hset := re_set NN k c y hat
                        rw [hst] at hset
                        have hN2l : (L2.take (k + 1) ++ L.drop (k + 1)).length = L.length := by simp; omega
                        have hkN2 : k < (L2.take (k + 1) ++ L.drop (k + 1)).length := by omega
                        have hN2k : (L2.take (k + 1) ++ L.drop (k + 1))[k] = ((y.1.1, c), y.2) := by
                          have h1 : (L2.take (k + 1) ++ L.drop (k + 1))[k]? = some ((y.1.1, c), y.2) := by
                            rw [List.getElem?_append_left (by simp; omega), List.getElem?_take_of_lt (by omega)]; exact hyk
                          rw [List.getElem?_eq_getElem hkN2] at h1
                          exact Option.some.inj h1
                        have RN2 : Reads (Sl 3 al L.length cl ((L2.take (k + 1) ++ L.drop (k + 1)).flatMap re)) 3 al L.length ((L2.take (k + 1) ++ L.drop (k + 1)).flatMap re) := Sl.reads 3 al L.length cl _ (by rw [flen re_cl, hN2l])
                        have htk : L.take k ++ [y] = L.take (k + 1) := by rw [List.take_add_one, List.getElem?_eq_getElem hk1, hy]; rfl
                        rw [htk] at hns
                        (refine r_nil ?_; refine x_true rfl ?_; refine x_skip ?_; refine x_seq ?_; refine x_block ?_; refine x_seq (x_region ?_); refine r_op (o_move rfl rfl ?_); refine r_op (o_move rfl rfl ?_); refine r_op (o_move rfl rfl ?_); refine r_op (o_move rfl rfl ?_))
                        (refine r_op ?_)
                        refine o_indexR rfl rfl RN (j := k) rfl hk1 rfl (fun b3 off3 ha3 => ?_)
                        (refine r_op (o_fieldAddr rfl rfl ?_); refine r_op (o_fieldAddr rfl rfl ?_))
                        (refine r_op ?_)
                        refine o_loadR rfl RN ha3 (i := k * 3 + 0) (by omega) (re_cell hkN hNk 0 _ rfl) rfl ?_
                        (refine r_op ?_)
                        refine o_indexA rfl rfl (j := y.1.1) rfl hy4 rfl ?_
                        (refine r_op ?_)
                        refine o_loadI (i := y.1.1) rfl (by omega) hng rfl ?_
                        (refine r_op ?_)
                        refine o_indexR rfl rfl RN (j := k) rfl hk1 rfl (fun b4 off4 ha4 => ?_)
                        (refine r_op (o_fieldAddr rfl rfl ?_); refine r_op (o_fieldAddr rfl rfl ?_))
                        (refine r_do ?_)
                        refine o_storeS rfl rfl rfl ha4 (i := k * 3 + 1) (by omega) (by rw [flen re_cl]; omega) ?_
                        rw [hset]
                        (refine r_nil ?_; refine x_region ?_; refine r_op (o_move rfl rfl ?_); refine r_op (o_move rfl rfl ?_))
                        (refine r_op ?_)
                        refine o_indexR rfl rfl RN2 (j := k) rfl hk1 rfl (fun b5 off5 ha5 => ?_)
                        (refine r_op (o_fieldAddr rfl rfl ?_); refine r_op (o_fieldAddr rfl rfl ?_))
                        (refine r_op ?_)
                        refine o_loadR rfl RN2 ha5 (i := k * 3 + 0) (by omega) (re_cell hkN2 hN2k 0 _ rfl) rfl ?_
                        (refine r_op ?_)
                        refine o_indexA rfl rfl (j := y.1.1) rfl hy4 rfl ?_
                        (refine r_op ?_)
                        refine o_loadI (i := y.1.1) rfl (by omega) hng rfl ?_
                        (refine r_op ?_)
                        refine o_add rfl rfl (add_i64 (by omega)) rfl ?_
                        (refine r_op ?_)
                        refine o_indexA rfl rfl (j := y.1.1) rfl hy4 rfl ?_
                        (refine r_do ?_)
                        refine o_storeI (i := y.1.1) rfl rfl rfl (by omega) (by simp [nA, Nat.blt_eq]; exact hy4) ?_
                        rw [show (c : Int) + 1 = ((c + 1 : Nat) : Int) by omega, hns]
                        (refine r_nil ?_; refine x_inBlock ?_; refine x_region ?_; refine r_op (o_move rfl rfl ?_); refine r_op (o_add rfl rfl (add_i64 (by omega)) rfl ?_); refine r_op (o_assign rfl rfl ?_); refine r_nil ?_)
                        refine x_weak (back4 (k + 1) (by omega) (by omega)) (by (repeat' (first | exact trivial | refine ⟨rfl, ?_⟩))) Sub.h
                      · obtain rfl : k = L.length := by omega
                        have hfin : L2.take L.length ++ L.drop L.length = L2 := by rw [List.drop_length, List.append_nil, List.take_of_length_le (by omega)]
                        rw [hfin]
                        (refine r_nil ?_; refine x_false rfl ?_; refine x_exit rfl ?_; refine x_inBlock ?_)
                        rw [← hcl]
                        subst hL2
                        refine x_mem (Γ' := RackI r2 b2 (ssOf f (ess.map compact)) :: DiskI b2 (newD bs2) :: Sl 3 al (rlF 0 (ess.map compact)).length cl ((rlF 0 (ess.map compact)).flatMap re) :: A :: Row b0 0 p.cells :: Γ) Sub.h ?_
                        refine x_weak (back2 ⟨i, bs2, ess.map compact, al, cl, b2, r2⟩ ⟨hc2, hR2, by dsimp only; omega⟩) (by (repeat' (first | exact trivial | refine ⟨rfl, ?_⟩))) Sub.h
                    · have hn4 : ¬ (w = 4 ∨ w = 5 ∨ w = 6 ∨ w = 7) := by omega
                      have h1008 : x.s.length ≤ 1008 := by
                        apply Nat.le_of_not_lt
                        intro h; exact hlong ⟨hn4, h⟩
                      obtain ⟨k, hk4, hz, ht, -⟩ : ∃ k : Nat, k < 4 ∧ sizeOf x.s.length = ((k : Int), 0) ∧ x.s.length + 16 ≤ 128 * 2 ^ k ∧ (0 < k → 128 * 2 ^ (k - 1) < x.s.length + 16) := by
                        rcases sizeOf_cases x.s.length with ⟨_, e⟩ | h
                        · omega
                        · exact h
                      obtain ⟨es, hes⟩ : ∃ es, ess[k]? = some es := ⟨ess[k]'(by rw [hR.h4]; exact hk4), List.getElem?_eq_getElem _⟩
                      obtain ⟨hqL, hscan⟩ := rlF_scan hes
                      have hput := rlF_put ess 0 k es x.s hes
                      obtain ⟨a', ha'⟩ : ∃ a', (rlF 0 (ess.take k)).length = a' := ⟨_, rfl⟩
                      rw [ha', hL] at hqL hput
                      rw [ha', hL] at hscan
                      obtain ⟨q, hqq⟩ : ∃ q, a' + ff es = q := ⟨_, rfl⟩
                      rw [hqq] at hqL hput
                      have SP := rputC_spec r b hc hR hes hz ht (by omega)
                      obtain ⟨ess2, hess2⟩ : ∃ e, ess.set k (putAt es (ff es) x.s) = e := ⟨_, rfl⟩
                      rw [hess2] at SP hput
                      have hl2 : (rlF 0 ess2).length = L.length + 1 := by rw [hput]; simp; omega
                      have hf2 : (rlF 0 ess2).flatMap re = ([] ++ (L.take q).flatMap re ++ [Value.int IntKind.i64 (k : Int), Value.int IntKind.i64 (ff es : Int), tv x.s] ++ (L.drop q).flatMap re) := by
                        rw [hput]; simp [re]
                      (refine x_block ?_; refine x_seq ?_; refine x_seq (x_region ?_); refine r_op (o_eql_f rfl rfl (by omega) rfl ?_); refine r_op (o_assign rfl rfl ?_); refine r_nil ?_; refine x_false rfl ?_; refine x_region ?_; refine r_op (o_eql_f rfl rfl (by omega) rfl ?_); refine r_op (o_assign rfl rfl ?_); refine r_nil ?_; refine x_false rfl ?_; refine x_seq (x_region ?_); refine r_op (o_eql_f rfl rfl (by omega) rfl ?_); refine r_op (o_assign rfl rfl ?_); refine r_nil ?_; refine x_false rfl ?_; refine x_seq (x_region ?_); refine r_op (o_eql_f rfl rfl (by omega) rfl ?_); refine r_op (o_assign rfl rfl ?_); refine r_nil ?_; refine x_false rfl ?_; refine x_seq (x_region ?_); refine r_op (o_move rfl rfl ?_); refine r_op (o_fieldAddr rfl rfl ?_); refine r_op (o_load rfl rfl rfl rfl ?_))
                      (refine r_op ?_)
                      refine o_call rfl SP rfl ?_
                      rintro v B ⟨bs2, rfl, rfl, hc2, hR2⟩
                      (simp only [List.cons_append, List.nil_append])
                      (refine r_op (o_move rfl rfl ?_); refine r_op (o_extract rfl rfl rfl ?_); refine r_op (o_extract rfl rfl rfl ?_))
                      (refine r_op ?_)
                      refine o_alloc rfl (fun p17 => ?_)
                      (refine r_do ?_)
                      refine o_storeA (us := refC ((k : Int), (ff es : Int))) rfl rfl rfl rfl rfl (Nat.le_refl 2) ?_
                      refine r_mem (Ent.row_eq (us := refC ((k : Int), (ff es : Int))) rfl _) ?_
                      (refine r_op (o_assign rfl rfl ?_); refine r_nil ?_; refine x_seq (x_region ?_); refine r_op (o_fieldAddr rfl rfl ?_); refine r_op (o_load rfl rfl rfl rfl ?_); refine r_op (o_lenStr rfl rfl ?_))
                      rw [bstr_size]
                      (refine r_op ?_)
                      refine o_call rfl (rshelf_spec x.s.length Zx.1) rfl ?_
                      rintro v B ⟨rfl, rfl⟩
                      rw [if_neg (by omega), hz]
                      (simp only [List.nil_append])
                      (refine r_op (o_move rfl rfl ?_); refine r_op (o_extract rfl rfl rfl ?_); refine r_op (o_extract rfl rfl rfl ?_); refine r_op (o_assign rfl rfl ?_); refine r_op (o_assign rfl rfl ?_); refine r_nil ?_; refine x_seq ?_; refine x_seq (x_region ?_); refine r_op (o_move rfl rfl ?_); refine r_op (o_not rfl rfl ?_); refine r_nil ?_; refine x_false rfl ?_; refine x_skip ?_; refine x_seq (x_region ?_); refine r_op (o_assign rfl rfl ?_); refine r_op (o_assign rfl rfl ?_); refine r_nil ?_; refine x_seq ?_)
                      refine x_cutK (α := Unit) (fun _ => True) (fun _ => [(1, dp b0), (3, .int .i64 f), (4, dp b), (5, dp r), (7, .slice al L.length cl), (8, .int .i64 i), (9, dp px), (17, dp p17), (18, .int .i64 0), (19, .int .i64 k), (21, .int .i64 (ff es)), (22, .int .i64 q)])
                        (fun _ => Row p17 0 (refC ((k : Int), (ff es : Int))) :: RackI r b (ssOf f ess2) :: DiskI b (newD bs2) :: Row px 0 x.cells :: Sl 3 al L.length cl (L.flatMap re) :: A :: Row b0 0 p.cells :: Γ) ?_ ?_
                      · rintro - -
                        (refine x_seq ?_; refine x_seq (x_region ?_); refine r_op (o_move rfl rfl ?_))
                        (refine r_op ?_)
                        refine o_call rfl (num11_spec 0) rfl ?_
                        rintro v B ⟨rfl, rfl⟩
                        (simp only [List.nil_append])
                        (refine r_op (o_neq_f rfl rfl (by omega) rfl ?_); refine r_op (o_move rfl rfl ?_))
                        (refine r_guard rfl ?_)
                        refine o_loadA (us := refC ((k : Int), (ff es : Int))) rfl rfl rfl rfl rfl ?_
                        (refine r_guard rfl (o_move rfl rfl ?_); refine r_guard rfl (o_move rfl rfl ?_))
                        (refine r_guard rfl ?_)
                        refine o_build (cs := refC ((k : Int), (ff es : Int))) rfl (by rfl) rfl ?_
                        (refine r_guard rfl ?_)
                        refine o_neqRef (at' := ((k : Int), (ff es : Int))) rfl rfl rfl ?_
                        (refine r_op (o_pick_f rfl rfl rfl ?_); refine r_nil ?_; refine x_false rfl ?_; refine x_skip ?_)
                        have R1 := RL.firstN q hqL
                        rw [re_take] at R1
                        refine x_sl al fun _ hcap => ?_
                        have R2 := RL.sub cl q L.length hqL (Nat.le_refl _) hcap
                        rw [re_drop, List.take_of_length_le (by rw [flen re_cl]; simp)] at R2
                        refine x_scriptT 15 [0, 4, 9, 10, 14] (.look 1 (.look 2 (.look 3 (.look 5 (.look 6 (.look 7 (.look 8 (.look 11 (.look 12 (.look 13 (.alt (.act 0 (.alt (.act 4 (.act 9 (.act 10 (.act 14 (.look 15 .nil))))) (.act 9 (.act 4 (.act 10 (.act 14 (.look 15 .nil))))))) (.act 9 (.act 0 (.act 4 (.act 10 (.act 14 (.look 15 .nil))))))))))))))))) [Sl 3 al L.length cl (L.flatMap re), Row px 0 x.cells, Row p17 0 (refC ((k : Int), (ff es : Int)))] mixed (by kernel_rfl) permF ?_
                        refine t_v rfl (v_move rfl) ?_
                        refine t_v rfl (v_move rfl) ?_
                        refine t_v rfl (v_sliceHi rfl rfl (jh := q) rfl (by omega)) ?_
                        refine t_v rfl (v_loadA (us := refC ((k : Int), (ff es : Int))) rfl rfl rfl rfl) ?_
                        refine t_v rfl (v_fieldAddr rfl) ?_
                        refine t_v rfl (v_load rfl rfl rfl) ?_
                        refine t_v rfl (v_build (cs := [.int .i64 (k : Int), .int .i64 (ff es : Int), tv x.s]) rfl (by rfl)) ?_
                        refine t_v rfl (v_move rfl) ?_
                        refine t_v rfl (v_move rfl) ?_
                        refine t_v rfl (v_sliceLo rfl rfl (jl := q) rfl hqL) ?_
                        refine t_alt ?_ ?_
                        · refine t_x rfl (o_buildSlice rfl (by rfl) (by rfl) (by rfl) (by rfl) rfl (fun a11 => ?_))
                          refine ⟨permF, ?_⟩
                          refine t_alt ?_ ?_
                          · refine t_x rfl (o_append rfl rfl R1 (by rfl) (by rfl) (re_one _) (by omega) rfl (fun a12 c12 hc12 => ?_))
                            refine ⟨permF, ?_⟩
                            refine t_x rfl (o_buildSlice rfl (by rfl) (by rfl) (by rfl) (by rfl) rfl (fun a13 => ?_))
                            refine ⟨permF, ?_⟩
                            refine t_x rfl (o_appendT rfl rfl (by rfl) (by rfl) (by rfl) (by omega) rfl (fun a14 c14 hc14 => ?_))
                            refine ⟨permF, ?_⟩
                            refine t_x rfl (o_append rfl rfl R2 (by rfl) (by rfl) (re_one _) (by omega) rfl (fun a15 c15 hc15 => ?_))
                            refine ⟨permF, ?_⟩
                            refine t_v rfl (v_assign rfl) ?_
                            refine t_end rfl ?_
                            rw [show 0 + q + 1 + (L.length - q) = (rlF 0 ess2).length by rw [hl2]; omega, ← hf2]
                            (refine x_inBlock ?_)
                            refine x_mem (Γ' := RackI r b (ssOf f ess2) :: DiskI b (newD bs2) :: Sl 3 a15 (rlF 0 ess2).length c15 ((rlF 0 ess2).flatMap re) :: A :: Row b0 0 p.cells :: Γ) Sub.h ?_
                            refine x_weak (back2 ⟨i, bs2, ess2, a15, c15, b, r⟩ ⟨hc2, hR2, by dsimp only; rw [hl2]; omega⟩) (by (repeat' (first | exact trivial | refine ⟨rfl, ?_⟩))) Sub.h
                          · refine t_x rfl (o_buildSlice rfl (by rfl) (by rfl) (by rfl) (by rfl) rfl (fun a13 => ?_))
                            refine ⟨permF, ?_⟩
                            refine t_x rfl (o_append rfl rfl R1 (by rfl) (by rfl) (re_one _) (by omega) rfl (fun a12 c12 hc12 => ?_))
                            refine ⟨permF, ?_⟩
                            refine t_x rfl (o_appendT rfl rfl (by rfl) (by rfl) (by rfl) (by omega) rfl (fun a14 c14 hc14 => ?_))
                            refine ⟨permF, ?_⟩
                            refine t_x rfl (o_append rfl rfl R2 (by rfl) (by rfl) (re_one _) (by omega) rfl (fun a15 c15 hc15 => ?_))
                            refine ⟨permF, ?_⟩
                            refine t_v rfl (v_assign rfl) ?_
                            refine t_end rfl ?_
                            rw [show 0 + q + 1 + (L.length - q) = (rlF 0 ess2).length by rw [hl2]; omega, ← hf2]
                            (refine x_inBlock ?_)
                            refine x_mem (Γ' := RackI r b (ssOf f ess2) :: DiskI b (newD bs2) :: Sl 3 a15 (rlF 0 ess2).length c15 ((rlF 0 ess2).flatMap re) :: A :: Row b0 0 p.cells :: Γ) Sub.h ?_
                            refine x_weak (back2 ⟨i, bs2, ess2, a15, c15, b, r⟩ ⟨hc2, hR2, by dsimp only; rw [hl2]; omega⟩) (by (repeat' (first | exact trivial | refine ⟨rfl, ?_⟩))) Sub.h
                        · refine t_x rfl (o_buildSlice rfl (by rfl) (by rfl) (by rfl) (by rfl) rfl (fun a13 => ?_))
                          refine ⟨permF, ?_⟩
                          refine t_x rfl (o_buildSlice rfl (by rfl) (by rfl) (by rfl) (by rfl) rfl (fun a11 => ?_))
                          refine ⟨permF, ?_⟩
                          refine t_x rfl (o_append rfl rfl R1 (by rfl) (by rfl) (re_one _) (by omega) rfl (fun a12 c12 hc12 => ?_))
                          refine ⟨permF, ?_⟩
                          refine t_x rfl (o_appendT rfl rfl (by rfl) (by rfl) (by rfl) (by omega) rfl (fun a14 c14 hc14 => ?_))
                          refine ⟨permF, ?_⟩
                          refine t_x rfl (o_append rfl rfl R2 (by rfl) (by rfl) (re_one _) (by omega) rfl (fun a15 c15 hc15 => ?_))
                          refine ⟨permF, ?_⟩
                          refine t_v rfl (v_assign rfl) ?_
                          refine t_end rfl ?_
                          rw [show 0 + q + 1 + (L.length - q) = (rlF 0 ess2).length by rw [hl2]; omega, ← hf2]
                          (refine x_inBlock ?_)
                          refine x_mem (Γ' := RackI r b (ssOf f ess2) :: DiskI b (newD bs2) :: Sl 3 a15 (rlF 0 ess2).length c15 ((rlF 0 ess2).flatMap re) :: A :: Row b0 0 p.cells :: Γ) Sub.h ?_
                          refine x_weak (back2 ⟨i, bs2, ess2, a15, c15, b, r⟩ ⟨hc2, hR2, by dsimp only; rw [hl2]; omega⟩) (by (repeat' (first | exact trivial | refine ⟨rfl, ?_⟩))) Sub.h
                      · intro td2 tail2
                        (refine x_block ?_)
                        refine x_loop (α := Nat) (fun kk => kk ≤ q) (fun kk => [(1, dp b0), (3, .int .i64 f), (4, dp b), (5, dp r), (7, .slice al L.length cl), (8, .int .i64 i), (9, dp px), (17, dp p17), (18, .int .i64 0), (19, .int .i64 k), (21, .int .i64 ((kk - a' : Nat) : Int)), (22, .int .i64 kk)])
                          (fun _ => Row p17 0 (refC ((k : Int), (ff es : Int))) :: RackI r b (ssOf f ess2) :: DiskI b (newD bs2) :: Row px 0 x.cells :: Sl 3 al L.length cl (L.flatMap re) :: A :: Row b0 0 p.cells :: Γ) (fun kk => q - kk) 0 (Nat.zero_le _)
                          ⟨rfl, rfl, rfl, rfl, rfl, rfl, rfl, rfl, rfl, rfl, by simp [lk], rfl, trivial⟩ Sub.h ?_
                        intro kk hkk back4
                        (refine x_seq ?_; refine x_seq (x_region ?_); refine r_op (o_move rfl rfl ?_); refine r_op (o_move rfl rfl ?_); refine r_op (o_lenS rfl rfl ?_))
                        (refine r_op ?_)
                        refine o_lss rfl rfl rfl (fun hkl => ?_) (fun hkl => ?_)
                        · have hk1 : kk < L.length := by omega
                          obtain ⟨y, hy⟩ : ∃ y, L[kk] = y := ⟨_, rfl⟩
                          obtain ⟨s1, s2, s3⟩ := hscan kk y (by rw [List.getElem?_eq_getElem hk1, hy])
                          (refine r_op (o_move rfl rfl ?_); refine r_guard rfl (o_move rfl rfl ?_); refine r_guard rfl (o_move rfl rfl ?_))
                          (refine r_guard rfl ?_)
                          refine o_indexR rfl rfl RL (j := kk) rfl hk1 rfl (fun b3 off3 ha3 => ?_)
                          (refine r_guard rfl (o_fieldAddr rfl rfl ?_); refine r_guard rfl (o_fieldAddr rfl rfl ?_))
                          (refine r_guard rfl ?_)
                          refine o_loadR rfl RL ha3 (i := kk * 3 + 0) (by omega) (re_cell hk1 hy 0 _ rfl) rfl ?_
                          (refine r_guard rfl (o_move rfl rfl ?_))
                          (refine r_guard rfl ?_)
                          refine o_lss rfl rfl rfl (fun h9 => ?_) (fun h9 => ?_)
                          · (refine r_guard rfl (o_move rfl rfl ?_); refine r_skip rfl rfl rfl ?_; refine r_skip rfl rfl rfl ?_; refine r_skip rfl rfl rfl ?_; refine r_skip rfl rfl rfl ?_; refine r_skip rfl rfl rfl ?_; refine r_skip rfl rfl rfl ?_; refine r_skip rfl rfl rfl ?_; refine r_skip rfl rfl rfl ?_; refine r_skip rfl rfl rfl ?_; refine r_skip' rfl rfl ?_; refine r_skip' rfl rfl ?_; refine r_skip' rfl rfl ?_; refine r_skip' rfl rfl ?_; refine r_skip' rfl rfl ?_; refine r_skip' rfl rfl ?_; refine r_skip' rfl rfl ?_; refine r_skip' rfl rfl ?_; refine r_skip rfl rfl rfl ?_; refine r_guard rfl (o_pick_t rfl rfl rfl ?_); refine r_op (o_pick_t rfl rfl rfl ?_); refine r_nil ?_; refine x_true rfl ?_; refine x_skip ?_; refine x_block ?_; refine x_seq ?_; refine x_seq (x_region ?_); refine r_op (o_move rfl rfl ?_); refine r_op (o_move rfl rfl ?_))
                            (refine r_op ?_)
                            refine o_indexR rfl rfl RL (j := kk) rfl hk1 rfl (fun b3 off3 ha3 => ?_)
                            (refine r_op (o_fieldAddr rfl rfl ?_); refine r_op (o_fieldAddr rfl rfl ?_))
                            (refine r_op ?_)
                            refine o_loadR rfl RL ha3 (i := kk * 3 + 0) (by omega) (re_cell hk1 hy 0 _ rfl) rfl ?_
                            (refine r_op (o_move rfl rfl ?_); refine r_op (o_eql_f rfl rfl (by omega) rfl ?_); refine r_nil ?_; refine x_false rfl ?_; refine x_skip ?_; refine x_region ?_; refine r_op (o_move rfl rfl ?_); refine r_op (o_add rfl rfl (add_i64 (by omega)) rfl ?_); refine r_op (o_assign rfl rfl ?_); refine r_nil ?_; refine x_inBlock ?_)
                            rw [show kk - a' = kk + 1 - a' by omega]
                            refine x_weak (back4 (kk + 1) (by omega) (by omega)) (by (repeat' (first | exact trivial | refine ⟨rfl, ?_⟩))) Sub.h
                          · (refine r_guard rfl (o_move rfl rfl ?_); refine r_guard rfl (o_move rfl rfl ?_); refine r_guard rfl (o_move rfl rfl ?_))
                            (refine r_guard rfl ?_)
                            refine o_indexR rfl rfl RL (j := kk) rfl hk1 rfl (fun b3 off3 ha3 => ?_)
                            (refine r_guard rfl (o_fieldAddr rfl rfl ?_); refine r_guard rfl (o_fieldAddr rfl rfl ?_))
                            (refine r_guard rfl ?_)
                            refine o_loadR rfl RL ha3 (i := kk * 3 + 0) (by omega) (re_cell hk1 hy 0 _ rfl) rfl ?_
                            (refine r_guard rfl (o_move rfl rfl ?_))
                            (refine r_guard rfl ?_)
                            refine o_eql rfl rfl rfl (fun h10 => ?_) (fun h10 => ?_)
                            · (refine r_guard rfl (o_move rfl rfl ?_); refine r_guard rfl (o_move rfl rfl ?_); refine r_guard rfl (o_move rfl rfl ?_))
                              (refine r_guard rfl ?_)
                              refine o_indexR rfl rfl RL (j := kk) rfl hk1 rfl (fun b3 off3 ha3 => ?_)
                              (refine r_guard rfl (o_fieldAddr rfl rfl ?_); refine r_guard rfl (o_fieldAddr rfl rfl ?_))
                              (refine r_guard rfl ?_)
                              refine o_loadR rfl RL ha3 (i := kk * 3 + 1) (by omega) (re_cell hk1 hy 1 _ rfl) rfl ?_
                              (refine r_guard rfl (o_move rfl rfl ?_))
                              by_cases h11 : kk < q
                              · obtain ⟨-, g2⟩ := s2 (by omega) (by omega)
                                (refine r_guard rfl ?_)
                                refine o_eql_t rfl rfl (by omega) rfl ?_
                                (refine r_guard rfl (o_pick_t rfl rfl rfl ?_); refine r_guard rfl (o_pick_f rfl rfl rfl ?_); refine r_op (o_pick_t rfl rfl rfl ?_); refine r_nil ?_; refine x_true rfl ?_; refine x_skip ?_; refine x_block ?_; refine x_seq ?_; refine x_seq (x_region ?_); refine r_op (o_move rfl rfl ?_); refine r_op (o_move rfl rfl ?_))
                                (refine r_op ?_)
                                refine o_indexR rfl rfl RL (j := kk) rfl hk1 rfl (fun b3 off3 ha3 => ?_)
                                (refine r_op (o_fieldAddr rfl rfl ?_); refine r_op (o_fieldAddr rfl rfl ?_))
                                (refine r_op ?_)
                                refine o_loadR rfl RL ha3 (i := kk * 3 + 0) (by omega) (re_cell hk1 hy 0 _ rfl) rfl ?_
                                (refine r_op (o_move rfl rfl ?_); refine r_op (o_eql_t rfl rfl (by omega) rfl ?_); refine r_nil ?_; refine x_true rfl ?_; refine x_region ?_; refine r_op (o_move rfl rfl ?_); refine r_op (o_add rfl rfl (add_i64 (by omega)) rfl ?_); refine r_op (o_assign rfl rfl ?_); refine r_nil ?_; refine x_region ?_; refine r_op (o_move rfl rfl ?_); refine r_op (o_add rfl rfl (add_i64 (by omega)) rfl ?_); refine r_op (o_assign rfl rfl ?_); refine r_nil ?_; refine x_inBlock ?_)
                                rw [show ((kk - a' : Nat) : Int) + 1 = ((kk + 1 - a' : Nat) : Int) by omega]
                                refine x_weak (back4 (kk + 1) (by omega) (by omega)) (by (repeat' (first | exact trivial | refine ⟨rfl, ?_⟩))) Sub.h
                              · have hkq : kk = q := by omega
                                have g2 := (s3 (by omega)).2 (by omega)
                                (refine r_guard rfl ?_)
                                refine o_eql_f rfl rfl (by omega) rfl ?_
                                (refine r_guard rfl (o_pick_t rfl rfl rfl ?_); refine r_guard rfl (o_pick_f rfl rfl rfl ?_); refine r_op (o_pick_t rfl rfl rfl ?_); refine r_nil ?_; refine x_false rfl ?_; refine x_exit rfl ?_)
                                rw [show kk - a' = ff es by omega, hkq]
                                refine x_weak (tail2 () trivial) (by (repeat' (first | exact trivial | refine ⟨rfl, ?_⟩))) Sub.h
                            · have hkq : kk = q := by
                                apply Classical.byContradiction
                                intro hne
                                have := s2 (by omega) (by omega)
                                omega
                              (refine r_guard rfl (o_move rfl rfl ?_); refine r_skip rfl rfl rfl ?_; refine r_skip rfl rfl rfl ?_; refine r_skip rfl rfl rfl ?_; refine r_skip rfl rfl rfl ?_; refine r_skip rfl rfl rfl ?_; refine r_skip rfl rfl rfl ?_; refine r_skip rfl rfl rfl ?_; refine r_skip rfl rfl rfl ?_; refine r_guard rfl (o_pick_f rfl rfl rfl ?_); refine r_guard rfl (o_pick_f rfl rfl rfl ?_); refine r_op (o_pick_t rfl rfl rfl ?_); refine r_nil ?_; refine x_false rfl ?_; refine x_exit rfl ?_)
                              rw [show kk - a' = ff es by omega, hkq]
                              refine x_weak (tail2 () trivial) (by (repeat' (first | exact trivial | refine ⟨rfl, ?_⟩))) Sub.h
                        · obtain rfl : kk = q := by omega
                          (refine r_op (o_move rfl rfl ?_); refine r_skip rfl rfl rfl ?_; refine r_skip rfl rfl rfl ?_; refine r_skip rfl rfl rfl ?_; refine r_skip rfl rfl rfl ?_; refine r_skip rfl rfl rfl ?_; refine r_skip rfl rfl rfl ?_; refine r_skip rfl rfl rfl ?_; refine r_skip rfl rfl rfl ?_; refine r_skip rfl rfl rfl ?_; refine r_skip' rfl rfl ?_; refine r_skip' rfl rfl ?_; refine r_skip' rfl rfl ?_; refine r_skip' rfl rfl ?_; refine r_skip' rfl rfl ?_; refine r_skip' rfl rfl ?_; refine r_skip' rfl rfl ?_; refine r_skip' rfl rfl ?_; refine r_skip' rfl rfl ?_; refine r_skip' rfl rfl ?_; refine r_skip' rfl rfl ?_; refine r_skip' rfl rfl ?_; refine r_skip' rfl rfl ?_; refine r_skip' rfl rfl ?_; refine r_skip' rfl rfl ?_; refine r_skip' rfl rfl ?_; refine r_skip' rfl rfl ?_; refine r_skip' rfl rfl ?_; refine r_skip rfl rfl rfl ?_; refine r_op (o_pick_f rfl rfl rfl ?_); refine r_nil ?_; refine x_false rfl ?_; refine x_exit rfl ?_)
                          rw [show kk - a' = ff es by omega]
                          refine x_weak (tail2 () trivial) (by (repeat' (first | exact trivial | refine ⟨rfl, ?_⟩))) Sub.h
        · intro td tail
          (refine x_seq (x_region ?_); refine r_op (o_move rfl rfl ?_); refine r_op (o_lenS rfl rfl ?_))
          (refine r_op ?_)
          refine o_gtr rfl rfl rfl (fun h3 => ?_) (fun h3 => ?_)
          · (refine r_op (o_move rfl rfl ?_); refine r_guard rfl (o_fieldAddr rfl rfl ?_); refine r_guard rfl (o_load rfl rfl rfl rfl ?_))
            (refine r_guard rfl ?_)
            refine o_geq rfl rfl rfl (fun h4 => ?_) (fun h4 => ?_)
            · (refine r_op (o_pick_t rfl rfl rfl ?_); refine r_nil ?_; refine x_true rfl ?_; refine x_seq (x_region ?_); refine r_op (o_fieldAddr rfl rfl ?_); refine r_op (o_load rfl rfl rfl rfl ?_); refine r_op (o_move rfl rfl ?_); refine r_op (o_lenS rfl rfl ?_))
              (refine r_op ?_)
              refine o_call rfl (within_spec x.n L.length (by omega)) rfl ?_
              rintro v B ⟨⟨j, rfl, hj0, hj1, -⟩, rfl⟩
              obtain ⟨j, rfl⟩ : ∃ i : Nat, j = i := ⟨j.toNat, by omega⟩
              have hj : j < L.length := by omega
              obtain ⟨y, hy⟩ : ∃ y, L[j] = y := ⟨_, rfl⟩
              (simp only [List.nil_append])
              (refine r_op (o_assign rfl rfl ?_); refine r_nil ?_; refine x_region ?_; refine r_op (o_move rfl rfl ?_); refine r_op (o_move rfl rfl ?_))
              (refine r_op ?_)
              refine o_indexR rfl rfl RL (j := j) rfl hj rfl (fun b2 off2 ha2 => ?_)
              (refine r_op (o_fieldAddr rfl rfl ?_))
              (refine r_op ?_)
              refine o_loadAR rfl RL ha2 (i := j * 3) (us := refC (rat y)) (by omega) rfl (fun jj v hv => re_cell hj hy jj v (by
                have hjj : jj < 2 := (List.getElem?_eq_some_iff.1 hv).1
                rw [← hv]
                have : jj = 0 ∨ jj = 1 := by omega
                rcases this with rfl | rfl <;> rfl)) rfl ?_
              (refine r_do ?_)
              refine o_storeA (us := refC (rat y)) rfl rfl rfl rfl rfl (Nat.le_refl 2) ?_
              refine r_mem (Ent.row_eq (us := refC (rat y)) rfl _) ?_
              (refine r_nil ?_)
              refine x_weak (tail ((j : Int), rat y) (.inr ⟨j, hj, rfl, by rw [hy]⟩)) (by (repeat' (first | exact trivial | refine ⟨rfl, ?_⟩))) Sub.h
            · (refine r_op (o_pick_t rfl rfl rfl ?_); refine r_nil ?_; refine x_false rfl ?_; refine x_skip ?_)
              refine x_weak (tail (-1, (x.n, x.n)) (.inl ⟨rfl, rfl, .inr (by omega)⟩)) (by (repeat' (first | exact trivial | refine ⟨rfl, ?_⟩))) Sub.h
          · (refine r_op (o_move rfl rfl ?_); refine r_skip rfl rfl rfl ?_; refine r_skip rfl rfl rfl ?_; refine r_skip rfl rfl rfl ?_; refine r_op (o_pick_f rfl rfl rfl ?_); refine r_nil ?_; refine x_false rfl ?_; refine x_skip ?_)
            refine x_weak (tail (-1, (x.n, x.n)) (.inl ⟨rfl, rfl, .inl (by omega)⟩)) (by (repeat' (first | exact trivial | refine ⟨rfl, ?_⟩))) Sub.h
      · (refine r_op (o_pick_t rfl rfl rfl ?_); refine r_nil ?_; refine x_false rfl ?_; refine x_exit rfl ?_; refine x_seq (x_region ?_))
        (refine r_op ?_)
        refine o_call rfl wakes11_spec rfl ?_
        rintro v B ⟨rfl, rfl⟩
        (simp only [List.nil_append])
        (refine r_op (o_assign rfl rfl ?_); refine r_nil ?_)
        exact x_ret rfl [A] ⟨rfl, rfl⟩ Sub.h
    · (refine r_op (o_move rfl rfl ?_); refine r_skip rfl rfl rfl ?_; refine r_skip rfl rfl rfl ?_; refine r_op (o_pick_f rfl rfl rfl ?_); refine r_nil ?_; refine x_false rfl ?_; refine x_exit rfl ?_; refine x_seq (x_region ?_))
      (refine r_op ?_)
      refine o_call rfl wakes11_spec rfl ?_
      rintro v B ⟨rfl, rfl⟩
      (simp only [List.nil_append])
      (refine r_op (o_assign rfl rfl ?_); refine r_nil ?_)
      exact x_ret rfl [A] ⟨rfl, rfl⟩ Sub.h
  · (refine r_nil ?_; refine x_true rfl ?_; refine x_seq (x_region ?_); refine r_op (o_assign rfl rfl ?_); refine r_nil ?_)
    exact x_ret rfl [A] ⟨rfl, rfl⟩ Sub.h
end Go.Proofs.Ythneebbmodkjiaa
