/- Part of a proof over the seat Ythneebbmodkjiaa: module D12. Its claim's last module says what is proved. -/
import Derived.Test.YthneebbmodkjiaaD11
namespace Go.Proofs.Ythneebbmodkjiaa
open Go.Proofs

theorem o_storeV {P : Program} {X : Cx} {n : Nat} {ds : List Deferred} {ρ : Rho} {Γ : List HP} {Nx : Value → List HP → Prop} {ty : TypeId} {t s : Nat} {x y : Operand} {b o off : Nat} {vs us : List Value} {K : HP → List HP} [T : TyAgg P t s] (hx : ev ρ x = some (.pointer (some ⟨b, o, none⟩))) (hy : ev ρ y = some (.agg us.toArray)) (hs' : us.length = s) (h1 : us.all Value.oneCell' = true)
    [H : UpdRow Γ b off vs K] (ho : o = off) (hl : us.length = vs.length) (h : Nx undef (K (Row b off us))) : ExO P X n ds none (.store t x y) ty Nx ρ Γ := by
  subst ho
  refine o_storeA (off := o) (vs := vs) (K := K) hx hy hs' h1 (by simp [Nat.ble_eq]) (by omega) ?_
  have e : vs.take (o - o) ++ us ++ vs.drop (o - o + us.length) = us := by
    rw [List.drop_eq_nil_of_le (by omega)]; simp
  rw [e]; exact h
def may (l : List (List UInt8)) : Bool := (l.length == 0 || l.length == 8) && l.all fun b => decide (b.length ≤ 131072)
def newFl (b : List UInt8) : Fl := ⟨b, [], b⟩
/-- A new disk whose first files are laid. -/
def newP (l : List (List UInt8)) (j : Nat) : Dk := ⟨(l.take j).map newFl ++ List.replicate (8 - j) (newFl []), false, 0, 0⟩
def newD (l : List (List UInt8)) : Dk := newP l l.length
def zx : FX := ⟨(none, 0, []), none, 0, [], (none, 0, [])⟩
theorem Ent.fileZ (Γ : List HP) : Ent Γ (FileC zx :: Γ) := by
  refine ((Ent.inn_nil Γ).trans ((Ent.nilSl 3 _).trans ((Ent.nilSl 1 _).trans (Ent.nilSl 1 _)))).trans ?_
  exact Ent.sep_in [sp zx.safe, sp zx.now, Sl 3 zx.ca zx.chg.length zx.cc (zx.chg.flatMap CX.cells), Inn (zx.chg.map CX.s)] Γ
theorem Ent.filesZ (Γ : List HP) : ∀ (n k : Nat), Ent Γ (Sep (Arr (fun _ x => FileC x) k (List.replicate n zx)) :: Γ) := by
  intro n
  induction n with
  | zero => intro k; exact Ent.sep_in [] Γ
  | succ n ih =>
    intro k
    refine (ih (k + 1)).trans ((Ent.cons _ (Ent.fileZ Γ)).trans ?_)
    refine (Ent.sep_out _ _).trans ?_
    refine Ent.trans (Ent.perm ?_) (Ent.sep_in (FileC zx :: Arr (fun _ x => FileC x) (k + 1) (List.replicate n zx)) Γ)
    exact List.perm_middle
theorem Ent.newZ (b : Nat) (Γ : List HP) (vs : List Value) (hv : vs = (List.replicate 8 zx).flatMap FX.cells ++ [.bool false, .int .i64 0, .int .i64 0]) (l : List (List UInt8)) : Ent (Row b 0 vs :: Γ) (DiskI b (newP l 0) :: Γ) := by
  subst hv
  refine (Ent.row_split b 0 _ _ Γ).trans ?_
  have hl : ((List.replicate 8 zx).flatMap FX.cells).length = 24 := rfl
  rw [hl]
  refine (Ent.cons _ (Ent.cons _ (Ent.filesZ Γ 8 0))).trans ?_
  refine (Sub.h (Δ := Row b (0 * 3) ((List.replicate 8 zx).flatMap FX.cells) :: Sep (Arr (fun _ x => FileC x) 0 (List.replicate 8 zx)) :: Row b (0 + 24) [.bool false, .int .i64 0, .int .i64 0] :: Γ)).trans ?_
  refine (Ent.rows_in b (List.replicate 8 zx) 0 _).trans ((Ent.perm (.swap _ _ _)).trans ?_)
  exact Ent.disk' (d := newP l 0) (List.replicate 8 zx) ⟨rfl, rfl, Nat.zero_le _, Nat.zero_le _⟩ Γ

theorem new_spec {A : HP} {a : Option Addr} {cap : Nat} {q : List BS} (R : RdC A a q) (hc : q.length ≤ 2 ^ 63 - 1) :
    Spec Try.prog 29 [.slice a q.length cap] [A] (fun v B => (may (cont q) = true ∧ ∃ b, v = .tuple #[dp b, .int .i64 0] ∧ B = [A, DiskI b (newD (cont q))]) ∨ (may (cont q) = false ∧ v = .tuple #[.pointer none, .int .i64 1] ∧ B = [A])) := by
  refine Spec.of_ex Try.func29 rfl Try.ntmps29 rfl fun E cs Γ => ?_
  (simp only [argRho, List.cons_append, List.nil_append])
  have hml : may (cont q) = true ↔ (q.length = 0 ∨ q.length = 8) ∧ tooLong q = false := by
    unfold may tooLong cont
    simp
  (refine x_seq ?_); (refine x_region ?_)
  (refine r_op ?_); (refine o_assign rfl rfl ?_)
  (refine r_op ?_); (refine o_assign rfl rfl ?_)
  (refine r_nil ?_)
  refine x_cut (α := Unit) (fun _ => (q.length = 0 ∨ q.length = 8) ∧ tooLong q = false) (fun _ => [(0, .slice a q.length cap)]) (fun _ => A :: Γ) ?_ ?_
  · rintro - ⟨hq8, htl⟩
    have hmt := hml.2 ⟨hq8, htl⟩
    have hlen : ∀ x ∈ q, x.2.2.length ≤ 131072 := fun x hx => by
      unfold tooLong at htl
      have := List.any_eq_false.1 htl x hx
      simpa using this
    have hcl : (cont q).length = q.length := by simp [cont]
    (refine x_seq (x_region ?_))
    (refine r_op ?_)
    refine o_build rfl rfl rfl ?_
    (refine r_op ?_)
    refine o_boxA rfl rfl (fun b => ?_)
    refine r_mem (Ent.newZ b _ _ rfl (cont q)) ?_
    (refine r_op (o_assign rfl rfl ?_); refine r_nil ?_; refine x_seq ?_; refine x_seq (x_region ?_); refine r_op (o_move rfl rfl ?_); refine r_op (o_lenS rfl rfl ?_); refine r_op (o_move rfl rfl ?_); refine r_nil ?_; refine x_block ?_)
    refine x_loop (α := Nat) (fun j => j ≤ q.length) (fun j => [(4, dp b), (21, .slice a q.length cap), (22, .int .i64 q.length), (23, .int .i64 j)]) (fun j => DiskI b (newP (cont q) j) :: A :: Γ)
      (fun j => q.length - j) 0 (Nat.zero_le _) ⟨rfl, rfl, rfl, rfl, trivial⟩ (.refl _) ?_
    intro j hj back
    (refine x_seq (x_region ?_))
    (refine r_op ?_)
    refine o_lss rfl rfl rfl (fun h => ?_) (fun h => ?_)
    · have hj1 : j < q.length := by omega
      have hj8 : j < 8 := by omega
      (refine r_nil ?_; refine x_seq ?_; refine x_true rfl ?_; refine x_skip ?_; refine x_seq ?_; refine x_block ?_; refine x_seq (x_region ?_); refine r_op (o_move rfl rfl ?_))
      (refine r_op ?_)
      refine o_indexR rfl rfl R.1 (j := j) rfl hj1 rfl (fun b1 off ha => ?_)
      (refine r_op ?_)
      refine o_loadR rfl R.1 ha (i := j) (by omega) (mget sv hj1) rfl ?_
      (refine r_op (o_assign rfl rfl ?_); refine r_op (o_assign rfl rfl ?_); refine r_nil ?_)
      refine x_open (fun E w s => s.disk) fun fs => ?_
      refine x_mem (Ent.open fs hj8 _ (A :: Γ)) ?_
      have hclose := fun y Θ => Ent.close (b := b) (o := (newP (cont q) j).off) (u := (newP (cont q) j).uo) (v := (newP (cont q) j).ub) fs hj8 y (Nat.zero_le _) (Nat.zero_le _) Θ
      refine x_script 10 [(0,false),(1,false),(2,false),(4,false),(7,false),(8,false),(9,false),(3,true),(5,true),(6,false),(10,true)] [] mixed (by kernel_rfl) perm0 ?_
      (refine s_v rfl (v_move rfl) ?_)
      (refine s_v rfl (v_move rfl) ?_)
      (refine s_v rfl (v_move rfl) ?_)
      (refine s_v rfl (v_move rfl) ?_)
      (refine s_v rfl (v_nilCheck rfl) ?_)
      (refine s_v rfl (v_fieldAddr rfl) ?_)
      refine s_v rfl (v_indexA rfl rfl (j := j) rfl hj8) ?_
      have hx8 : q[j].2.2.length ≤ 2 ^ 45 := by have := hlen _ (List.getElem_mem hj1); omega
      refine s_x rfl (o_call rfl (clone_spec (R.get hj1) hx8) rfl ?_)
      rintro v B ⟨a1, c1, rfl, rfl⟩
      refine ⟨perm0, ?_⟩
      (simp only [List.cons_append, List.nil_append])
      refine s_x rfl (o_call rfl (clone_spec (R.get hj1) hx8) rfl ?_)
      rintro v B ⟨a2, c2, rfl, rfl⟩
      refine ⟨perm0, ?_⟩
      (simp only [List.cons_append, List.nil_append])
      refine s_v rfl (v_build rfl rfl) ?_
      refine s_xt rfl rfl ?_
      refine o_storeV rfl rfl (by rfl) (by rfl) (by omega) (by rfl) ?_
      refine s_end rfl ?_
      (refine x_inBlock ?_; refine x_region ?_)
      (refine r_op ?_)
      refine o_add rfl rfl (add_i64 (by omega)) rfl ?_
      (refine r_op (o_move rfl rfl ?_); refine r_nil ?_)
      refine x_mem (Γ' := DiskI b (newP (cont q) (j + 1)) :: A :: Γ) ?_ ?_
      · refine ((Ent.nilSl 3 _).trans (Ent.inn_nil _)).trans ?_
        refine Ent.trans ?_ ((hclose ⟨(a1, c1, q[j].2.2), none, 0, [], (a2, c2, q[j].2.2)⟩ (A :: Γ)).trans ?_)
        · exact (Sub.h (Δ := Row b (j * 3) [.slice a1 q[j].2.2.length c1, .slice none 0 0, .slice a2 q[j].2.2.length c2] :: Sl 1 a1 q[j].2.2.length c1 (q[j].2.2.map bv) :: Sl 1 a2 q[j].2.2.length c2 (q[j].2.2.map bv) :: Sl 3 none 0 0 [] :: Inn [] :: Hole (FileI b) fs.1 j :: Hid (Flags b (newP (cont q) j).off (newP (cont q) j).uo (newP (cont q) j).ub) :: A :: Γ))
        · have e : (⟨(newP (cont q) j).fs.set j (newFl q[j].2.2), false, 0, 0⟩ : Dk) = newP (cont q) (j + 1) := by
            unfold newP
            congr 1
            have hj2 : j < (cont q).length := by rw [hcl]; exact hj1
            have hg : (cont q)[j] = q[j].2.2 := by simp [cont]
            have h9 : ((cont q).take j).length = j := by simp; omega
            rw [List.take_succ_eq_append_getElem hj2, hg, show 8 - j = 8 - (j + 1) + 1 by omega, List.replicate_succ]
            rw [List.set_append_right _ _ (by simp; omega), List.length_map, h9, Nat.sub_self]
            simp
          rw [← e]
          exact .refl _
      refine x_weak (back (j + 1) (by omega) (by omega)) (by (repeat' (first | exact trivial | refine ⟨rfl, ?_⟩))) Sub.h
    · (refine r_nil ?_; refine x_seq ?_; refine x_false rfl ?_; refine x_exit rfl ?_; refine x_seq (x_region ?_); refine r_op (o_move rfl rfl ?_); refine r_op (o_assign rfl rfl ?_); refine r_op (o_assign rfl rfl ?_); refine r_nil ?_)
      have e : j = q.length := by omega
      subst e
      refine x_ret rfl [A, DiskI b (newD (cont q))] (.inl ⟨hmt, b, rfl, rfl⟩) ?_
      unfold newD
      rw [hcl]
      exact Sub.h
  · intro td back
    by_cases h1 : 0 < q.length ∧ q.length ≠ 8
    · obtain ⟨h1, h2⟩ := h1
      (refine x_seq (x_region ?_); refine r_op (o_move rfl rfl ?_); refine r_op (o_lenS rfl rfl ?_); refine r_op (o_gtr_t rfl rfl (by omega) rfl ?_); refine r_op (o_move rfl rfl ?_); refine r_guard rfl (o_move rfl rfl ?_); refine r_guard rfl (o_lenS rfl rfl ?_); refine r_guard rfl (o_neq_t rfl rfl (by omega) rfl ?_); refine r_op (o_pick_t rfl rfl rfl ?_); refine r_op (o_move rfl rfl ?_); refine r_skip rfl rfl rfl ?_; refine r_skip rfl rfl rfl ?_; refine r_op (o_pick_t rfl rfl rfl ?_); refine r_nil ?_; refine x_true rfl ?_; refine x_seq (x_region ?_); refine r_op (o_assign rfl rfl ?_); refine r_op (o_assign rfl rfl ?_); refine r_nil ?_)
      refine x_ret rfl [A] (.inr ⟨?_, rfl, rfl⟩) Sub.h
      cases hm : may (cont q) with
      | false => rfl
      | true => have := hml.1 hm; omega
    · have key : q.length = 0 ∨ q.length = 8 := by omega
      rcases key with h0 | h0
      all_goals
        (repeat (first | (first | refine x_seq ?_ | refine x_region ?_ | refine r_nil ?_ | refine x_block ?_ | refine x_skip ?_ | refine x_inBlock ?_ | refine x_true rfl ?_ | refine x_false rfl ?_ | refine x_exit rfl ?_ | refine x_scope ?_ | refine x_inScope ?_ | refine x_label ?_ | refine r_skip rfl rfl rfl ?_ | refine r_skip' rfl rfl ?_) | ((first | refine r_op ?_ | refine r_do ?_ | refine r_guard rfl ?_); first | (first | refine o_move rfl rfl ?_ | refine o_assign rfl rfl ?_ | refine o_load rfl rfl rfl rfl ?_ | refine o_fieldAddr rfl rfl ?_ | refine o_nilCheck rfl rfl ?_ | refine o_lenS rfl rfl ?_ | refine o_lenStr rfl rfl ?_ | refine o_pick_t rfl rfl rfl ?_ | refine o_pick_f rfl rfl rfl ?_ | refine o_not rfl rfl ?_ | refine o_extract rfl rfl rfl ?_ | refine o_field rfl rfl rfl ?_) | (first | refine o_lss_t rfl rfl (by omega) rfl ?_ | refine o_lss_f rfl rfl (by omega) rfl ?_ | refine o_leq_t rfl rfl (by omega) rfl ?_ | refine o_leq_f rfl rfl (by omega) rfl ?_ | refine o_gtr_t rfl rfl (by omega) rfl ?_ | refine o_gtr_f rfl rfl (by omega) rfl ?_ | refine o_geq_t rfl rfl (by omega) rfl ?_ | refine o_geq_f rfl rfl (by omega) rfl ?_ | refine o_eql_t rfl rfl (by omega) rfl ?_ | refine o_eql_f rfl rfl (by omega) rfl ?_ | refine o_neq_t rfl rfl (by omega) rfl ?_ | refine o_neq_f rfl rfl (by omega) rfl ?_) | (first | refine o_add rfl rfl (add_i64 (by omega)) rfl ?_ | refine o_sub rfl rfl (sub_i64 (by omega)) rfl ?_ | refine o_max rfl rfl rfl ?_ | refine o_min rfl rfl rfl ?_) | (refine o_store rfl rfl rfl rfl (by simp) ?_; try dsimp only [Nat.reduceSub, Nat.reduceAdd, List.set]) | (first | refine o_loadI (i := 0) rfl (by omega) rfl rfl ?_ | refine o_loadI (i := 1) rfl (by omega) rfl rfl ?_ | refine o_loadI (i := 2) rfl (by omega) rfl rfl ?_) | ((first | refine o_storeI (i := 0) rfl rfl rfl (by omega) rfl ?_ | refine o_storeI (i := 1) rfl rfl rfl (by omega) rfl ?_ | refine o_storeI (i := 2) rfl rfl rfl (by omega) rfl ?_); try dsimp only [List.set]))))
        (refine r_guard rfl ?_)
        refine o_call rfl (contains_spec R hc) rfl ?_
        rintro v B ⟨rfl, rfl⟩
        (simp only [List.cons_append, List.nil_append])
        cases ht : tooLong q
        · (refine r_op (o_pick_f rfl rfl rfl ?_); refine r_nil ?_; refine x_false rfl ?_; refine x_skip ?_)
          refine x_weak (back () ⟨by omega, ht⟩) (by (repeat' (first | exact trivial | refine ⟨rfl, ?_⟩))) Sub.h
        · (refine r_op (o_pick_f rfl rfl rfl ?_); refine r_nil ?_; refine x_true rfl ?_; refine x_seq (x_region ?_); refine r_op (o_assign rfl rfl ?_); refine r_op (o_assign rfl rfl ?_); refine r_nil ?_)
          refine x_ret rfl [A] (.inr ⟨?_, rfl, rfl⟩) Sub.h
          cases hm : may (cont q) with
          | false => rfl
          | true => have := (hml.1 hm).2; rw [ht] at this; cases this
end Go.Proofs.Ythneebbmodkjiaa
