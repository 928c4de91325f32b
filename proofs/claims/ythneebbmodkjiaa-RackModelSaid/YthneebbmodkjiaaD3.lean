/- Part of a proof over the seat Ythneebbmodkjiaa: module D1. Its claim's last module says what is proved. -/
import Derived.Test.YthneebbmodkjiaaTy
namespace Go.Proofs.Ythneebbmodkjiaa
open Go.Proofs

theorem num_spec (a b : Int) : Spec Try.prog 103 [.int .i64 a, .int .i64 b] [] (fun v B => v = .bool (decide (0 ≤ a ∧ a ≤ b)) ∧ B = []) := by
  refine Spec.of_ex Try.func103 rfl Try.ntmps103 rfl fun E cs Γ => ?_
  (simp only [argRho, Nat.reduceAdd, List.nil_append])
  (refine x_seq (x_region ?_); refine r_op (o_assign rfl rfl ?_); refine r_nil ?_; refine x_seq (x_region ?_); refine r_op (o_move rfl rfl ?_))
  (refine r_op ?_)
  refine o_geq rfl rfl rfl (fun h => ?_) (fun h => ?_)
  · (refine r_op (o_move rfl rfl ?_); refine r_guard rfl (o_move rfl rfl ?_); refine r_guard rfl (o_move rfl rfl ?_))
    (refine r_guard rfl ?_)
    refine o_leq rfl rfl rfl (fun h' => ?_) (fun h' => ?_)
    · (refine r_op (o_pick_t rfl rfl rfl ?_); refine r_op (o_assign rfl rfl ?_); refine r_nil ?_)
      exact x_ret rfl [] ⟨by simp [retV, h, h'], rfl⟩ (.refl _)
    · (refine r_op (o_pick_t rfl rfl rfl ?_); refine r_op (o_assign rfl rfl ?_); refine r_nil ?_)
      exact x_ret rfl [] ⟨by simp [retV]; omega, rfl⟩ (.refl _)
  · (refine r_op (o_move rfl rfl ?_); refine r_skip rfl rfl rfl ?_; refine r_skip rfl rfl rfl ?_; refine r_skip rfl rfl rfl ?_; refine r_op (o_pick_f rfl rfl rfl ?_); refine r_op (o_assign rfl rfl ?_); refine r_nil ?_)
    exact x_ret rfl [] ⟨by simp [retV]; omega, rfl⟩ (.refl _)

theorem num9_spec (a : Int) : Spec Try.prog 30 [.int .i64 a] [] (fun v B => v = .int .i64 a ∧ B = []) := by
  refine Spec.of_ex Try.func30 rfl Try.ntmps30 rfl fun E cs Γ => ?_
  (simp only [argRho, List.nil_append])
  (refine x_seq (x_region ?_); refine r_op (o_assign rfl rfl ?_); refine r_nil ?_; refine x_seq (x_region ?_); refine r_op (o_move rfl rfl ?_); refine r_op (o_assign rfl rfl ?_); refine r_nil ?_)
  exact x_ret rfl [] ⟨rfl, rfl⟩ (.refl _)

/-- slices.Clone of bytes. -/
theorem clone_spec {A : HP} {a : Option Addr} {len cap : Nat} {bs : List UInt8} (R : Reads A 1 a len (bs.map bv)) (hlen : len ≤ 2 ^ 45) :
    Spec Try.prog 95 [.slice a len cap] [A] (fun v B => ∃ a' cap', v = .slice a' len cap' ∧ B = [A, Sl 1 a' len cap' (bs.map bv)]) := by
  refine Spec.of_ex Try.func95 rfl Try.ntmps95 rfl fun E cs Γ => ?_
  (simp only [argRho, List.cons_append, List.nil_append])
  (refine x_seq (x_region ?_); refine r_op (o_assign rfl rfl ?_); refine r_nil ?_; refine x_seq ?_; refine x_seq (x_region ?_); refine r_op (o_move rfl rfl ?_))
  (refine r_op ?_)
  have hl : bs.length = len := by simpa using R.1
  refine o_v (v_slnil (.inl rfl) rfl rfl) rfl ?_
  cases a with
  | none =>
    (refine r_nil ?_; refine x_true rfl ?_; refine x_seq (x_region ?_); refine r_op (o_assign rfl rfl ?_); refine r_nil ?_)
    refine x_fact (fun E w s => ?_) (fun (h0 : len = 0) => ?_)
    · rcases s.reads R with h | ⟨_, _, h, _⟩
      · exact h
      · cases h
    subst h0
    obtain rfl : bs = [] := List.length_eq_zero_iff.1 hl
    exact x_ret rfl [A, Sl 1 none 0 0 []] ⟨none, 0, rfl, rfl⟩ ((Ent.nilSl 1 _).trans Sub.h)
  | some q =>
    (refine r_nil ?_; refine x_false rfl ?_; refine x_skip ?_; refine x_seq (x_region ?_))
    (refine r_op ?_)
    refine o_buildSlice rfl (by rfl) (by rfl) (by rfl) (by rfl) rfl (fun a2 => ?_)
    (refine r_op (o_move rfl rfl ?_))
    (refine r_op ?_)
    refine o_append rfl rfl R (by rfl) (by rfl) (bv_one bs) (by omega) rfl (fun a3 c3 hc => ?_)
    (refine r_op (o_assign rfl rfl ?_); refine r_nil ?_)
    rw [Nat.zero_add] at hc ⊢
    rw [List.nil_append]
    exact x_ret rfl [A, Sl 1 a3 len c3 (bs.map bv)] ⟨a3, c3, by simp [retV], rfl⟩ Sub.h

theorem copyBytes_spec {A : HP} {a : Option Addr} {len cap : Nat} {bs : List UInt8} (R : Reads A 1 a len (bs.map bv)) (hlen : len ≤ 2 ^ 40) :
    Spec Try.prog 57 [.slice a len cap] [A] (fun v B => ∃ a' cap', v = .slice a' len cap' ∧ B = [A, Sl 1 a' len cap' (bs.map bv)]) := by
  have hl : bs.length = len := by simpa using R.1
  refine Spec.of_ex Try.func57 rfl Try.ntmps57 rfl fun E cs Γ => ?_
  (simp only [argRho, List.cons_append, List.nil_append])
  (refine x_seq (x_region ?_); refine r_op (o_assign rfl rfl ?_); refine r_nil ?_; refine x_seq (x_region ?_); refine r_op (o_assign rfl rfl ?_); refine r_nil ?_; refine x_seq ?_; refine x_seq (x_region ?_); refine r_op (o_assign rfl rfl ?_); refine r_nil ?_; refine x_block ?_)
  refine x_loop (α := Nat × Option Addr × Nat) (fun p => p.1 ≤ len) (fun p => [(0, .slice a len cap), (3, .slice p.2.1 p.1 p.2.2), (4, .int .i64 p.1)]) (fun p => Sl 1 p.2.1 p.1 p.2.2 ((bs.take p.1).map bv) :: A :: Γ)
    (fun p => len - p.1) (0, none, 0) (Nat.zero_le _) ⟨rfl, rfl, rfl, trivial⟩ (Ent.nilSl _ _) ?_
  rintro ⟨i, a', c'⟩ hi back
  dsimp only at hi back ⊢
  (refine x_seq ?_; refine x_seq (x_region ?_); refine r_op (o_move rfl rfl ?_); refine r_op (o_move rfl rfl ?_); refine r_op (o_lenS rfl rfl ?_))
  (refine r_op ?_)
  refine o_lss rfl rfl rfl (fun h => ?_) (fun h => ?_)
  · (refine r_nil ?_; refine x_true rfl ?_; refine x_skip ?_; refine x_seq ?_; refine x_block ?_; refine x_region ?_; refine r_op (o_move rfl rfl ?_); refine r_op (o_move rfl rfl ?_); refine r_op (o_move rfl rfl ?_))
    (refine r_op ?_)
    refine o_indexR rfl rfl R (j := i) rfl (by omega) rfl (fun b off ha => ?_)
    (refine r_op ?_)
    refine o_loadR rfl R ha (i := i) (by omega) (bget (by omega)) rfl ?_
    (refine r_op ?_)
    refine o_buildSlice rfl (by rfl) (by rfl) (by rfl) (by rfl) rfl (fun a2 => ?_)
    (refine r_op ?_)
    refine o_appendT rfl rfl (by rfl) (by rfl) (by rfl) (by omega) rfl (fun a3 c3 hc => ?_)
    (refine r_op (o_assign rfl rfl ?_); refine r_nil ?_; refine x_inBlock ?_; refine x_region ?_; refine r_op (o_move rfl rfl ?_))
    (refine r_op ?_)
    refine o_add rfl rfl (add_i64 (by omega)) rfl ?_
    (refine r_op (o_assign rfl rfl ?_); refine r_nil ?_)
    rw [take_snoc bv bs i (by omega)]
    refine x_weak (back (i + 1, a3, c3) (by dsimp only; omega) (by dsimp only; omega)) (by (repeat' (first | exact trivial | refine ⟨rfl, ?_⟩))) Sub.h
  · (refine r_nil ?_; refine x_false rfl ?_; refine x_exit rfl ?_; refine x_seq (x_region ?_); refine r_op (o_move rfl rfl ?_); refine r_op (o_assign rfl rfl ?_); refine r_nil ?_)
    have e : i = len := by omega
    subst e
    rw [take_all bs _ (by omega)]
    exact x_ret rfl [A, Sl 1 a' _ c' (bs.map bv)] ⟨a', c', rfl, rfl⟩ Sub.h

theorem bv_inj {x y : UInt8} (h : (x.toNat : Int) = y.toNat) : x = y := UInt8.toNat_inj.1 (by omega)

theorem eqBytes_spec {A B : HP} {a b : Option Addr} {len cap len' cap' : Nat} {bs cs : List UInt8} (R : Reads A 1 a len (bs.map bv)) (R' : Reads B 1 b len' (cs.map bv)) (hlen : len ≤ 2 ^ 60) (hlen' : len' ≤ 2 ^ 60) :
    Spec Try.prog 47 [.slice a len cap, .slice b len' cap'] [A, B] (fun v B' => v = .bool (decide (bs = cs)) ∧ B' = [A, B]) := by
  have hl : bs.length = len := by simpa using R.1
  have hl' : cs.length = len' := by simpa using R'.1
  refine Spec.of_ex Try.func47 rfl Try.ntmps47 rfl fun E fs Γ => ?_
  (simp only [argRho, Nat.reduceAdd, List.cons_append, List.nil_append])
  (refine x_seq (x_region ?_); refine r_op (o_assign rfl rfl ?_); refine r_nil ?_; refine x_seq ?_; refine x_seq (x_region ?_); refine r_op (o_move rfl rfl ?_); refine r_op (o_lenS rfl rfl ?_); refine r_op (o_move rfl rfl ?_); refine r_op (o_lenS rfl rfl ?_))
  (refine r_op ?_)
  refine o_neq rfl rfl rfl (fun h => ?_) (fun h => ?_)
  · (refine r_nil ?_; refine x_true rfl ?_; refine x_seq (x_region ?_); refine r_op (o_assign rfl rfl ?_); refine r_nil ?_)
    exact x_ret rfl [A, B] ⟨by simp [retV]; rintro rfl; omega, rfl⟩ Sub.h
  · (refine r_nil ?_; refine x_false rfl ?_; refine x_skip ?_; refine x_seq ?_; refine x_seq (x_region ?_); refine r_op (o_assign rfl rfl ?_); refine r_nil ?_; refine x_block ?_)
    have e : len = len' := by omega
    subst e
    refine x_loop (α := Nat) (fun i => i ≤ len ∧ bs.take i = cs.take i) (fun i => [(0, .slice a len cap), (1, .slice b len cap'), (5, .int .i64 i)]) (fun i => A :: B :: Γ)
      (fun i => len - i) 0 ⟨Nat.zero_le _, rfl⟩ ⟨rfl, rfl, rfl, trivial⟩ (.refl _) ?_
    rintro i ⟨hi, hp⟩ back
    (refine x_seq ?_; refine x_seq (x_region ?_); refine r_op (o_move rfl rfl ?_); refine r_op (o_move rfl rfl ?_); refine r_op (o_lenS rfl rfl ?_))
    (refine r_op ?_)
    refine o_lss rfl rfl rfl (fun h => ?_) (fun h => ?_)
    · (refine r_nil ?_; refine x_true rfl ?_; refine x_skip ?_; refine x_seq ?_; refine x_block ?_; refine x_seq ?_)
      refine x_base R (by omega) fun b1 o1 ha => ?_
      refine x_base R' (by omega) fun b2 o2 hb => ?_
      refine x_script 9 [(0,false),(1,false),(2,false),(3,false),(4,false),(5,false),(6,false),(7,false),(8,false)] [A, B] mixed (by kernel_rfl) permF ?_
      (refine s_v rfl (v_move rfl) ?_)
      (refine s_v rfl (v_move rfl) ?_)
      refine s_v rfl (v_indexH rfl rfl ha (j := i) rfl (by omega)) ?_
      refine s_v rfl (v_loadR rfl R ha (i := i) (by omega) (bget (by omega))) ?_
      (refine s_v rfl (v_move rfl) ?_)
      (refine s_v rfl (v_move rfl) ?_)
      refine s_v rfl (v_indexH rfl rfl hb (j := i) rfl (by omega)) ?_
      refine s_v rfl (v_loadR rfl R' hb (i := i) (by omega) (bget (by omega))) ?_
      by_cases hx : bs[i]'(by omega) = cs[i]'(by omega)
      · refine s_v rfl (v_neq_f rfl rfl (by rw [hx])) ?_
        refine s_end rfl ?_
        (refine x_false rfl ?_; refine x_skip ?_; refine x_inBlock ?_; refine x_region ?_; refine r_op (o_move rfl rfl ?_))
        (refine r_op ?_)
        refine o_add rfl rfl (add_i64 (by omega)) rfl ?_
        (refine r_op (o_assign rfl rfl ?_); refine r_nil ?_)
        refine x_weak (back (i + 1) ⟨by omega, by rw [List.take_succ_eq_append_getElem (by omega), List.take_succ_eq_append_getElem (by omega), hp, hx]⟩ (by omega)) (by (repeat' (first | exact trivial | refine ⟨rfl, ?_⟩))) Sub.h
      · refine s_v rfl (v_neq_t rfl rfl (fun h => hx (bv_inj h))) ?_
        refine s_end rfl ?_
        (refine x_true rfl ?_; refine x_seq (x_region ?_); refine r_op (o_assign rfl rfl ?_); refine r_nil ?_)
        exact x_ret rfl [A, B] ⟨by simp [retV]; rintro rfl; exact hx rfl, rfl⟩ Sub.h
    · (refine r_nil ?_; refine x_false rfl ?_; refine x_exit rfl ?_; refine x_seq (x_region ?_); refine r_op (o_assign rfl rfl ?_); refine r_nil ?_)
      have e : i = len := by omega
      subst e
      rw [take_all bs _ (by omega), take_all cs _ (by omega)] at hp
      exact x_ret rfl [A, B] ⟨by simp [retV, hp], rfl⟩ Sub.h
end Go.Proofs.Ythneebbmodkjiaa

namespace Go.Proofs.Ythneebbmodkjiaa
open Go.Proofs

/-! ### Rows of byte slices -/
/-- A byte slice: base, room, bytes. -/
abbrev BS := Option Addr × Nat × List UInt8
abbrev sv (x : BS) : Value := .slice x.1 x.2.2.length x.2.1
abbrev sp (x : BS) : HP := Sl 1 x.1 x.2.2.length x.2.1 (x.2.2.map bv)
def cont (q : List BS) : List (List UInt8) := q.map (·.2.2)
def Inn (q : List BS) : HP := Sep (q.map sp)
/-- A slice of byte slices, all of it owned. -/
def CellsX (a : Option Addr) (cap : Nat) (q : List BS) : HP := Sep [Sl 1 a q.length cap (q.map sv), Inn q]
def RdC (A : HP) (a : Option Addr) (q : List BS) : Prop := Reads A 1 a q.length (q.map sv) ∧ ∀ x ∈ q, Reads A 1 x.1 x.2.2.length (x.2.2.map bv)
theorem sv_one (q : List BS) : (q.map sv).all Value.oneCell' = true := by simp [Value.oneCell']

theorem Ent.inn_pop (x : BS) (q : List BS) (Γ : List HP) : Ent (Inn (x :: q) :: Γ) (sp x :: Inn q :: Γ) := by
  refine (Ent.sep_out _ _).trans ?_
  exact Ent.cons _ (Ent.sep_in _ _)
theorem Ent.inn_push (x : BS) (q : List BS) (Γ : List HP) : Ent (sp x :: Inn q :: Γ) (Inn (x :: q) :: Γ) := by
  refine (Ent.cons _ (Ent.sep_out _ _)).trans ?_
  exact Ent.sep_in ((x :: q).map sp) Γ
theorem Ent.inn_snoc (x : BS) (q : List BS) (Γ : List HP) : Ent (sp x :: Inn q :: Γ) (Inn (q ++ [x]) :: Γ) := by
  refine (Ent.cons _ (Ent.sep_out _ _)).trans ?_
  refine Ent.trans (Ent.perm ?_) (Ent.sep_in ((q ++ [x]).map sp) Γ)
  rw [List.map_append]
  simp only [List.map_cons, List.map_nil, List.append_assoc, List.cons_append, List.nil_append]
  exact List.perm_middle.symm
theorem Ent.inn_nil (Γ : List HP) : Ent Γ (Inn [] :: Γ) := Ent.marks0 Γ
theorem Ent.cells_out (a : Option Addr) (cap : Nat) (q : List BS) (Γ : List HP) : Ent (CellsX a cap q :: Γ) (Sl 1 a q.length cap (q.map sv) :: Inn q :: Γ) := Ent.sep_out _ _
theorem Ent.cells_in (a : Option Addr) (cap : Nat) (q : List BS) (Γ : List HP) : Ent (Sl 1 a q.length cap (q.map sv) :: Inn q :: Γ) (CellsX a cap q :: Γ) := Ent.sep_in [_, _] Γ

theorem Reads.of_ent {A B : HP} {s len : Nat} {a : Option Addr} {xs : List Value} (R : Reads B s a len xs) (Δ : List HP) (he : Ent [A] (B :: Δ)) : Reads A s a len xs := by
  refine ⟨R.1, fun h w hA W => ?_⟩
  obtain ⟨g, ⟨b, r, hB, hr, d, rfl⟩, hg⟩ := he h ⟨h, PH.emp, hA, rfl, PH.disj_emp h, (PH.join_emp h).symm⟩
  refine R.2 b w hB fun x y e hx => W x y e (hg x y e ?_)
  simp [PH.join, hx]
theorem Inn.reads : ∀ {q : List BS} {x : BS}, x ∈ q → Reads (Inn q) 1 x.1 x.2.2.length (x.2.2.map bv) := by
  intro q
  induction q with
  | nil => intro x hx; cases hx
  | cons y q ih =>
    intro x hx
    rw [List.mem_cons] at hx
    rcases hx with rfl | hx
    · exact (Sl.reads 1 _ _ _ _ (by simp)).of_ent [Inn q] (Ent.inn_pop x q [])
    · exact (ih hx).of_ent [sp y] ((Ent.inn_pop y q []).trans (Ent.perm (.swap _ _ _)))
theorem CellsX.rd (a : Option Addr) (cap : Nat) (q : List BS) : RdC (CellsX a cap q) a q :=
  ⟨(Sl.reads 1 a _ cap _ (by simp)).of_ent [Inn q] (Ent.cells_out a cap q []), fun x hx => (Inn.reads hx).of_ent [Sl 1 a q.length cap (q.map sv)] ((Ent.cells_out a cap q []).trans (Ent.perm (.swap _ _ _)))⟩

theorem within_spec (i m : Int) (hm : 0 < m ∧ m < 2 ^ 62) : Spec Try.prog 36 [.int .i64 i, .int .i64 m] [] (fun v B => (∃ r : Int, v = .int .i64 r ∧ 0 ≤ r ∧ r < m ∧ r = (i % 18446744073709551616) % m) ∧ B = []) := by
  refine Spec.of_ex Try.func36 rfl Try.ntmps36 rfl fun E cs Γ => ?_
  (simp only [argRho, Nat.reduceAdd, List.nil_append])
  (refine x_seq (x_region ?_); refine r_op (o_assign rfl rfl ?_); refine r_nil ?_; refine x_seq (x_region ?_); refine r_op (o_move rfl rfl ?_))
  (refine r_op ?_)
  refine o_conv rfl rfl ?_
  (refine r_op (o_move rfl rfl ?_))
  (refine r_op ?_)
  refine o_conv rfl rfl ?_
  have e1 : IntKind.u64.wrap i = i % 18446744073709551616 := by simp [IntKind.wrap, IntKind.bits, IntKind.signed]
  have e2 : IntKind.u64.wrap m = m := by simp only [IntKind.wrap, IntKind.bits, IntKind.signed]; simp; omega
  rw [e1, e2]
  (refine r_op ?_)
  refine o_rem rfl rfl (by omega) (by omega) rfl ?_
  (refine r_op ?_)
  refine o_conv rfl rfl ?_
  have h1 : 0 ≤ (i % 18446744073709551616) % m := Int.emod_nonneg _ (by omega)
  have h2 : (i % 18446744073709551616) % m < m := Int.emod_lt_of_pos _ (by omega)
  rw [in_i64 (by omega)]
  (refine r_op (o_assign rfl rfl ?_); refine r_nil ?_)
  exact x_ret rfl [] ⟨⟨_, rfl, h1, h2, rfl⟩, rfl⟩ (.refl _)

/-- Bytes as numbers, whatever they are. -/
def u8s (ns : List Int) : List Value := ns.map (Value.int .u8)
theorem bytesSpoil_spec (a : Option Addr) (len cap : Nat) (ns : List Int) (hl : ns.length = len) (hlen : len ≤ 2 ^ 45) : Spec Try.prog 48 [.slice a len cap] [Sl 1 a len cap (u8s ns)] (fun v B => v = .tuple #[] ∧ B = []) := by
  refine Spec.of_ex Try.func48 rfl Try.ntmps48 rfl fun E cs Γ => ?_
  (simp only [argRho, List.cons_append, List.nil_append])
  (refine x_seq ?_; refine x_seq (x_region ?_); refine r_op (o_assign rfl rfl ?_); refine r_nil ?_; refine x_block ?_)
  refine x_loop (α := Nat × List Int) (fun p => p.1 ≤ len ∧ p.2.length = len) (fun p => [(0, .slice a len cap), (2, .int .i64 p.1)]) (fun p => Sl 1 a len cap (u8s p.2) :: Γ)
    (fun p => len - p.1) (0, ns) ⟨Nat.zero_le _, hl⟩ ⟨rfl, rfl, trivial⟩ (.refl _) ?_
  rintro ⟨i, ms⟩ ⟨hi, hms⟩ back
  dsimp only at hi hms back ⊢
  have R := Sl.reads 1 a len cap (u8s ms) (by simp [u8s, hms])
  (refine x_seq ?_; refine x_seq (x_region ?_); refine r_op (o_move rfl rfl ?_); refine r_op (o_move rfl rfl ?_); refine r_op (o_lenS rfl rfl ?_))
  (refine r_op ?_)
  refine o_lss rfl rfl rfl (fun h => ?_) (fun h => ?_)
  · (refine r_nil ?_; refine x_true rfl ?_; refine x_skip ?_; refine x_seq ?_; refine x_block ?_; refine x_region ?_; refine r_op (o_move rfl rfl ?_); refine r_op (o_move rfl rfl ?_); refine r_op (o_move rfl rfl ?_); refine r_op (o_move rfl rfl ?_))
    (refine r_op ?_)
    refine o_indexR rfl rfl R (j := i) rfl (by omega) rfl (fun b off ha => ?_)
    (refine r_op ?_)
    refine o_loadR rfl R ha (i := i) (by omega) (mget (Value.int .u8) (by omega)) rfl ?_
    (refine r_op ?_)
    obtain ⟨z, hz⟩ : ∃ z : Int, (IntKind.u8.wrap ((BitVec.ofInt 8 (ms[i]'(by omega)) ^^^ BitVec.ofInt 8 85).toNat : Nat)) = z := ⟨_, rfl⟩
    refine o_bits (r := .int .u8 z) (.inr (.inr (.inl rfl))) rfl rfl (fun w => by rw [← hz]; rfl) rfl ?_
    (refine r_op ?_)
    refine o_indexR rfl rfl R (j := i) rfl (by omega) rfl (fun b' off' ha' => ?_)
    (refine r_do ?_)
    refine o_storeS rfl rfl rfl ha' (i := i) (by omega) (by simp [u8s, hms]; omega) ?_
    have e : (u8s ms).set i (.int .u8 z) = u8s (ms.set i z) := by simp [u8s, List.map_set]
    rw [e]
    (refine r_nil ?_; refine x_inBlock ?_; refine x_region ?_; refine r_op (o_move rfl rfl ?_))
    (refine r_op ?_)
    refine o_add rfl rfl (add_i64 (by omega)) rfl ?_
    (refine r_op (o_assign rfl rfl ?_); refine r_nil ?_)
    refine x_weak (back (i + 1, ms.set i z) ⟨by dsimp only; omega, by simpa using hms⟩ (by dsimp only; omega)) (by (repeat' (first | exact trivial | refine ⟨rfl, ?_⟩))) Sub.h
  · (refine r_nil ?_; refine x_false rfl ?_; refine x_exit rfl ?_; refine x_region ?_; refine r_op (o_move rfl rfl ?_))
    (refine r_op ?_)
    refine o_buildSlice rfl (by rfl) (by rfl) (by rfl) (by rfl) rfl (fun a2 => ?_)
    (refine r_op ?_)
    refine o_appendT rfl rfl (by rfl) (by rfl) (by rfl) (by omega) rfl (fun a3 c3 hc => ?_)
    (refine r_op (o_assign rfl rfl ?_); refine r_nil ?_)
    exact x_end [] ⟨rfl, rfl⟩ Sub.h

theorem u8s_bv (bs : List UInt8) : bs.map bv = u8s (bs.map fun x => (x.toNat : Int)) := by simp [u8s, bv, Function.comp_def]

theorem RdC.get {A : HP} {a : Option Addr} {q : List BS} (R : RdC A a q) {i : Nat} (h : i < q.length) : Reads A 1 q[i].1 q[i].2.2.length (q[i].2.2.map bv) := R.2 _ (List.getElem_mem h)

theorem eqCells_spec {A B : HP} {a b : Option Addr} {cap cap' : Nat} {q q' : List BS} (R : RdC A a q) (R' : RdC B b q') (hl : ∀ x ∈ q, x.2.2.length ≤ 2 ^ 60) (hl' : ∀ x ∈ q', x.2.2.length ≤ 2 ^ 60) (hlen : q.length ≤ 2 ^ 60) (_ : q'.length ≤ 2 ^ 60) :
    Spec Try.prog 55 [.slice a q.length cap, .slice b q'.length cap'] [A, B] (fun v B' => v = .bool (decide (cont q = cont q')) ∧ B' = [A, B]) := by
  refine Spec.of_ex Try.func55 rfl Try.ntmps55 rfl fun E fs Γ => ?_
  (simp only [argRho, Nat.reduceAdd, List.cons_append, List.nil_append])
  (refine x_seq (x_region ?_); refine r_op (o_assign rfl rfl ?_); refine r_nil ?_; refine x_seq ?_; refine x_seq (x_region ?_); refine r_op (o_move rfl rfl ?_); refine r_op (o_lenS rfl rfl ?_); refine r_op (o_move rfl rfl ?_); refine r_op (o_lenS rfl rfl ?_))
  (refine r_op ?_)
  refine o_neq rfl rfl rfl (fun h => ?_) (fun h => ?_)
  · (refine r_nil ?_; refine x_true rfl ?_; refine x_seq (x_region ?_); refine r_op (o_assign rfl rfl ?_); refine r_nil ?_)
    exact x_ret rfl [A, B] ⟨by simp [retV]; intro e; have := congrArg List.length e; simp [cont] at this; omega, rfl⟩ Sub.h
  · (refine r_nil ?_; refine x_false rfl ?_; refine x_skip ?_; refine x_seq ?_; refine x_seq (x_region ?_); refine r_op (o_assign rfl rfl ?_); refine r_nil ?_; refine x_block ?_)
    have e : q.length = q'.length := by omega
    refine x_loop (α := Nat) (fun i => i ≤ q.length ∧ (cont q).take i = (cont q').take i) (fun i => [(0, .slice a q.length cap), (1, .slice b q'.length cap'), (5, .int .i64 i)]) (fun i => A :: B :: Γ)
      (fun i => q.length - i) 0 ⟨Nat.zero_le _, rfl⟩ ⟨rfl, rfl, rfl, trivial⟩ (.refl _) ?_
    rintro i ⟨hi, hp⟩ back
    (refine x_seq ?_; refine x_seq (x_region ?_); refine r_op (o_move rfl rfl ?_); refine r_op (o_move rfl rfl ?_); refine r_op (o_lenS rfl rfl ?_))
    (refine r_op ?_)
    refine o_lss rfl rfl rfl (fun h => ?_) (fun h => ?_)
    · have hi1 : i < q.length := by omega
      have hi2 : i < q'.length := by omega
      (refine r_nil ?_; refine x_true rfl ?_; refine x_skip ?_; refine x_seq ?_; refine x_block ?_; refine x_seq ?_)
      refine x_base R.1 (by omega) fun b1 o1 ha => ?_
      refine x_base R'.1 (by omega) fun b2 o2 hb => ?_
      refine x_script 10 [(0,false),(1,false),(2,false),(3,false),(4,false),(5,false),(6,false),(7,false),(8,true),(9,false)] [A, B] mixed (by kernel_rfl) permF ?_
      (refine s_v rfl (v_move rfl) ?_)
      (refine s_v rfl (v_move rfl) ?_)
      refine s_v rfl (v_indexH rfl rfl ha (j := i) rfl hi1) ?_
      refine s_v rfl (v_loadR rfl R.1 ha (i := i) (by omega) (mget sv hi1)) ?_
      (refine s_v rfl (v_move rfl) ?_)
      (refine s_v rfl (v_move rfl) ?_)
      refine s_v rfl (v_indexH rfl rfl hb (j := i) rfl hi2) ?_
      refine s_v rfl (v_loadR rfl R'.1 hb (i := i) (by omega) (mget sv hi2)) ?_
      refine s_x rfl (o_call rfl (eqBytes_spec (R.get hi1) (R'.get hi2) (hl _ (List.getElem_mem hi1)) (hl' _ (List.getElem_mem hi2))) rfl ?_)
      rintro v B' ⟨rfl, rfl⟩
      refine ⟨⟨_, .refl _⟩, ?_⟩
      simp only [List.cons_append, List.nil_append]
      have g1 : (cont q)[i]'(by simpa [cont] using hi1) = q[i].2.2 := by simp [cont]
      have g2 : (cont q')[i]'(by simpa [cont] using hi2) = q'[i].2.2 := by simp [cont]
      by_cases hx : q[i].2.2 = q'[i].2.2
      · simp only [hx, decide_true]
        (refine s_v rfl (v_not rfl) ?_)
        refine s_end rfl ?_
        (refine x_false rfl ?_; refine x_skip ?_; refine x_inBlock ?_; refine x_region ?_; refine r_op (o_move rfl rfl ?_))
        (refine r_op ?_)
        refine o_add rfl rfl (add_i64 (by omega)) rfl ?_
        (refine r_op (o_assign rfl rfl ?_); refine r_nil ?_)
        refine x_weak (back (i + 1) ⟨by omega, by rw [List.take_succ_eq_append_getElem (by simpa [cont] using hi1), List.take_succ_eq_append_getElem (by simpa [cont] using hi2), hp, g1, g2, hx]⟩ (by omega)) (by (repeat' (first | exact trivial | refine ⟨rfl, ?_⟩))) Sub.h
      · simp only [hx, decide_false]
        (refine s_v rfl (v_not rfl) ?_)
        refine s_end rfl ?_
        (refine x_true rfl ?_; refine x_seq (x_region ?_); refine r_op (o_assign rfl rfl ?_); refine r_nil ?_)
        exact x_ret rfl [A, B] ⟨by
          simp [retV]; intro e
          apply hx; rw [← g1, ← g2]; simp [e], rfl⟩ Sub.h
    · (refine r_nil ?_; refine x_false rfl ?_; refine x_exit rfl ?_; refine x_seq (x_region ?_); refine r_op (o_assign rfl rfl ?_); refine r_nil ?_)
      have e1 : i = q.length := by omega
      subst e1
      rw [take_all _ _ (by simp [cont]), take_all _ _ (by simp [cont]; omega)] at hp
      exact x_ret rfl [A, B] ⟨by simp [retV, hp], rfl⟩ Sub.h

theorem copyCells_spec {A : HP} {a : Option Addr} {cap : Nat} {q : List BS} (R : RdC A a q) (hl : ∀ x ∈ q, x.2.2.length ≤ 2 ^ 40) (hlen : q.length ≤ 2 ^ 40) :
    Spec Try.prog 43 [.slice a q.length cap] [A] (fun v B => ∃ a' cap' q', v = .slice a' q'.length cap' ∧ cont q' = cont q ∧ B = [A, CellsX a' cap' q']) := by
  refine Spec.of_ex Try.func43 rfl Try.ntmps43 rfl fun E cs Γ => ?_
  (simp only [argRho, List.cons_append, List.nil_append])
  (refine x_seq (x_region ?_); refine r_op (o_assign rfl rfl ?_); refine r_nil ?_; refine x_seq (x_region ?_); refine r_op (o_assign rfl rfl ?_); refine r_nil ?_; refine x_seq ?_; refine x_seq (x_region ?_); refine r_op (o_assign rfl rfl ?_); refine r_nil ?_; refine x_block ?_)
  refine x_loop (α := Nat × Option Addr × Nat × List BS) (fun p => p.1 ≤ q.length ∧ cont p.2.2.2 = (cont q).take p.1) (fun p => [(0, .slice a q.length cap), (3, .slice p.2.1 p.2.2.2.length p.2.2.1), (4, .int .i64 p.1)])
    (fun p => Sl 1 p.2.1 p.2.2.2.length p.2.2.1 (p.2.2.2.map sv) :: Inn p.2.2.2 :: A :: Γ)
    (fun p => q.length - p.1) (0, none, 0, []) ⟨Nat.zero_le _, rfl⟩ ⟨rfl, rfl, rfl, trivial⟩ ((Ent.inn_nil _).trans (Ent.nilSl 1 _)) ?_
  rintro ⟨i, a', c', q'⟩ ⟨hi, hq⟩ back
  dsimp only at hi hq back ⊢
  have hq' : q'.length = i := by have := congrArg List.length hq; simp [cont] at this; omega
  (refine x_seq ?_; refine x_seq (x_region ?_); refine r_op (o_move rfl rfl ?_); refine r_op (o_move rfl rfl ?_); refine r_op (o_lenS rfl rfl ?_))
  (refine r_op ?_)
  refine o_lss rfl rfl rfl (fun h => ?_) (fun h => ?_)
  · have hi1 : i < q.length := by omega
    (refine r_nil ?_; refine x_true rfl ?_; refine x_skip ?_; refine x_seq ?_; refine x_block ?_; refine x_region ?_; refine r_op (o_move rfl rfl ?_); refine r_op (o_move rfl rfl ?_); refine r_op (o_move rfl rfl ?_))
    (refine r_op ?_)
    refine o_indexR rfl rfl R.1 (j := i) rfl hi1 rfl (fun b off ha => ?_)
    (refine r_op ?_)
    refine o_loadR rfl R.1 ha (i := i) (by omega) (mget sv hi1) rfl ?_
    (refine r_op ?_)
    refine o_call rfl (copyBytes_spec (R.get hi1) (hl _ (List.getElem_mem hi1))) rfl ?_
    rintro v B ⟨a1, c1, rfl, rfl⟩
    simp only [List.cons_append, List.nil_append]
    (refine r_op ?_)
    refine o_buildSlice rfl (by rfl) (by rfl) (by rfl) (by rfl) rfl (fun a2 => ?_)
    (refine r_op ?_)
    refine o_appendT rfl rfl (by rfl) (by rfl) (by rfl) (by omega) rfl (fun a3 c3 hc => ?_)
    (refine r_op (o_assign rfl rfl ?_); refine r_nil ?_; refine x_inBlock ?_; refine x_region ?_; refine r_op (o_move rfl rfl ?_))
    (refine r_op ?_)
    refine o_add rfl rfl (add_i64 (by omega)) rfl ?_
    (refine r_op (o_assign rfl rfl ?_); refine r_nil ?_)
    have e : q'.map sv ++ [.slice a1 q[i].2.2.length c1] = (q' ++ [(a1, c1, q[i].2.2)]).map sv := by simp [sv]
    have e2 : q'.length + 1 = (q' ++ [(a1, c1, q[i].2.2)]).length := by simp
    rw [e, e2]
    refine x_mem (Γ' := Sl 1 a3 (q' ++ [(a1, c1, q[i].2.2)]).length c3 ((q' ++ [(a1, c1, q[i].2.2)]).map sv) :: Inn (q' ++ [(a1, c1, q[i].2.2)]) :: A :: Γ) ?_ ?_
    · refine Ent.cons _ ?_
      exact (Ent.trans (Sub.h (Δ := Sl 1 a1 q[i].2.2.length c1 (q[i].2.2.map bv) :: Inn q' :: A :: Γ)) (Ent.inn_snoc (a1, c1, q[i].2.2) q' (A :: Γ)))
    refine x_weak (back (i + 1, a3, c3, q' ++ [(a1, c1, q[i].2.2)]) ⟨by dsimp only; omega, by
      show cont (q' ++ [(a1, c1, q[i].2.2)]) = _
      rw [List.take_succ_eq_append_getElem (by simpa [cont] using hi1), ← hq]; simp [cont]⟩ (by dsimp only; omega)) (by (repeat' (first | exact trivial | refine ⟨rfl, ?_⟩))) Sub.h
  · (refine r_nil ?_; refine x_false rfl ?_; refine x_exit rfl ?_; refine x_seq (x_region ?_); refine r_op (o_move rfl rfl ?_); refine r_op (o_assign rfl rfl ?_); refine r_nil ?_)
    have e : i = q.length := by omega
    rw [take_all _ _ (by simp [cont]; omega)] at hq
    refine x_ret rfl [A, CellsX a' c' q'] ⟨a', c', q', rfl, hq, rfl⟩ ?_
    exact (Ent.cells_in a' c' q' (A :: Γ)).trans Sub.h

theorem cellsSpoil_spec (a : Option Addr) (cap : Nat) (q : List BS) (hl : ∀ x ∈ q, x.2.2.length ≤ 2 ^ 45) (hlen : q.length ≤ 2 ^ 45) : Spec Try.prog 56 [.slice a q.length cap] [CellsX a cap q] (fun v B => v = .tuple #[] ∧ B = []) := by
  refine Spec.of_ex Try.func56 rfl Try.ntmps56 rfl fun E cs Γ => ?_
  (simp only [argRho, List.cons_append, List.nil_append])
  (refine x_seq (x_region ?_); refine r_op (o_assign rfl rfl ?_); refine r_nil ?_; refine x_block ?_)
  refine x_loop (α := Nat × List Value) (fun p => p.1 ≤ q.length ∧ p.2.length = q.length ∧ ∀ j, p.1 ≤ j → p.2[j]? = (q.map sv)[j]?) (fun p => [(0, .slice a q.length cap), (2, .int .i64 p.1)]) (fun p => Sl 1 a q.length cap p.2 :: Inn (q.drop p.1) :: Γ)
    (fun p => q.length - p.1) (0, q.map sv) ⟨Nat.zero_le _, by simp, fun _ _ => rfl⟩ ⟨rfl, rfl, trivial⟩ (Ent.cells_out a cap q Γ) ?_
  rintro ⟨i, vs⟩ ⟨hi, hvl, hvs⟩ back
  dsimp only at hi hvl hvs back ⊢
  have R := Sl.reads 1 a q.length cap vs (by omega)
  (refine x_seq ?_; refine x_seq (x_region ?_); refine r_op (o_move rfl rfl ?_); refine r_op (o_move rfl rfl ?_); refine r_op (o_lenS rfl rfl ?_))
  (refine r_op ?_)
  refine o_lss rfl rfl rfl (fun h => ?_) (fun h => ?_)
  · have hi1 : i < q.length := by omega
    have hv : vs[i]? = some (sv q[i]) := by rw [hvs i (Nat.le_refl _)]; exact mget sv hi1
    rw [List.drop_eq_getElem_cons hi1]
    (refine r_nil ?_; refine x_true rfl ?_; refine x_skip ?_; refine x_seq ?_; refine x_block ?_; refine x_seq (x_region ?_); refine r_op (o_move rfl rfl ?_); refine r_op (o_move rfl rfl ?_))
    (refine r_op ?_)
    refine o_indexR rfl rfl R (j := i) rfl hi1 rfl (fun b off ha => ?_)
    (refine r_op ?_)
    refine o_loadR rfl R ha (i := i) (by omega) hv rfl ?_
    refine r_mem (Γ' := sp q[i] :: Inn (q.drop (i + 1)) :: Sl 1 a q.length cap vs :: Γ) ?_ ?_
    · refine (Ent.perm (.swap _ _ _)).trans ((Ent.inn_pop _ _ _))
    (refine r_op ?_)
    refine o_call rfl (bytesSpoil_spec q[i].1 q[i].2.2.length q[i].2.1 (q[i].2.2.map fun x => (x.toNat : Int)) (by simp) (hl _ (List.getElem_mem hi1))) (T := by rw [← u8s_bv]; exact Takes.cons _ (sp q[i]) _ _ _) rfl ?_
    rintro v B ⟨rfl, rfl⟩
    simp only [List.nil_append]
    (refine r_nil ?_; refine x_region ?_; refine r_op (o_move rfl rfl ?_); refine r_op (o_move rfl rfl ?_))
    (refine r_op ?_)
    refine o_indexR rfl rfl R (j := i) rfl hi1 rfl (fun b' off' ha' => ?_)
    (refine r_do ?_)
    refine o_storeS rfl rfl rfl ha' (i := i) (by omega) (by omega) ?_
    (refine r_nil ?_; refine x_inBlock ?_; refine x_region ?_; refine r_op (o_move rfl rfl ?_))
    (refine r_op ?_)
    refine o_add rfl rfl (add_i64 (by omega)) rfl ?_
    (refine r_op (o_assign rfl rfl ?_); refine r_nil ?_)
    refine x_weak (back (i + 1, vs.set i (.slice none 0 0)) ⟨by dsimp only; omega, by simpa using hvl, fun j hj => by
      dsimp only at hj ⊢
      rw [List.getElem?_set_ne (by omega)]; exact hvs j (by omega)⟩ (by dsimp only; omega)) (by (repeat' (first | exact trivial | refine ⟨rfl, ?_⟩))) Sub.h
  · (refine r_nil ?_; refine x_false rfl ?_; refine x_exit rfl ?_)
    exact x_end [] ⟨rfl, rfl⟩ Sub.h
end Go.Proofs.Ythneebbmodkjiaa

namespace Go.Proofs.Ythneebbmodkjiaa
open Go.Proofs

abbrev iv (n : Int) : Value := .int .i64 n
theorem iv_one (q : List Int) : (q.map iv).all Value.oneCell' = true := by simp [Value.oneCell']
/-- An element's cell in rows of s cells each. -/
theorem fget {α : Type} {f : α → List Value} {s : Nat} (hf : ∀ x, (f x).length = s) : ∀ {l : List α} {i : Nat} (h : i < l.length) (j : Nat), j < s → (l.flatMap f)[i * s + j]? = (f l[i])[j]? := by
  intro l
  induction l with
  | nil => intro i h; simp at h
  | cons x l ih =>
    intro i h j hj
    rw [List.flatMap_cons]
    cases i with
    | zero => rw [List.getElem?_append_left (by rw [hf]; omega)]; simp
    | succ i =>
      rw [List.getElem?_append_right (by rw [hf, Nat.add_mul]; omega), hf, show (i + 1) * s + j - s = i * s + j by rw [Nat.add_mul]; omega]
      rw [ih (by simpa using h) j hj]; rfl
theorem flen {α : Type} {f : α → List Value} {s : Nat} (hf : ∀ x, (f x).length = s) : ∀ (l : List α), (l.flatMap f).length = l.length * s := by
  intro l
  induction l with
  | nil => simp
  | cons x l ih => rw [List.flatMap_cons, List.length_append, hf, ih, List.length_cons, Nat.add_mul]; omega
theorem fdrop {α : Type} {f : α → List Value} {s : Nat} (hf : ∀ x, (f x).length = s) : ∀ (l : List α) (i : Nat), (l.flatMap f).drop (i * s) = (l.drop i).flatMap f := by
  intro l
  induction l with
  | nil => intro i; simp
  | cons x l ih =>
    intro i
    cases i with
    | zero => simp
    | succ i =>
      rw [List.drop_succ_cons, ← ih, List.flatMap_cons, List.drop_append, hf, List.drop_eq_nil_of_le (by rw [hf, Nat.add_mul]; omega), Nat.add_mul]
      simp

theorem copyNumbers_spec {A : HP} {a : Option Addr} {len cap : Nat} {bs : List Int} (R : Reads A 1 a len (bs.map iv)) (hlen : len ≤ 2 ^ 40) :
    Spec Try.prog 53 [.slice a len cap] [A] (fun v B => ∃ a' cap', v = .slice a' len cap' ∧ B = [A, Sl 1 a' len cap' (bs.map iv)]) := by
  have hl : bs.length = len := by simpa using R.1
  refine Spec.of_ex Try.func53 rfl Try.ntmps53 rfl fun E cs Γ => ?_
  (simp only [argRho, List.cons_append, List.nil_append])
  (refine x_seq (x_region ?_); refine r_op (o_assign rfl rfl ?_); refine r_nil ?_; refine x_seq (x_region ?_); refine r_op (o_assign rfl rfl ?_); refine r_nil ?_; refine x_seq ?_; refine x_seq (x_region ?_); refine r_op (o_assign rfl rfl ?_); refine r_nil ?_; refine x_block ?_)
  refine x_loop (α := Nat × Option Addr × Nat) (fun p => p.1 ≤ len) (fun p => [(0, .slice a len cap), (3, .slice p.2.1 p.1 p.2.2), (4, .int .i64 p.1)]) (fun p => Sl 1 p.2.1 p.1 p.2.2 ((bs.take p.1).map iv) :: A :: Γ)
    (fun p => len - p.1) (0, none, 0) (Nat.zero_le _) ⟨rfl, rfl, rfl, trivial⟩ (Ent.nilSl _ _) ?_
  rintro ⟨i, a', c'⟩ hi back
  dsimp only at hi back ⊢
  (refine x_seq ?_; refine x_seq (x_region ?_); refine r_op (o_move rfl rfl ?_); refine r_op (o_move rfl rfl ?_); refine r_op (o_lenS rfl rfl ?_))
  (refine r_op ?_)
  refine o_lss rfl rfl rfl (fun h => ?_) (fun h => ?_)
  · (refine r_nil ?_; refine x_true rfl ?_; refine x_skip ?_; refine x_seq ?_; refine x_block ?_; refine x_region ?_; refine r_op (o_move rfl rfl ?_); refine r_op (o_move rfl rfl ?_); refine r_op (o_move rfl rfl ?_))
    (refine r_op ?_)
    refine o_indexR rfl rfl R (j := i) rfl (by omega) rfl (fun b off ha => ?_)
    (refine r_op ?_)
    refine o_loadR rfl R ha (i := i) (by omega) (mget iv (by omega)) rfl ?_
    (refine r_op ?_)
    refine o_buildSlice rfl (by rfl) (by rfl) (by rfl) (by rfl) rfl (fun a2 => ?_)
    (refine r_op ?_)
    refine o_appendT rfl rfl (by rfl) (by rfl) (by rfl) (by omega) rfl (fun a3 c3 hc => ?_)
    (refine r_op (o_assign rfl rfl ?_); refine r_nil ?_; refine x_inBlock ?_; refine x_region ?_; refine r_op (o_move rfl rfl ?_))
    (refine r_op ?_)
    refine o_add rfl rfl (add_i64 (by omega)) rfl ?_
    (refine r_op (o_assign rfl rfl ?_); refine r_nil ?_)
    rw [take_snoc iv bs i (by omega)]
    refine x_weak (back (i + 1, a3, c3) (by dsimp only; omega) (by dsimp only; omega)) (by (repeat' (first | exact trivial | refine ⟨rfl, ?_⟩))) Sub.h
  · (refine r_nil ?_; refine x_false rfl ?_; refine x_exit rfl ?_; refine x_seq (x_region ?_); refine r_op (o_move rfl rfl ?_); refine r_op (o_assign rfl rfl ?_); refine r_nil ?_)
    have e : i = len := by omega
    subst e
    rw [take_all bs _ (by omega)]
    exact x_ret rfl [A, Sl 1 a' _ c' (bs.map iv)] ⟨a', c', rfl, rfl⟩ Sub.h

theorem weight_spec {A : HP} {a : Option Addr} {cap : Nat} {q : List BS} (R : RdC A a q) (hc : q.length ≤ 2 ^ 63 - 1) : Spec Try.prog 101 [.slice a q.length cap] [A] (fun v B => (∃ n, v = .int .i64 n) ∧ B = [A]) := by
  refine Spec.of_ex Try.func101 rfl Try.ntmps101 rfl fun E cs Γ => ?_
  (simp only [argRho, List.cons_append, List.nil_append])
  (refine x_seq (x_region ?_); refine r_op (o_assign rfl rfl ?_); refine r_nil ?_; refine x_seq (x_region ?_); refine r_op (o_move rfl rfl ?_); refine r_op (o_lenS rfl rfl ?_); refine r_op (o_assign rfl rfl ?_); refine r_nil ?_; refine x_seq ?_; refine x_seq (x_region ?_); refine r_op (o_assign rfl rfl ?_); refine r_nil ?_; refine x_block ?_)
  refine x_loop (α := Nat × Int) (fun p => p.1 ≤ q.length) (fun p => [(0, .slice a q.length cap), (3, .int .i64 p.2), (4, .int .i64 p.1)]) (fun p => A :: Γ)
    (fun p => q.length - p.1) (0, (q.length : Int)) (Nat.zero_le _) ⟨rfl, rfl, rfl, trivial⟩ (.refl _) ?_
  rintro ⟨i, n⟩ hi back
  dsimp only at hi back ⊢
  (refine x_seq ?_; refine x_seq (x_region ?_); refine r_op (o_move rfl rfl ?_); refine r_op (o_move rfl rfl ?_); refine r_op (o_lenS rfl rfl ?_))
  (refine r_op ?_)
  refine o_lss rfl rfl rfl (fun h => ?_) (fun h => ?_)
  · (refine r_op (o_move rfl rfl ?_); refine r_guard rfl (o_move rfl rfl ?_))
    (refine r_guard rfl ?_)
    refine o_lss rfl rfl rfl (fun h2 => ?_) (fun h2 => ?_)
    · (refine r_op (o_pick_t rfl rfl rfl ?_); refine r_nil ?_; refine x_true rfl ?_; refine x_skip ?_; refine x_seq ?_; refine x_block ?_; refine x_region ?_; refine r_op (o_move rfl rfl ?_); refine r_op (o_move rfl rfl ?_); refine r_op (o_move rfl rfl ?_))
      (refine r_op ?_)
      refine o_indexR rfl rfl R.1 (j := i) rfl (by omega) rfl (fun b off ha => ?_)
      (refine r_op ?_)
      refine o_loadR rfl R.1 ha (i := i) (by omega) (mget sv (by omega)) rfl ?_
      (refine r_op (o_lenS rfl rfl ?_))
      (refine r_op ?_)
      refine o_addW rfl rfl rfl ?_
      (refine r_op (o_assign rfl rfl ?_); refine r_nil ?_; refine x_inBlock ?_; refine x_region ?_; refine r_op (o_move rfl rfl ?_))
      (refine r_op ?_)
      refine o_add rfl rfl (add_i64 (by omega)) rfl ?_
      (refine r_op (o_assign rfl rfl ?_); refine r_nil ?_)
      refine x_weak (back (i + 1, _) (by dsimp only; omega) (by dsimp only; omega)) (by (repeat' (first | exact trivial | refine ⟨rfl, ?_⟩))) Sub.h
    · (refine r_op (o_pick_t rfl rfl rfl ?_); refine r_nil ?_; refine x_false rfl ?_; refine x_exit rfl ?_; refine x_seq (x_region ?_); refine r_op (o_move rfl rfl ?_); refine r_op (o_assign rfl rfl ?_); refine r_nil ?_)
      exact x_ret rfl [A] ⟨⟨_, rfl⟩, rfl⟩ Sub.h
  · (refine r_op (o_move rfl rfl ?_); refine r_skip rfl rfl rfl ?_; refine r_skip rfl rfl rfl ?_; refine r_op (o_pick_f rfl rfl rfl ?_); refine r_nil ?_; refine x_false rfl ?_; refine x_exit rfl ?_; refine x_seq (x_region ?_); refine r_op (o_move rfl rfl ?_); refine r_op (o_assign rfl rfl ?_); refine r_nil ?_)
    exact x_ret rfl [A] ⟨⟨_, rfl⟩, rfl⟩ Sub.h

/-- An act of the disk's scripts. -/
structure AV where
  op : Int
  n : Int
  at' : Int
  k : Int
  b : BS
  pa : Option Addr
  pc : Nat
  ps : List Int
def AV.cells (x : AV) : List Value := [.int .i64 x.op, .int .i64 x.n, .int .i64 x.at', .int .i64 x.k, sv x.b, .slice x.pa x.ps.length x.pc]
theorem AV.cl (x : AV) : x.cells.length = 6 := rfl
def RdS (A : HP) (a : Option Addr) (l : List AV) : Prop := Reads A 6 a l.length (l.flatMap AV.cells) ∧ ∀ x ∈ l, Reads A 1 x.b.1 x.b.2.2.length (x.b.2.2.map bv) ∧ Reads A 1 x.pa x.ps.length (x.ps.map iv)
theorem RdS.cell {_A : HP} {_a : Option Addr} {l : List AV} {i : Nat} (h : i < l.length) (j : Nat) (hj : j < 6) : (l.flatMap AV.cells)[i * 6 + j]? = (l[i].cells)[j]? := fget AV.cl h j hj
/-- A script: files, acts. -/
structure SV where
  fa : Option Addr
  fc : Nat
  f : List BS
  la : Option Addr
  lc : Nat
  l : List AV
abbrev SV.cells (p : SV) : List Value := [.slice p.fa p.f.length p.fc, .slice p.la p.l.length p.lc]
def SV.val (p : SV) : Value := .agg p.cells.toArray
structure SV.Rd (A : HP) (p : SV) : Prop where
  f : RdC A p.fa p.f
  l : RdS A p.la p.l
  fb : p.f.length ≤ 2 ^ 63 - 1
  lb : p.l.length ≤ 2 ^ 63 - 1

theorem heavy9_spec {A : HP} {p : SV} (R : SV.Rd A p) : Spec Try.prog 35 [p.val] [A] (fun v B => (∃ b, v = .bool b) ∧ B = [A]) := by
  refine Spec.of_ex Try.func35 rfl Try.ntmps35 rfl fun E cs Γ => ?_
  (simp only [argRho, List.cons_append, List.nil_append])
  (refine x_seq ?_); (refine x_region ?_)
  (refine r_op ?_)
  refine o_boxA (vs := p.cells) rfl rfl (fun b0 => ?_)
  (refine r_op (o_assign rfl rfl ?_); refine r_nil ?_; refine x_seq (x_region ?_); refine r_op (o_fieldAddr rfl rfl ?_); refine r_op (o_load rfl rfl rfl rfl ?_))
  (refine r_op ?_)
  refine o_call rfl (weight_spec R.f R.fb) rfl ?_
  rintro v B ⟨⟨n0, rfl⟩, rfl⟩
  (simp only [List.cons_append, List.nil_append])
  (refine r_op (o_assign rfl rfl ?_); refine r_nil ?_; refine x_seq ?_; refine x_seq (x_region ?_); refine r_op (o_assign rfl rfl ?_); refine r_nil ?_; refine x_block ?_)
  refine x_loop (α := Nat × Int) (fun q => q.1 ≤ p.l.length) (fun q => [(1, .pointer (some ⟨b0, 0, none⟩)), (3, .int .i64 q.2), (4, .int .i64 q.1)]) (fun q => A :: Row b0 0 p.cells :: Γ)
    (fun q => p.l.length - q.1) (0, n0) (Nat.zero_le _) ⟨rfl, rfl, rfl, trivial⟩ Sub.h ?_
  rintro ⟨i, n⟩ hi back
  have lb := R.lb
  dsimp only at hi back ⊢
  (refine x_seq ?_; refine x_seq (x_region ?_); refine r_op (o_move rfl rfl ?_); refine r_op (o_fieldAddr rfl rfl ?_); refine r_op (o_load rfl rfl rfl rfl ?_); refine r_op (o_lenS rfl rfl ?_))
  (refine r_op ?_)
  refine o_lss rfl rfl rfl (fun h => ?_) (fun h => ?_)
  · (refine r_op (o_move rfl rfl ?_); refine r_guard rfl (o_move rfl rfl ?_))
    (refine r_guard rfl ?_)
    refine o_lss rfl rfl rfl (fun h2 => ?_) (fun h2 => ?_)
    · have hi1 : i < p.l.length := by omega
      (refine r_op (o_pick_t rfl rfl rfl ?_); refine r_nil ?_; refine x_true rfl ?_; refine x_skip ?_; refine x_seq ?_; refine x_block ?_)
      refine x_base R.l.1 (by omega) fun b off ha => ?_
      refine x_script 16 [(0,false),(1,false),(2,false),(3,false),(4,false),(5,false),(6,false),(7,false),(8,false),(9,false),(10,false),(11,false),(12,false),(13,false),(14,false),(15,false),(16,false),(17,false)] [A, Row b0 0 p.cells] mixed (by kernel_rfl) permF ?_
      (refine s_v rfl (v_move rfl) ?_)
      (refine s_v rfl (v_fieldAddr rfl) ?_)
      (refine s_v rfl (v_load rfl rfl rfl) ?_)
      (refine s_v rfl (v_move rfl) ?_)
      refine s_v rfl (v_indexH rfl rfl ha (j := i) rfl (by omega)) ?_
      (refine s_v rfl (v_fieldAddr rfl) ?_)
      refine s_v rfl (v_loadR rfl R.l.1 ha (i := i * 6 + 4) (by omega) ((RdS.cell (_A := A) (_a := none) hi1 4 (by decide)).trans rfl)) ?_
      (refine s_v rfl (v_lenS rfl) ?_)
      refine s_v rfl (v_addW rfl rfl) ?_
      (refine s_v rfl (v_fieldAddr rfl) ?_)
      (refine s_v rfl (v_load rfl rfl rfl) ?_)
      (refine s_v rfl (v_move rfl) ?_)
      refine s_v rfl (v_indexH rfl rfl ha (j := i) rfl (by omega)) ?_
      (refine s_v rfl (v_fieldAddr rfl) ?_)
      refine s_v rfl (v_loadR rfl R.l.1 ha (i := i * 6 + 5) (by omega) ((RdS.cell (_A := A) (_a := none) hi1 5 (by decide)).trans rfl)) ?_
      (refine s_v rfl (v_lenS rfl) ?_)
      refine s_v rfl (v_addW rfl rfl) ?_
      (refine s_v rfl (v_assign rfl) ?_)
      refine s_end rfl ?_
      (refine x_inBlock ?_; refine x_region ?_; refine r_op (o_move rfl rfl ?_))
      (refine r_op ?_)
      refine o_add rfl rfl (add_i64 (by omega)) rfl ?_
      (refine r_op (o_assign rfl rfl ?_); refine r_nil ?_)
      refine x_weak (back (i + 1, _) (by dsimp only; omega) (by dsimp only; omega)) (by (repeat' (first | exact trivial | refine ⟨rfl, ?_⟩))) Sub.h
    · (refine r_op (o_pick_t rfl rfl rfl ?_); refine r_nil ?_; refine x_false rfl ?_; refine x_exit rfl ?_; refine x_seq (x_region ?_); refine r_op (o_move rfl rfl ?_))
      (refine r_op ?_)
      refine o_gtr rfl rfl rfl (fun h3 => ?_) (fun h3 => ?_)
      · (refine r_op (o_move rfl rfl ?_); refine r_skip rfl rfl rfl ?_; refine r_skip rfl rfl rfl ?_; refine r_skip rfl rfl rfl ?_; refine r_skip rfl rfl rfl ?_; refine r_op (o_pick_t rfl rfl rfl ?_); refine r_op (o_assign rfl rfl ?_); refine r_nil ?_)
        exact x_ret rfl [A] ⟨⟨_, rfl⟩, rfl⟩ Sub.h
      · (refine r_op (o_move rfl rfl ?_); refine r_guard rfl (o_fieldAddr rfl rfl ?_); refine r_guard rfl (o_load rfl rfl rfl rfl ?_); refine r_guard rfl (o_lenS rfl rfl ?_))
        (refine r_guard rfl ?_)
        refine o_gtr rfl rfl rfl (fun h4 => ?_) (fun h4 => ?_)
        all_goals
          (refine r_op (o_pick_f rfl rfl rfl ?_); refine r_op (o_assign rfl rfl ?_); refine r_nil ?_)
          exact x_ret rfl [A] ⟨⟨_, rfl⟩, rfl⟩ Sub.h
  · (refine r_op (o_move rfl rfl ?_); refine r_skip rfl rfl rfl ?_; refine r_skip rfl rfl rfl ?_; refine r_op (o_pick_f rfl rfl rfl ?_); refine r_nil ?_; refine x_false rfl ?_; refine x_exit rfl ?_; refine x_seq (x_region ?_); refine r_op (o_move rfl rfl ?_))
    (refine r_op ?_)
    refine o_gtr rfl rfl rfl (fun h3 => ?_) (fun h3 => ?_)
    · (refine r_op (o_move rfl rfl ?_); refine r_skip rfl rfl rfl ?_; refine r_skip rfl rfl rfl ?_; refine r_skip rfl rfl rfl ?_; refine r_skip rfl rfl rfl ?_; refine r_op (o_pick_t rfl rfl rfl ?_); refine r_op (o_assign rfl rfl ?_); refine r_nil ?_)
      exact x_ret rfl [A] ⟨⟨_, rfl⟩, rfl⟩ Sub.h
    · (refine r_op (o_move rfl rfl ?_); refine r_guard rfl (o_fieldAddr rfl rfl ?_); refine r_guard rfl (o_load rfl rfl rfl rfl ?_); refine r_guard rfl (o_lenS rfl rfl ?_))
      (refine r_guard rfl ?_)
      refine o_gtr rfl rfl rfl (fun h4 => ?_) (fun h4 => ?_)
      all_goals
        (refine r_op (o_pick_f rfl rfl rfl ?_); refine r_op (o_assign rfl rfl ?_); refine r_nil ?_)
        exact x_ret rfl [A] ⟨⟨_, rfl⟩, rfl⟩ Sub.h
end Go.Proofs.Ythneebbmodkjiaa
