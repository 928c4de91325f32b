/- Part of a proof over the seat Ythneebbmodkjiaa: module D2. Its claim's last module says what is proved. -/
import Derived.Test.YthneebbmodkjiaaD1
namespace Go.Proofs.Ythneebbmodkjiaa
open Go.Proofs

/-! ### Rows of byte slices -/
/-- A byte slice: base, room, bytes. -/
abbrev BS := Option Addr × Nat × List UInt8
abbrev sv (x : BS) : Value := .slice x.1 x.2.2.length x.2.1
abbrev sp (x : BS) : HP := Sl 1 x.1 x.2.2.length x.2.1 (x.2.2.map bv)
def cont (q : List BS) : List (List UInt8) := q.map (·.2.2)
def Inn (q : List BS) : HP := Sep (q.map sp)
/-- A slice of byte slices, all of it owned. -/
def CellsX (a : Option Addr) (cap : Nat) (q : List BS) : HP := Sep [Sl 1 a q.length cap (q.map sv), Inn q]
def RdC (A : HP) (a : Option Addr) (q : List BS) : Prop := Reads A 1 a q.length (q.map sv) ∧ ∀ x ∈ q, Reads A 1 x.1 x.2.2.length (x.2.2.map bv)
theorem sv_one (q : List BS) : (q.map sv).all Value.oneCell' = true := by simp [Value.oneCell']

theorem Ent.inn_pop (x : BS) (q : List BS) (Γ : List HP) : Ent (Inn (x :: q) :: Γ) (sp x :: Inn q :: Γ) := by
  refine (Ent.sep_out _ _).trans ?_
  exact Ent.cons _ (Ent.sep_in _ _)
theorem Ent.inn_push (x : BS) (q : List BS) (Γ : List HP) : Ent (sp x :: Inn q :: Γ) (Inn (x :: q) :: Γ) := by
  refine (Ent.cons _ (Ent.sep_out _ _)).trans ?_
  exact Ent.sep_in ((x :: q).map sp) Γ
theorem Ent.inn_snoc (x : BS) (q : List BS) (Γ : List HP) : Ent (sp x :: Inn q :: Γ) (Inn (q ++ [x]) :: Γ) := by
  refine (Ent.cons _ (Ent.sep_out _ _)).trans ?_
  refine Ent.trans (Ent.perm ?_) (Ent.sep_in ((q ++ [x]).map sp) Γ)
  rw [List.map_append]
  simp only [List.map_cons, List.map_nil, List.append_assoc, List.cons_append, List.nil_append]
  exact List.perm_middle.symm
theorem Ent.inn_nil (Γ : List HP) : Ent Γ (Inn [] :: Γ) := Ent.marks0 Γ
theorem Ent.cells_out (a : Option Addr) (cap : Nat) (q : List BS) (Γ : List HP) : Ent (CellsX a cap q :: Γ) (Sl 1 a q.length cap (q.map sv) :: Inn q :: Γ) := Ent.sep_out _ _
theorem Ent.cells_in (a : Option Addr) (cap : Nat) (q : List BS) (Γ : List HP) : Ent (Sl 1 a q.length cap (q.map sv) :: Inn q :: Γ) (CellsX a cap q :: Γ) := Ent.sep_in [_, _] Γ

theorem Reads.of_ent {A B : HP} {s len : Nat} {a : Option Addr} {xs : List Value} (R : Reads B s a len xs) (Δ : List HP) (he : Ent [A] (B :: Δ)) : Reads A s a len xs := by
  refine ⟨R.1, fun h w hA W => ?_⟩
  obtain ⟨g, ⟨b, r, hB, hr, d, rfl⟩, hg⟩ := he h ⟨h, PH.emp, hA, rfl, PH.disj_emp h, (PH.join_emp h).symm⟩
  refine R.2 b w hB fun x y e hx => W x y e (hg x y e ?_)
  simp [PH.join, hx]
theorem Inn.reads : ∀ {q : List BS} {x : BS}, x ∈ q → Reads (Inn q) 1 x.1 x.2.2.length (x.2.2.map bv) := by
  intro q
  induction q with
  | nil => intro x hx; cases hx
  | cons y q ih =>
    intro x hx
    rw [List.mem_cons] at hx
    rcases hx with rfl | hx
    · exact (Sl.reads 1 _ _ _ _ (by simp)).of_ent [Inn q] (Ent.inn_pop x q [])
    · exact (ih hx).of_ent [sp y] ((Ent.inn_pop y q []).trans (Ent.perm (.swap _ _ _)))
theorem CellsX.rd (a : Option Addr) (cap : Nat) (q : List BS) : RdC (CellsX a cap q) a q :=
  ⟨(Sl.reads 1 a _ cap _ (by simp)).of_ent [Inn q] (Ent.cells_out a cap q []), fun x hx => (Inn.reads hx).of_ent [Sl 1 a q.length cap (q.map sv)] ((Ent.cells_out a cap q []).trans (Ent.perm (.swap _ _ _)))⟩

theorem within_spec (i m : Int) (hm : 0 < m ∧ m < 2 ^ 62) : Spec Try.prog 36 [.int .i64 i, .int .i64 m] [] (fun v B => (∃ r : Int, v = .int .i64 r ∧ 0 ≤ r ∧ r < m ∧ r = (i % 18446744073709551616) % m) ∧ B = []) := by
  refine Spec.of_ex Try.func36 rfl Try.ntmps36 rfl fun E cs Γ => ?_
  (simp only [argRho, Nat.reduceAdd, List.nil_append])
  (refine x_seq (x_region ?_); refine r_op (o_assign rfl rfl ?_); refine r_nil ?_; refine x_seq (x_region ?_); refine r_op (o_move rfl rfl ?_))
  (refine r_op ?_)
  refine o_conv rfl rfl ?_
  (refine r_op (o_move rfl rfl ?_))
  (refine r_op ?_)
  refine o_conv rfl rfl ?_
  have e1 : IntKind.u64.wrap i = i % 18446744073709551616 := by simp [IntKind.wrap, IntKind.bits, IntKind.signed]
  have e2 : IntKind.u64.wrap m = m := by simp only [IntKind.wrap, IntKind.bits, IntKind.signed]; simp; omega
  rw [e1, e2]
  (refine r_op ?_)
  refine o_rem rfl rfl (by omega) (by omega) rfl ?_
  (refine r_op ?_)
  refine o_conv rfl rfl ?_
  have h1 : 0 ≤ (i % 18446744073709551616) % m := Int.emod_nonneg _ (by omega)
  have h2 : (i % 18446744073709551616) % m < m := Int.emod_lt_of_pos _ (by omega)
  rw [in_i64 (by omega)]
  (refine r_op (o_assign rfl rfl ?_); refine r_nil ?_)
  exact x_ret rfl [] ⟨⟨_, rfl, h1, h2, rfl⟩, rfl⟩ (.refl _)

/-- Bytes as numbers, whatever they are. -/
def u8s (ns : List Int) : List Value := ns.map (Value.int .u8)
theorem bytesSpoil_spec (a : Option Addr) (len cap : Nat) (ns : List Int) (hl : ns.length = len) (hlen : len ≤ 2 ^ 45) : Spec Try.prog 48 [.slice a len cap] [Sl 1 a len cap (u8s ns)] (fun v B => v = .tuple #[] ∧ B = []) := by
  refine Spec.of_ex Try.func48 rfl Try.ntmps48 rfl fun E cs Γ => ?_
  (simp only [argRho, List.cons_append, List.nil_append])
  (refine x_seq ?_; refine x_seq (x_region ?_); refine r_op (o_assign rfl rfl ?_); refine r_nil ?_; refine x_block ?_)
  refine x_loop (α := Nat × List Int) (fun p => p.1 ≤ len ∧ p.2.length = len) (fun p => [(0, .slice a len cap), (2, .int .i64 p.1)]) (fun p => Sl 1 a len cap (u8s p.2) :: Γ)
    (fun p => len - p.1) (0, ns) ⟨Nat.zero_le _, hl⟩ ⟨rfl, rfl, trivial⟩ (.refl _) ?_
  rintro ⟨i, ms⟩ ⟨hi, hms⟩ back
  dsimp only at hi hms back ⊢
  have R := Sl.reads 1 a len cap (u8s ms) (by simp [u8s, hms])
  (refine x_seq ?_; refine x_seq (x_region ?_); refine r_op (o_move rfl rfl ?_); refine r_op (o_move rfl rfl ?_); refine r_op (o_lenS rfl rfl ?_))
  (refine r_op ?_)
  refine o_lss rfl rfl rfl (fun h => ?_) (fun h => ?_)
  · (refine r_nil ?_; refine x_true rfl ?_; refine x_skip ?_; refine x_seq ?_; refine x_block ?_; refine x_region ?_; refine r_op (o_move rfl rfl ?_); refine r_op (o_move rfl rfl ?_); refine r_op (o_move rfl rfl ?_); refine r_op (o_move rfl rfl ?_))
    (refine r_op ?_)
    refine o_indexR rfl rfl R (j := i) rfl (by omega) rfl (fun b off ha => ?_)
    (refine r_op ?_)
    refine o_loadR rfl R ha (i := i) (by omega) (mget (Value.int .u8) (by omega)) rfl ?_
    (refine r_op ?_)
    obtain ⟨z, hz⟩ : ∃ z : Int, (IntKind.u8.wrap ((BitVec.ofInt 8 (ms[i]'(by omega)) ^^^ BitVec.ofInt 8 85).toNat : Nat)) = z := ⟨_, rfl⟩
    refine o_bits (r := .int .u8 z) (.inr (.inr (.inl rfl))) rfl rfl (fun w => by rw [← hz]; rfl) rfl ?_
    (refine r_op ?_)
    refine o_indexR rfl rfl R (j := i) rfl (by omega) rfl (fun b' off' ha' => ?_)
    (refine r_do ?_)
    refine o_storeS rfl rfl rfl ha' (i := i) (by omega) (by simp [u8s, hms]; omega) ?_
    have e : (u8s ms).set i (.int .u8 z) = u8s (ms.set i z) := by simp [u8s, List.map_set]
    rw [e]
    (refine r_nil ?_; refine x_inBlock ?_; refine x_region ?_; refine r_op (o_move rfl rfl ?_))
    (refine r_op ?_)
    refine o_add rfl rfl (add_i64 (by omega)) rfl ?_
    (refine r_op (o_assign rfl rfl ?_); refine r_nil ?_)
    refine x_weak (back (i + 1, ms.set i z) ⟨by dsimp only; omega, by simpa using hms⟩ (by dsimp only; omega)) (by (repeat' (first | exact trivial | refine ⟨rfl, ?_⟩))) Sub.h
  · (refine r_nil ?_; refine x_false rfl ?_; refine x_exit rfl ?_; refine x_region ?_; refine r_op (o_move rfl rfl ?_))
    (refine r_op ?_)
    refine o_buildSlice rfl (by rfl) (by rfl) (by rfl) (by rfl) rfl (fun a2 => ?_)
    (refine r_op ?_)
    refine o_appendT rfl rfl (by rfl) (by rfl) (by rfl) (by omega) rfl (fun a3 c3 hc => ?_)
    (refine r_op (o_assign rfl rfl ?_); refine r_nil ?_)
    exact x_end [] ⟨rfl, rfl⟩ Sub.h

theorem u8s_bv (bs : List UInt8) : bs.map bv = u8s (bs.map fun x => (x.toNat : Int)) := by simp [u8s, bv, Function.comp_def]

theorem RdC.get {A : HP} {a : Option Addr} {q : List BS} (R : RdC A a q) {i : Nat} (h : i < q.length) : Reads A 1 q[i].1 q[i].2.2.length (q[i].2.2.map bv) := R.2 _ (List.getElem_mem h)

theorem eqCells_spec {A B : HP} {a b : Option Addr} {cap cap' : Nat} {q q' : List BS} (R : RdC A a q) (R' : RdC B b q') (hl : ∀ x ∈ q, x.2.2.length ≤ 2 ^ 60) (hl' : ∀ x ∈ q', x.2.2.length ≤ 2 ^ 60) (hlen : q.length ≤ 2 ^ 60) (_ : q'.length ≤ 2 ^ 60) :
    Spec Try.prog 55 [.slice a q.length cap, .slice b q'.length cap'] [A, B] (fun v B' => v = .bool (decide (cont q = cont q')) ∧ B' = [A, B]) := by
  refine Spec.of_ex Try.func55 rfl Try.ntmps55 rfl fun E fs Γ => ?_
  (simp only [argRho, Nat.reduceAdd, List.cons_append, List.nil_append])
  (refine x_seq (x_region ?_); refine r_op (o_assign rfl rfl ?_); refine r_nil ?_; refine x_seq ?_; refine x_seq (x_region ?_); refine r_op (o_move rfl rfl ?_); refine r_op (o_lenS rfl rfl ?_); refine r_op (o_move rfl rfl ?_); refine r_op (o_lenS rfl rfl ?_))
  (refine r_op ?_)
  refine o_neq rfl rfl rfl (fun h => ?_) (fun h => ?_)
  · (refine r_nil ?_; refine x_true rfl ?_; refine x_seq (x_region ?_); refine r_op (o_assign rfl rfl ?_); refine r_nil ?_)
    exact x_ret rfl [A, B] ⟨by simp [retV]; intro e; have := congrArg List.length e; simp [cont] at this; omega, rfl⟩ Sub.h
  · (refine r_nil ?_; refine x_false rfl ?_; refine x_skip ?_; refine x_seq ?_; refine x_seq (x_region ?_); refine r_op (o_assign rfl rfl ?_); refine r_nil ?_; refine x_block ?_)
    have e : q.length = q'.length := by omega
    refine x_loop (α := Nat) (fun i => i ≤ q.length ∧ (cont q).take i = (cont q').take i) (fun i => [(0, .slice a q.length cap), (1, .slice b q'.length cap'), (5, .int .i64 i)]) (fun i => A :: B :: Γ)
      (fun i => q.length - i) 0 ⟨Nat.zero_le _, rfl⟩ ⟨rfl, rfl, rfl, trivial⟩ (.refl _) ?_
    rintro i ⟨hi, hp⟩ back
    (refine x_seq ?_; refine x_seq (x_region ?_); refine r_op (o_move rfl rfl ?_); refine r_op (o_move rfl rfl ?_); refine r_op (o_lenS rfl rfl ?_))
    (refine r_op ?_)
    refine o_lss rfl rfl rfl (fun h => ?_) (fun h => ?_)
    · have hi1 : i < q.length := by omega
      have hi2 : i < q'.length := by omega
      (refine r_nil ?_; refine x_true rfl ?_; refine x_skip ?_; refine x_seq ?_; refine x_block ?_; refine x_seq ?_)
      refine x_base R.1 (by omega) fun b1 o1 ha => ?_
      refine x_base R'.1 (by omega) fun b2 o2 hb => ?_
      refine x_script 10 [(0,false),(1,false),(2,false),(3,false),(4,false),(5,false),(6,false),(7,false),(8,true),(9,false)] [A, B] mixed (by kernel_rfl) permF ?_
      (refine s_v rfl (v_move rfl) ?_)
      (refine s_v rfl (v_move rfl) ?_)
      refine s_v rfl (v_indexH rfl rfl ha (j := i) rfl hi1) ?_
      refine s_v rfl (v_loadR rfl R.1 ha (i := i) (by omega) (mget sv hi1)) ?_
      (refine s_v rfl (v_move rfl) ?_)
      (refine s_v rfl (v_move rfl) ?_)
      refine s_v rfl (v_indexH rfl rfl hb (j := i) rfl hi2) ?_
      refine s_v rfl (v_loadR rfl R'.1 hb (i := i) (by omega) (mget sv hi2)) ?_
      refine s_x rfl (o_call rfl (eqBytes_spec (R.get hi1) (R'.get hi2) (hl _ (List.getElem_mem hi1)) (hl' _ (List.getElem_mem hi2))) rfl ?_)
      rintro v B' ⟨rfl, rfl⟩
      refine ⟨⟨_, .refl _⟩, ?_⟩
      simp only [List.cons_append, List.nil_append]
      have g1 : (cont q)[i]'(by simpa [cont] using hi1) = q[i].2.2 := by simp [cont]
      have g2 : (cont q')[i]'(by simpa [cont] using hi2) = q'[i].2.2 := by simp [cont]
      by_cases hx : q[i].2.2 = q'[i].2.2
      · simp only [hx, decide_true]
        (refine s_v rfl (v_not rfl) ?_)
        refine s_end rfl ?_
        (refine x_false rfl ?_; refine x_skip ?_; refine x_inBlock ?_; refine x_region ?_; refine r_op (o_move rfl rfl ?_))
        (refine r_op ?_)
        refine o_add rfl rfl (add_i64 (by omega)) rfl ?_
        (refine r_op (o_assign rfl rfl ?_); refine r_nil ?_)
        refine x_weak (back (i + 1) ⟨by omega, by rw [List.take_succ_eq_append_getElem (by simpa [cont] using hi1), List.take_succ_eq_append_getElem (by simpa [cont] using hi2), hp, g1, g2, hx]⟩ (by omega)) (by (repeat' (first | exact trivial | refine ⟨rfl, ?_⟩))) Sub.h
      · simp only [hx, decide_false]
        (refine s_v rfl (v_not rfl) ?_)
        refine s_end rfl ?_
        (refine x_true rfl ?_; refine x_seq (x_region ?_); refine r_op (o_assign rfl rfl ?_); refine r_nil ?_)
        exact x_ret rfl [A, B] ⟨by
          simp [retV]; intro e
          apply hx; rw [← g1, ← g2]; simp [e], rfl⟩ Sub.h
    · (refine r_nil ?_; refine x_false rfl ?_; refine x_exit rfl ?_; refine x_seq (x_region ?_); refine r_op (o_assign rfl rfl ?_); refine r_nil ?_)
      have e1 : i = q.length := by omega
      subst e1
      rw [take_all _ _ (by simp [cont]), take_all _ _ (by simp [cont]; omega)] at hp
      exact x_ret rfl [A, B] ⟨by simp [retV, hp], rfl⟩ Sub.h

theorem copyCells_spec {A : HP} {a : Option Addr} {cap : Nat} {q : List BS} (R : RdC A a q) (hl : ∀ x ∈ q, x.2.2.length ≤ 2 ^ 40) (hlen : q.length ≤ 2 ^ 40) :
    Spec Try.prog 43 [.slice a q.length cap] [A] (fun v B => ∃ a' cap' q', v = .slice a' q'.length cap' ∧ cont q' = cont q ∧ B = [A, CellsX a' cap' q']) := by
  refine Spec.of_ex Try.func43 rfl Try.ntmps43 rfl fun E cs Γ => ?_
  (simp only [argRho, List.cons_append, List.nil_append])
  (refine x_seq (x_region ?_); refine r_op (o_assign rfl rfl ?_); refine r_nil ?_; refine x_seq (x_region ?_); refine r_op (o_assign rfl rfl ?_); refine r_nil ?_; refine x_seq ?_; refine x_seq (x_region ?_); refine r_op (o_assign rfl rfl ?_); refine r_nil ?_; refine x_block ?_)
  refine x_loop (α := Nat × Option Addr × Nat × List BS) (fun p => p.1 ≤ q.length ∧ cont p.2.2.2 = (cont q).take p.1) (fun p => [(0, .slice a q.length cap), (3, .slice p.2.1 p.2.2.2.length p.2.2.1), (4, .int .i64 p.1)])
    (fun p => Sl 1 p.2.1 p.2.2.2.length p.2.2.1 (p.2.2.2.map sv) :: Inn p.2.2.2 :: A :: Γ)
    (fun p => q.length - p.1) (0, none, 0, []) ⟨Nat.zero_le _, rfl⟩ ⟨rfl, rfl, rfl, trivial⟩ ((Ent.inn_nil _).trans (Ent.nilSl 1 _)) ?_
  rintro ⟨i, a', c', q'⟩ ⟨hi, hq⟩ back
  dsimp only at hi hq back ⊢
  have hq' : q'.length = i := by have := congrArg List.length hq; simp [cont] at this; omega
  (refine x_seq ?_; refine x_seq (x_region ?_); refine r_op (o_move rfl rfl ?_); refine r_op (o_move rfl rfl ?_); refine r_op (o_lenS rfl rfl ?_))
  (refine r_op ?_)
  refine o_lss rfl rfl rfl (fun h => ?_) (fun h => ?_)
  · have hi1 : i < q.length := by omega
    (refine r_nil ?_; refine x_true rfl ?_; refine x_skip ?_; refine x_seq ?_; refine x_block ?_; refine x_region ?_; refine r_op (o_move rfl rfl ?_); refine r_op (o_move rfl rfl ?_); refine r_op (o_move rfl rfl ?_))
    (refine r_op ?_)
    refine o_indexR rfl rfl R.1 (j := i) rfl hi1 rfl (fun b off ha => ?_)
    (refine r_op ?_)
    refine o_loadR rfl R.1 ha (i := i) (by omega) (mget sv hi1) rfl ?_
    (refine r_op ?_)
    refine o_call rfl (copyBytes_spec (R.get hi1) (hl _ (List.getElem_mem hi1))) rfl ?_
    rintro v B ⟨a1, c1, rfl, rfl⟩
    simp only [List.cons_append, List.nil_append]
    (refine r_op ?_)
    refine o_buildSlice rfl (by rfl) (by rfl) (by rfl) (by rfl) rfl (fun a2 => ?_)
    (refine r_op ?_)
    refine o_appendT rfl rfl (by rfl) (by rfl) (by rfl) (by omega) rfl (fun a3 c3 hc => ?_)
    (refine r_op (o_assign rfl rfl ?_); refine r_nil ?_; refine x_inBlock ?_; refine x_region ?_; refine r_op (o_move rfl rfl ?_))
    (refine r_op ?_)
    refine o_add rfl rfl (add_i64 (by omega)) rfl ?_
    (refine r_op (o_assign rfl rfl ?_); refine r_nil ?_)
    have e : q'.map sv ++ [.slice a1 q[i].2.2.length c1] = (q' ++ [(a1, c1, q[i].2.2)]).map sv := by simp [sv]
    have e2 : q'.length + 1 = (q' ++ [(a1, c1, q[i].2.2)]).length := by simp
    rw [e, e2]
    refine x_mem (Γ' := Sl 1 a3 (q' ++ [(a1, c1, q[i].2.2)]).length c3 ((q' ++ [(a1, c1, q[i].2.2)]).map sv) :: Inn (q' ++ [(a1, c1, q[i].2.2)]) :: A :: Γ) ?_ ?_
    · refine Ent.cons _ ?_
      exact (Ent.trans (Sub.h (Δ := Sl 1 a1 q[i].2.2.length c1 (q[i].2.2.map bv) :: Inn q' :: A :: Γ)) (Ent.inn_snoc (a1, c1, q[i].2.2) q' (A :: Γ)))
    refine x_weak (back (i + 1, a3, c3, q' ++ [(a1, c1, q[i].2.2)]) ⟨by dsimp only; omega, by
      show cont (q' ++ [(a1, c1, q[i].2.2)]) = _
      rw [List.take_succ_eq_append_getElem (by simpa [cont] using hi1), ← hq]; simp [cont]⟩ (by dsimp only; omega)) (by (repeat' (first | exact trivial | refine ⟨rfl, ?_⟩))) Sub.h
  · (refine r_nil ?_; refine x_false rfl ?_; refine x_exit rfl ?_; refine x_seq (x_region ?_); refine r_op (o_move rfl rfl ?_); refine r_op (o_assign rfl rfl ?_); refine r_nil ?_)
    have e : i = q.length := by omega
    rw [take_all _ _ (by simp [cont]; omega)] at hq
    refine x_ret rfl [A, CellsX a' c' q'] ⟨a', c', q', rfl, hq, rfl⟩ ?_
    exact (Ent.cells_in a' c' q' (A :: Γ)).trans Sub.h

theorem cellsSpoil_spec (a : Option Addr) (cap : Nat) (q : List BS) (hl : ∀ x ∈ q, x.2.2.length ≤ 2 ^ 45) (hlen : q.length ≤ 2 ^ 45) : Spec Try.prog 56 [.slice a q.length cap] [CellsX a cap q] (fun v B => v = .tuple #[] ∧ B = []) := by
  refine Spec.of_ex Try.func56 rfl Try.ntmps56 rfl fun E cs Γ => ?_
  (simp only [argRho, List.cons_append, List.nil_append])
  (refine x_seq (x_region ?_); refine r_op (o_assign rfl rfl ?_); refine r_nil ?_; refine x_block ?_)
  refine x_loop (α := Nat × List Value) (fun p => p.1 ≤ q.length ∧ p.2.length = q.length ∧ ∀ j, p.1 ≤ j → p.2[j]? = (q.map sv)[j]?) (fun p => [(0, .slice a q.length cap), (2, .int .i64 p.1)]) (fun p => Sl 1 a q.length cap p.2 :: Inn (q.drop p.1) :: Γ)
    (fun p => q.length - p.1) (0, q.map sv) ⟨Nat.zero_le _, by simp, fun _ _ => rfl⟩ ⟨rfl, rfl, trivial⟩ (Ent.cells_out a cap q Γ) ?_
  rintro ⟨i, vs⟩ ⟨hi, hvl, hvs⟩ back
  dsimp only at hi hvl hvs back ⊢
  have R := Sl.reads 1 a q.length cap vs (by omega)
  (refine x_seq ?_; refine x_seq (x_region ?_); refine r_op (o_move rfl rfl ?_); refine r_op (o_move rfl rfl ?_); refine r_op (o_lenS rfl rfl ?_))
  (refine r_op ?_)
  refine o_lss rfl rfl rfl (fun h => ?_) (fun h => ?_)
  · have hi1 : i < q.length := by omega
    have hv : vs[i]? = some (sv q[i]) := by rw [hvs i (Nat.le_refl _)]; exact mget sv hi1
    rw [List.drop_eq_getElem_cons hi1]
    (refine r_nil ?_; refine x_true rfl ?_; refine x_skip ?_; refine x_seq ?_; refine x_block ?_; refine x_seq (x_region ?_); refine r_op (o_move rfl rfl ?_); refine r_op (o_move rfl rfl ?_))
    (refine r_op ?_)
    refine o_indexR rfl rfl R (j := i) rfl hi1 rfl (fun b off ha => ?_)
    (refine r_op ?_)
    refine o_loadR rfl R ha (i := i) (by omega) hv rfl ?_
    refine r_mem (Γ' := sp q[i] :: Inn (q.drop (i + 1)) :: Sl 1 a q.length cap vs :: Γ) ?_ ?_
    · refine (Ent.perm (.swap _ _ _)).trans ((Ent.inn_pop _ _ _))
    (refine r_op ?_)
    refine o_call rfl (bytesSpoil_spec q[i].1 q[i].2.2.length q[i].2.1 (q[i].2.2.map fun x => (x.toNat : Int)) (by simp) (hl _ (List.getElem_mem hi1))) (T := by rw [← u8s_bv]; exact Takes.cons _ (sp q[i]) _ _ _) rfl ?_
    rintro v B ⟨rfl, rfl⟩
    simp only [List.nil_append]
    (refine r_nil ?_; refine x_region ?_; refine r_op (o_move rfl rfl ?_); refine r_op (o_move rfl rfl ?_))
    (refine r_op ?_)
    refine o_indexR rfl rfl R (j := i) rfl hi1 rfl (fun b' off' ha' => ?_)
    (refine r_do ?_)
    refine o_storeS rfl rfl rfl ha' (i := i) (by omega) (by omega) ?_
    (refine r_nil ?_; refine x_inBlock ?_; refine x_region ?_; refine r_op (o_move rfl rfl ?_))
    (refine r_op ?_)
    refine o_add rfl rfl (add_i64 (by omega)) rfl ?_
    (refine r_op (o_assign rfl rfl ?_); refine r_nil ?_)
    refine x_weak (back (i + 1, vs.set i (.slice none 0 0)) ⟨by dsimp only; omega, by simpa using hvl, fun j hj => by
      dsimp only at hj ⊢
      rw [List.getElem?_set_ne (by omega)]; exact hvs j (by omega)⟩ (by dsimp only; omega)) (by (repeat' (first | exact trivial | refine ⟨rfl, ?_⟩))) Sub.h
  · (refine r_nil ?_; refine x_false rfl ?_; refine x_exit rfl ?_)
    exact x_end [] ⟨rfl, rfl⟩ Sub.h
end Go.Proofs.Ythneebbmodkjiaa
