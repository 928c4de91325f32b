/- Part of a proof over the seat Ythneebbmodkjiaa: module D3. Its claim's last module says what is proved. -/
import Derived.Test.YthneebbmodkjiaaD2
namespace Go.Proofs.Ythneebbmodkjiaa
open Go.Proofs

abbrev iv (n : Int) : Value := .int .i64 n
theorem iv_one (q : List Int) : (q.map iv).all Value.oneCell' = true := by simp [Value.oneCell']
/-- An element's cell in rows of s cells each. -/
theorem fget {α : Type} {f : α → List Value} {s : Nat} (hf : ∀ x, (f x).length = s) : ∀ {l : List α} {i : Nat} (h : i < l.length) (j : Nat), j < s → (l.flatMap f)[i * s + j]? = (f l[i])[j]? := by
  intro l
  induction l with
  | nil => intro i h; simp at h
  | cons x l ih =>
    intro i h j hj
    rw [List.flatMap_cons]
    cases i with
    | zero => rw [List.getElem?_append_left (by rw [hf]; omega)]; simp
    | succ i =>
      rw [List.getElem?_append_right (by rw [hf, Nat.add_mul]; omega), hf, show (i + 1) * s + j - s = i * s + j by rw [Nat.add_mul]; omega]
      rw [ih (by simpa using h) j hj]; rfl
theorem flen {α : Type} {f : α → List Value} {s : Nat} (hf : ∀ x, (f x).length = s) : ∀ (l : List α), (l.flatMap f).length = l.length * s := by
  intro l
  induction l with
  | nil => simp
  | cons x l ih => rw [List.flatMap_cons, List.length_append, hf, ih, List.length_cons, Nat.add_mul]; omega
theorem fdrop {α : Type} {f : α → List Value} {s : Nat} (hf : ∀ x, (f x).length = s) : ∀ (l : List α) (i : Nat), (l.flatMap f).drop (i * s) = (l.drop i).flatMap f := by
  intro l
  induction l with
  | nil => intro i; simp
  | cons x l ih =>
    intro i
    cases i with
    | zero => simp
    | succ i =>
      rw [List.drop_succ_cons, ← ih, List.flatMap_cons, List.drop_append, hf, List.drop_eq_nil_of_le (by rw [hf, Nat.add_mul]; omega), Nat.add_mul]
      simp

theorem copyNumbers_spec {A : HP} {a : Option Addr} {len cap : Nat} {bs : List Int} (R : Reads A 1 a len (bs.map iv)) (hlen : len ≤ 2 ^ 40) :
    Spec Try.prog 53 [.slice a len cap] [A] (fun v B => ∃ a' cap', v = .slice a' len cap' ∧ B = [A, Sl 1 a' len cap' (bs.map iv)]) := by
  have hl : bs.length = len := by simpa using R.1
  refine Spec.of_ex Try.func53 rfl Try.ntmps53 rfl fun E cs Γ => ?_
  (simp only [argRho, List.cons_append, List.nil_append])
  (refine x_seq (x_region ?_); refine r_op (o_assign rfl rfl ?_); refine r_nil ?_; refine x_seq (x_region ?_); refine r_op (o_assign rfl rfl ?_); refine r_nil ?_; refine x_seq ?_; refine x_seq (x_region ?_); refine r_op (o_assign rfl rfl ?_); refine r_nil ?_; refine x_block ?_)
  refine x_loop (α := Nat × Option Addr × Nat) (fun p => p.1 ≤ len) (fun p => [(0, .slice a len cap), (3, .slice p.2.1 p.1 p.2.2), (4, .int .i64 p.1)]) (fun p => Sl 1 p.2.1 p.1 p.2.2 ((bs.take p.1).map iv) :: A :: Γ)
    (fun p => len - p.1) (0, none, 0) (Nat.zero_le _) ⟨rfl, rfl, rfl, trivial⟩ (Ent.nilSl _ _) ?_
  rintro ⟨i, a', c'⟩ hi back
  dsimp only at hi back ⊢
  (refine x_seq ?_; refine x_seq (x_region ?_); refine r_op (o_move rfl rfl ?_); refine r_op (o_move rfl rfl ?_); refine r_op (o_lenS rfl rfl ?_))
  (refine r_op ?_)
  refine o_lss rfl rfl rfl (fun h => ?_) (fun h => ?_)
  · (refine r_nil ?_; refine x_true rfl ?_; refine x_skip ?_; refine x_seq ?_; refine x_block ?_; refine x_region ?_; refine r_op (o_move rfl rfl ?_); refine r_op (o_move rfl rfl ?_); refine r_op (o_move rfl rfl ?_))
    (refine r_op ?_)
    refine o_indexR rfl rfl R (j := i) rfl (by omega) rfl (fun b off ha => ?_)
    (refine r_op ?_)
    refine o_loadR rfl R ha (i := i) (by omega) (mget iv (by omega)) rfl ?_
    (refine r_op ?_)
    refine o_buildSlice rfl (by rfl) (by rfl) (by rfl) (by rfl) rfl (fun a2 => ?_)
    (refine r_op ?_)
    refine o_appendT rfl rfl (by rfl) (by rfl) (by rfl) (by omega) rfl (fun a3 c3 hc => ?_)
    (refine r_op (o_assign rfl rfl ?_); refine r_nil ?_; refine x_inBlock ?_; refine x_region ?_; refine r_op (o_move rfl rfl ?_))
    (refine r_op ?_)
    refine o_add rfl rfl (add_i64 (by omega)) rfl ?_
    (refine r_op (o_assign rfl rfl ?_); refine r_nil ?_)
    rw [take_snoc iv bs i (by omega)]
    refine x_weak (back (i + 1, a3, c3) (by dsimp only; omega) (by dsimp only; omega)) (by (repeat' (first | exact trivial | refine ⟨rfl, ?_⟩))) Sub.h
  · (refine r_nil ?_; refine x_false rfl ?_; refine x_exit rfl ?_; refine x_seq (x_region ?_); refine r_op (o_move rfl rfl ?_); refine r_op (o_assign rfl rfl ?_); refine r_nil ?_)
    have e : i = len := by omega
    subst e
    rw [take_all bs _ (by omega)]
    exact x_ret rfl [A, Sl 1 a' _ c' (bs.map iv)] ⟨a', c', rfl, rfl⟩ Sub.h

theorem weight_spec {A : HP} {a : Option Addr} {cap : Nat} {q : List BS} (R : RdC A a q) (hc : q.length ≤ 2 ^ 63 - 1) : Spec Try.prog 101 [.slice a q.length cap] [A] (fun v B => (∃ n, v = .int .i64 n) ∧ B = [A]) := by
  refine Spec.of_ex Try.func101 rfl Try.ntmps101 rfl fun E cs Γ => ?_
  (simp only [argRho, List.cons_append, List.nil_append])
  (refine x_seq (x_region ?_); refine r_op (o_assign rfl rfl ?_); refine r_nil ?_; refine x_seq (x_region ?_); refine r_op (o_move rfl rfl ?_); refine r_op (o_lenS rfl rfl ?_); refine r_op (o_assign rfl rfl ?_); refine r_nil ?_; refine x_seq ?_; refine x_seq (x_region ?_); refine r_op (o_assign rfl rfl ?_); refine r_nil ?_; refine x_block ?_)
  refine x_loop (α := Nat × Int) (fun p => p.1 ≤ q.length) (fun p => [(0, .slice a q.length cap), (3, .int .i64 p.2), (4, .int .i64 p.1)]) (fun p => A :: Γ)
    (fun p => q.length - p.1) (0, (q.length : Int)) (Nat.zero_le _) ⟨rfl, rfl, rfl, trivial⟩ (.refl _) ?_
  rintro ⟨i, n⟩ hi back
  dsimp only at hi back ⊢
  (refine x_seq ?_; refine x_seq (x_region ?_); refine r_op (o_move rfl rfl ?_); refine r_op (o_move rfl rfl ?_); refine r_op (o_lenS rfl rfl ?_))
  (refine r_op ?_)
  refine o_lss rfl rfl rfl (fun h => ?_) (fun h => ?_)
  · (refine r_op (o_move rfl rfl ?_); refine r_guard rfl (o_move rfl rfl ?_))
    (refine r_guard rfl ?_)
    refine o_lss rfl rfl rfl (fun h2 => ?_) (fun h2 => ?_)
    · (refine r_op (o_pick_t rfl rfl rfl ?_); refine r_nil ?_; refine x_true rfl ?_; refine x_skip ?_; refine x_seq ?_; refine x_block ?_; refine x_region ?_; refine r_op (o_move rfl rfl ?_); refine r_op (o_move rfl rfl ?_); refine r_op (o_move rfl rfl ?_))
      (refine r_op ?_)
      refine o_indexR rfl rfl R.1 (j := i) rfl (by omega) rfl (fun b off ha => ?_)
      (refine r_op ?_)
      refine o_loadR rfl R.1 ha (i := i) (by omega) (mget sv (by omega)) rfl ?_
      (refine r_op (o_lenS rfl rfl ?_))
      (refine r_op ?_)
      refine o_addW rfl rfl rfl ?_
      (refine r_op (o_assign rfl rfl ?_); refine r_nil ?_; refine x_inBlock ?_; refine x_region ?_; refine r_op (o_move rfl rfl ?_))
      (refine r_op ?_)
      refine o_add rfl rfl (add_i64 (by omega)) rfl ?_
      (refine r_op (o_assign rfl rfl ?_); refine r_nil ?_)
      refine x_weak (back (i + 1, _) (by dsimp only; omega) (by dsimp only; omega)) (by (repeat' (first | exact trivial | refine ⟨rfl, ?_⟩))) Sub.h
    · (refine r_op (o_pick_t rfl rfl rfl ?_); refine r_nil ?_; refine x_false rfl ?_; refine x_exit rfl ?_; refine x_seq (x_region ?_); refine r_op (o_move rfl rfl ?_); refine r_op (o_assign rfl rfl ?_); refine r_nil ?_)
      exact x_ret rfl [A] ⟨⟨_, rfl⟩, rfl⟩ Sub.h
  · (refine r_op (o_move rfl rfl ?_); refine r_skip rfl rfl rfl ?_; refine r_skip rfl rfl rfl ?_; refine r_op (o_pick_f rfl rfl rfl ?_); refine r_nil ?_; refine x_false rfl ?_; refine x_exit rfl ?_; refine x_seq (x_region ?_); refine r_op (o_move rfl rfl ?_); refine r_op (o_assign rfl rfl ?_); refine r_nil ?_)
    exact x_ret rfl [A] ⟨⟨_, rfl⟩, rfl⟩ Sub.h

/-- An act of the disk's scripts. -/
structure AV where
  op : Int
  n : Int
  at' : Int
  k : Int
  b : BS
  pa : Option Addr
  pc : Nat
  ps : List Int
def AV.cells (x : AV) : List Value := [.int .i64 x.op, .int .i64 x.n, .int .i64 x.at', .int .i64 x.k, sv x.b, .slice x.pa x.ps.length x.pc]
theorem AV.cl (x : AV) : x.cells.length = 6 := rfl
def RdS (A : HP) (a : Option Addr) (l : List AV) : Prop := Reads A 6 a l.length (l.flatMap AV.cells) ∧ ∀ x ∈ l, Reads A 1 x.b.1 x.b.2.2.length (x.b.2.2.map bv) ∧ Reads A 1 x.pa x.ps.length (x.ps.map iv)
theorem RdS.cell {_A : HP} {_a : Option Addr} {l : List AV} {i : Nat} (h : i < l.length) (j : Nat) (hj : j < 6) : (l.flatMap AV.cells)[i * 6 + j]? = (l[i].cells)[j]? := fget AV.cl h j hj
/-- A script: files, acts. -/
structure SV where
  fa : Option Addr
  fc : Nat
  f : List BS
  la : Option Addr
  lc : Nat
  l : List AV
abbrev SV.cells (p : SV) : List Value := [.slice p.fa p.f.length p.fc, .slice p.la p.l.length p.lc]
def SV.val (p : SV) : Value := .agg p.cells.toArray
structure SV.Rd (A : HP) (p : SV) : Prop where
  f : RdC A p.fa p.f
  l : RdS A p.la p.l
  fb : p.f.length ≤ 2 ^ 63 - 1
  lb : p.l.length ≤ 2 ^ 63 - 1

theorem heavy9_spec {A : HP} {p : SV} (R : SV.Rd A p) : Spec Try.prog 35 [p.val] [A] (fun v B => (∃ b, v = .bool b) ∧ B = [A]) := by
  refine Spec.of_ex Try.func35 rfl Try.ntmps35 rfl fun E cs Γ => ?_
  (simp only [argRho, List.cons_append, List.nil_append])
  (refine x_seq ?_); (refine x_region ?_)
  (refine r_op ?_)
  refine o_boxA (vs := p.cells) rfl rfl (fun b0 => ?_)
  (refine r_op (o_assign rfl rfl ?_); refine r_nil ?_; refine x_seq (x_region ?_); refine r_op (o_fieldAddr rfl rfl ?_); refine r_op (o_load rfl rfl rfl rfl ?_))
  (refine r_op ?_)
  refine o_call rfl (weight_spec R.f R.fb) rfl ?_
  rintro v B ⟨⟨n0, rfl⟩, rfl⟩
  (simp only [List.cons_append, List.nil_append])
  (refine r_op (o_assign rfl rfl ?_); refine r_nil ?_; refine x_seq ?_; refine x_seq (x_region ?_); refine r_op (o_assign rfl rfl ?_); refine r_nil ?_; refine x_block ?_)
  refine x_loop (α := Nat × Int) (fun q => q.1 ≤ p.l.length) (fun q => [(1, .pointer (some ⟨b0, 0, none⟩)), (3, .int .i64 q.2), (4, .int .i64 q.1)]) (fun q => A :: Row b0 0 p.cells :: Γ)
    (fun q => p.l.length - q.1) (0, n0) (Nat.zero_le _) ⟨rfl, rfl, rfl, trivial⟩ Sub.h ?_
  rintro ⟨i, n⟩ hi back
  have lb := R.lb
  dsimp only at hi back ⊢
  (refine x_seq ?_; refine x_seq (x_region ?_); refine r_op (o_move rfl rfl ?_); refine r_op (o_fieldAddr rfl rfl ?_); refine r_op (o_load rfl rfl rfl rfl ?_); refine r_op (o_lenS rfl rfl ?_))
  (refine r_op ?_)
  refine o_lss rfl rfl rfl (fun h => ?_) (fun h => ?_)
  · (refine r_op (o_move rfl rfl ?_); refine r_guard rfl (o_move rfl rfl ?_))
    (refine r_guard rfl ?_)
    refine o_lss rfl rfl rfl (fun h2 => ?_) (fun h2 => ?_)
    · have hi1 : i < p.l.length := by omega
      (refine r_op (o_pick_t rfl rfl rfl ?_); refine r_nil ?_; refine x_true rfl ?_; refine x_skip ?_; refine x_seq ?_; refine x_block ?_)
      refine x_base R.l.1 (by omega) fun b off ha => ?_
      refine x_script 16 [(0,false),(1,false),(2,false),(3,false),(4,false),(5,false),(6,false),(7,false),(8,false),(9,false),(10,false),(11,false),(12,false),(13,false),(14,false),(15,false),(16,false),(17,false)] [A, Row b0 0 p.cells] mixed (by kernel_rfl) permF ?_
      (refine s_v rfl (v_move rfl) ?_)
      (refine s_v rfl (v_fieldAddr rfl) ?_)
      (refine s_v rfl (v_load rfl rfl rfl) ?_)
      (refine s_v rfl (v_move rfl) ?_)
      refine s_v rfl (v_indexH rfl rfl ha (j := i) rfl (by omega)) ?_
      (refine s_v rfl (v_fieldAddr rfl) ?_)
      refine s_v rfl (v_loadR rfl R.l.1 ha (i := i * 6 + 4) (by omega) ((RdS.cell (_A := A) (_a := none) hi1 4 (by decide)).trans rfl)) ?_
      (refine s_v rfl (v_lenS rfl) ?_)
      refine s_v rfl (v_addW rfl rfl) ?_
      (refine s_v rfl (v_fieldAddr rfl) ?_)
      (refine s_v rfl (v_load rfl rfl rfl) ?_)
      (refine s_v rfl (v_move rfl) ?_)
      refine s_v rfl (v_indexH rfl rfl ha (j := i) rfl (by omega)) ?_
      (refine s_v rfl (v_fieldAddr rfl) ?_)
      refine s_v rfl (v_loadR rfl R.l.1 ha (i := i * 6 + 5) (by omega) ((RdS.cell (_A := A) (_a := none) hi1 5 (by decide)).trans rfl)) ?_
      (refine s_v rfl (v_lenS rfl) ?_)
      refine s_v rfl (v_addW rfl rfl) ?_
      (refine s_v rfl (v_assign rfl) ?_)
      refine s_end rfl ?_
      (refine x_inBlock ?_; refine x_region ?_; refine r_op (o_move rfl rfl ?_))
      (refine r_op ?_)
      refine o_add rfl rfl (add_i64 (by omega)) rfl ?_
      (refine r_op (o_assign rfl rfl ?_); refine r_nil ?_)
      refine x_weak (back (i + 1, _) (by dsimp only; omega) (by dsimp only; omega)) (by (repeat' (first | exact trivial | refine ⟨rfl, ?_⟩))) Sub.h
    · (refine r_op (o_pick_t rfl rfl rfl ?_); refine r_nil ?_; refine x_false rfl ?_; refine x_exit rfl ?_; refine x_seq (x_region ?_); refine r_op (o_move rfl rfl ?_))
      (refine r_op ?_)
      refine o_gtr rfl rfl rfl (fun h3 => ?_) (fun h3 => ?_)
      · (refine r_op (o_move rfl rfl ?_); refine r_skip rfl rfl rfl ?_; refine r_skip rfl rfl rfl ?_; refine r_skip rfl rfl rfl ?_; refine r_skip rfl rfl rfl ?_; refine r_op (o_pick_t rfl rfl rfl ?_); refine r_op (o_assign rfl rfl ?_); refine r_nil ?_)
        exact x_ret rfl [A] ⟨⟨_, rfl⟩, rfl⟩ Sub.h
      · (refine r_op (o_move rfl rfl ?_); refine r_guard rfl (o_fieldAddr rfl rfl ?_); refine r_guard rfl (o_load rfl rfl rfl rfl ?_); refine r_guard rfl (o_lenS rfl rfl ?_))
        (refine r_guard rfl ?_)
        refine o_gtr rfl rfl rfl (fun h4 => ?_) (fun h4 => ?_)
        all_goals
          (refine r_op (o_pick_f rfl rfl rfl ?_); refine r_op (o_assign rfl rfl ?_); refine r_nil ?_)
          exact x_ret rfl [A] ⟨⟨_, rfl⟩, rfl⟩ Sub.h
  · (refine r_op (o_move rfl rfl ?_); refine r_skip rfl rfl rfl ?_; refine r_skip rfl rfl rfl ?_; refine r_op (o_pick_f rfl rfl rfl ?_); refine r_nil ?_; refine x_false rfl ?_; refine x_exit rfl ?_; refine x_seq (x_region ?_); refine r_op (o_move rfl rfl ?_))
    (refine r_op ?_)
    refine o_gtr rfl rfl rfl (fun h3 => ?_) (fun h3 => ?_)
    · (refine r_op (o_move rfl rfl ?_); refine r_skip rfl rfl rfl ?_; refine r_skip rfl rfl rfl ?_; refine r_skip rfl rfl rfl ?_; refine r_skip rfl rfl rfl ?_; refine r_op (o_pick_t rfl rfl rfl ?_); refine r_op (o_assign rfl rfl ?_); refine r_nil ?_)
      exact x_ret rfl [A] ⟨⟨_, rfl⟩, rfl⟩ Sub.h
    · (refine r_op (o_move rfl rfl ?_); refine r_guard rfl (o_fieldAddr rfl rfl ?_); refine r_guard rfl (o_load rfl rfl rfl rfl ?_); refine r_guard rfl (o_lenS rfl rfl ?_))
      (refine r_guard rfl ?_)
      refine o_gtr rfl rfl rfl (fun h4 => ?_) (fun h4 => ?_)
      all_goals
        (refine r_op (o_pick_f rfl rfl rfl ?_); refine r_op (o_assign rfl rfl ?_); refine r_nil ?_)
        exact x_ret rfl [A] ⟨⟨_, rfl⟩, rfl⟩ Sub.h
end Go.Proofs.Ythneebbmodkjiaa
