/- Part of a proof over the seat Ythneebbmodkjiaa: module D4. Its claim's last module says what is proved. -/
import Derived.Test.YthneebbmodkjiaaD3
namespace Go.Proofs.Ythneebbmodkjiaa
open Go.Proofs

theorem tooLong_spec (a : Option Addr) (len cap : Nat) : Spec Try.prog 94 [.slice a len cap] [] (fun v B => v = .bool (decide (131072 < len)) ∧ B = []) := by
  refine Spec.of_ex Try.func94 rfl Try.ntmps94 rfl fun E cs Γ => ?_
  (simp only [argRho, List.nil_append])
  (refine x_seq (x_region ?_); refine r_op (o_assign rfl rfl ?_); refine r_nil ?_; refine x_seq (x_region ?_); refine r_op (o_move rfl rfl ?_); refine r_op (o_lenS rfl rfl ?_))
  (refine r_op ?_)
  refine o_gtr rfl rfl rfl (fun h => ?_) (fun h => ?_)
  all_goals
    (refine r_op (o_assign rfl rfl ?_); refine r_nil ?_)
    exact x_ret rfl [] ⟨by simp [retV]; omega, rfl⟩ Sub.h

def tooLong (q : List BS) : Bool := q.any fun x => decide (131072 < x.2.2.length)
theorem index_spec {A : HP} {a : Option Addr} {cap : Nat} {q : List BS} (R : RdC A a q) (hc : q.length ≤ 2 ^ 63 - 1) :
    Spec Try.prog 117 [.slice a q.length cap, .func (.func 94) #[] #[]] [A] (fun v B => (∃ n : Int, v = .int .i64 n ∧ (0 ≤ n ↔ tooLong q = true)) ∧ B = [A]) := by
  refine Spec.of_ex Try.func117 rfl Try.ntmps117 rfl fun E cs Γ => ?_
  (simp only [argRho, Nat.reduceAdd, List.cons_append, List.nil_append])
  (refine x_seq (x_region ?_); refine r_op (o_assign rfl rfl ?_); refine r_nil ?_; refine x_seq ?_; refine x_seq (x_region ?_); refine r_op (o_move rfl rfl ?_); refine r_op (o_lenS rfl rfl ?_); refine r_op (o_move rfl rfl ?_); refine r_nil ?_; refine x_block ?_)
  refine x_loop (α := Nat) (fun i => i ≤ q.length ∧ tooLong (q.take i) = false) (fun i => [(0, .slice a q.length cap), (1, .func (.func 94) #[] #[]), (7, .int .i64 q.length), (8, .int .i64 i)]) (fun i => A :: Γ)
    (fun i => q.length - i) 0 ⟨Nat.zero_le _, rfl⟩ ⟨rfl, rfl, rfl, rfl, trivial⟩ (.refl _) ?_
  rintro i ⟨hi, hp⟩ back
  (refine x_seq (x_region ?_))
  (refine r_op ?_)
  refine o_lss rfl rfl rfl (fun h => ?_) (fun h => ?_)
  · have hi1 : i < q.length := by omega
    (refine r_nil ?_; refine x_seq ?_; refine x_true rfl ?_; refine x_skip ?_; refine x_seq ?_; refine x_block ?_; refine x_seq (x_region ?_); refine r_op (o_move rfl rfl ?_); refine r_op (o_assign rfl rfl ?_); refine r_nil ?_; refine x_seq (x_region ?_); refine r_op (o_move rfl rfl ?_); refine r_op (o_move rfl rfl ?_); refine r_op (o_move rfl rfl ?_))
    (refine r_op ?_)
    refine o_indexR rfl rfl R.1 (j := i) rfl hi1 rfl (fun b off ha => ?_)
    (refine r_op ?_)
    refine o_loadR rfl R.1 ha (i := i) (by omega) (mget sv hi1) rfl ?_
    (refine r_op ?_)
    refine o_callF (fs := []) (caps := []) rfl rfl (tooLong_spec q[i].1 q[i].2.2.length q[i].2.1) rfl ?_
    rintro v B ⟨rfl, rfl⟩
    (simp only [List.nil_append])
    have e : tooLong (q.take (i + 1)) = decide (131072 < q[i].2.2.length) := by
      unfold tooLong at hp ⊢
      rw [List.take_succ_eq_append_getElem hi1, List.any_append, hp]; simp
    by_cases hx : 131072 < q[i].2.2.length
    · simp only [hx, decide_true]
      (refine r_nil ?_; refine x_true rfl ?_; refine x_seq (x_region ?_); refine r_op (o_move rfl rfl ?_); refine r_op (o_assign rfl rfl ?_); refine r_nil ?_)
      refine x_ret rfl [A] ⟨⟨i, rfl, ?_⟩, rfl⟩ Sub.h
      have e2 : tooLong q = true := by
        unfold tooLong
        rw [List.any_eq_true]
        exact ⟨q[i], List.getElem_mem hi1, by simpa using hx⟩
      simp [e2]
    · simp only [hx, decide_false]
      (refine r_nil ?_; refine x_false rfl ?_; refine x_skip ?_; refine x_inBlock ?_; refine x_region ?_)
      (refine r_op ?_)
      refine o_add rfl rfl (add_i64 (by omega)) rfl ?_
      (refine r_op (o_move rfl rfl ?_); refine r_nil ?_)
      refine x_weak (back (i + 1) ⟨by omega, by rw [e]; simpa using hx⟩ (by omega)) (by (repeat' (first | exact trivial | refine ⟨rfl, ?_⟩))) Sub.h
  · (refine r_nil ?_; refine x_seq ?_; refine x_false rfl ?_; refine x_exit rfl ?_; refine x_seq (x_region ?_); refine r_op (o_assign rfl rfl ?_); refine r_nil ?_)
    rw [take_all _ _ (by omega)] at hp
    exact x_ret rfl [A] ⟨⟨-1, rfl, by simp [hp]⟩, rfl⟩ Sub.h

theorem contains_spec {A : HP} {a : Option Addr} {cap : Nat} {q : List BS} (R : RdC A a q) (hc : q.length ≤ 2 ^ 63 - 1) :
    Spec Try.prog 93 [.slice a q.length cap, .func (.func 94) #[] #[]] [A] (fun v B => v = .bool (tooLong q) ∧ B = [A]) := by
  refine Spec.of_ex Try.func93 rfl Try.ntmps93 rfl fun E cs Γ => ?_
  (simp only [argRho, Nat.reduceAdd, List.cons_append, List.nil_append])
  (refine x_seq (x_region ?_); refine r_op (o_assign rfl rfl ?_); refine r_nil ?_; refine x_seq (x_region ?_); refine r_op (o_move rfl rfl ?_); refine r_op (o_move rfl rfl ?_))
  (refine r_op ?_)
  refine o_call rfl (index_spec R hc) rfl ?_
  rintro v B ⟨⟨n, rfl, hn⟩, rfl⟩
  (simp only [List.cons_append, List.nil_append])
  (refine r_op ?_)
  refine o_geq rfl rfl rfl (fun h => ?_) (fun h => ?_)
  · (refine r_op (o_assign rfl rfl ?_); refine r_nil ?_)
    exact x_ret rfl [A] ⟨by simp [retV, hn.1 h], rfl⟩ Sub.h
  · (refine r_op (o_assign rfl rfl ?_); refine r_nil ?_)
    exact x_ret rfl [A] ⟨by simp [retV]; cases ht : tooLong q with
      | false => rfl
      | true => exact absurd (hn.2 ht) h, rfl⟩ Sub.h

/-! ### A numbered row of parts -/
def Arr {α : Type} (G : Nat → α → HP) : Nat → List α → List HP
  | _, [] => []
  | k, x :: xs => G k x :: Arr G (k + 1) xs
theorem Arr.focus {α : Type} (G : Nat → α → HP) : ∀ (xs : List α) (k i : Nat) (h : i < xs.length), (Arr G k xs).Perm (G (k + i) xs[i] :: (Arr G k xs).eraseIdx i) := by
  intro xs
  induction xs with
  | nil => intro k i h; simp at h
  | cons x xs ih =>
    intro k i h
    cases i with
    | zero => exact .refl _
    | succ i =>
      have := ih (k + 1) i (by simpa using h)
      unfold Arr
      rw [List.eraseIdx_cons_succ, show k + (i + 1) = k + 1 + i by omega]
      exact (this.cons _).trans (.swap _ _ _)
theorem Arr.erase_set {α : Type} (G : Nat → α → HP) (y : α) : ∀ (xs : List α) (k i : Nat), (Arr G k (xs.set i y)).eraseIdx i = (Arr G k xs).eraseIdx i := by
  intro xs
  induction xs with
  | nil => intro k i; rfl
  | cons x xs ih =>
    intro k i
    cases i with
    | zero => rfl
    | succ i => rw [List.set_cons_succ]; unfold Arr; rw [List.eraseIdx_cons_succ, List.eraseIdx_cons_succ, ih]
theorem Arr.length {α : Type} (G : Nat → α → HP) : ∀ (xs : List α) (k : Nat), (Arr G k xs).length = xs.length := by
  intro xs
  induction xs with
  | nil => intro k; rfl
  | cons x xs ih => intro k; unfold Arr; simp [ih]
def Parts {α : Type} (G : Nat → α → HP) (xs : List α) : HP := Sep (Arr G 0 xs)
def Hole {α : Type} (G : Nat → α → HP) (xs : List α) (i : Nat) : HP := Sep ((Arr G 0 xs).eraseIdx i)
theorem Ent.focus {α : Type} (G : Nat → α → HP) (xs : List α) (i : Nat) (h : i < xs.length) (Γ : List HP) : Ent (Parts G xs :: Γ) (G i xs[i] :: Hole G xs i :: Γ) := by
  refine (Ent.sep_out _ _).trans ((Ent.perm ((Arr.focus G xs 0 i h).append_right Γ)).trans ?_)
  rw [Nat.zero_add]
  exact Ent.cons _ (Ent.sep_in _ _)
theorem Ent.unfocus {α : Type} (G : Nat → α → HP) (xs : List α) (i : Nat) (y : α) (h : i < xs.length) (Γ : List HP) : Ent (G i y :: Hole G xs i :: Γ) (Parts G (xs.set i y) :: Γ) := by
  refine (Ent.cons _ (Ent.sep_out _ _)).trans (Ent.trans (Ent.perm ?_) (Ent.sep_in _ _))
  have := Arr.focus G (xs.set i y) 0 i (by simpa using h)
  rw [Arr.erase_set, Nat.zero_add, List.getElem_set_self] at this
  exact (this.append_right Γ).symm
theorem Ent.unfocus' {α : Type} (G : Nat → α → HP) (xs : List α) (i : Nat) (h : i < xs.length) (Γ : List HP) : Ent (G i xs[i] :: Hole G xs i :: Γ) (Parts G xs :: Γ) := by
  have := Ent.unfocus G xs i xs[i] h Γ
  simpa using this
theorem Ent.pop {α : Type} (G : Nat → α → HP) (k : Nat) (x : α) (xs : List α) (Γ : List HP) : Ent (Sep (Arr G k (x :: xs)) :: Γ) (G k x :: Sep (Arr G (k + 1) xs) :: Γ) :=
  (Ent.sep_out _ _).trans (Ent.cons _ (Ent.sep_in _ _))
theorem Arr.append {α : Type} (G : Nat → α → HP) : ∀ (xs ys : List α) (k : Nat), Arr G k (xs ++ ys) = Arr G k xs ++ Arr G (k + xs.length) ys := by
  intro xs
  induction xs with
  | nil => intro ys k; rfl
  | cons x xs ih =>
    intro ys k
    have := ih ys (k + 1)
    rw [show k + 1 + xs.length = k + (x :: xs).length by simp; omega] at this
    show G k x :: Arr G (k + 1) (xs ++ ys) = _
    rw [this]; rfl

/-! ### The disk, plain -/
structure Ch where
  cut : Bool
  at' : Nat
  b : List UInt8
structure Fl where
  safe : List UInt8
  chg : List Ch
  now : List UInt8
structure Dk where
  fs : List Fl
  off : Bool
  uo : Nat
  ub : Nat
def Dk.asks (d : Dk) (f : Int) : Int := if d.off then 13 else if f < 0 ∨ 8 ≤ f then 3 else 0
/-- A call that counts: the flags behind it. -/
def Dk.step (d : Dk) : Dk := if d.off then d else { d with off := decide (d.uo = 1), uo := d.uo - 1, ub := d.ub - 1 }
def Dk.counts (d : Dk) (f : Int) : Int := if d.off then 13 else if d.uo = 1 then 13 else if d.ub = 1 then 14 else if f < 0 ∨ 8 ≤ f then 3 else 0

/-! ### The disk as it lies -/
abbrev Flags (b : Nat) (off : Bool) (uo ub : Nat) : HP := Row b 24 [.bool off, .int .i64 uo, .int .i64 ub]
/-- A change with where its bytes lie. -/
structure CX where
  cut : Bool
  at' : Nat
  s : BS
def CX.abs (x : CX) : Ch := ⟨x.cut, x.at', x.s.2.2⟩
def CX.cells (x : CX) : List Value := [.bool x.cut, .int .i64 x.at', sv x.s]
theorem CX.cl (x : CX) : x.cells.length = 3 := rfl
theorem CX.one (q : List CX) : (q.flatMap CX.cells).all Value.oneCell' = true := by
  simp [CX.cells, Value.oneCell', List.all_flatMap]
/-- A file's parts: safe, changes, now. -/
structure FX where
  safe : BS
  ca : Option Addr
  cc : Nat
  chg : List CX
  now : BS
def FX.abs (x : FX) : Fl := ⟨x.safe.2.2, x.chg.map CX.abs, x.now.2.2⟩
abbrev FX.cells (x : FX) : List Value := [sv x.safe, .slice x.ca x.chg.length x.cc, sv x.now]
def FileI (b : Nat) (i : Nat) (x : FX) : HP := Sep [Row b (i * 3) x.cells, sp x.safe, sp x.now, Sl 3 x.ca x.chg.length x.cc (x.chg.flatMap CX.cells), Inn (x.chg.map CX.s)]
theorem Ent.file_out (b i : Nat) (x : FX) (Γ : List HP) : Ent (FileI b i x :: Γ) (Row b (i * 3) x.cells :: sp x.safe :: sp x.now :: Sl 3 x.ca x.chg.length x.cc (x.chg.flatMap CX.cells) :: Inn (x.chg.map CX.s) :: Γ) := Ent.sep_out _ _
theorem Ent.file_in (b i : Nat) (x : FX) (Γ : List HP) : Ent (Row b (i * 3) x.cells :: sp x.safe :: sp x.now :: Sl 3 x.ca x.chg.length x.cc (x.chg.flatMap CX.cells) :: Inn (x.chg.map CX.s) :: Γ) (FileI b i x :: Γ) := Ent.sep_in [_, _, _, _, _] _
abbrev FilesX (b : Nat) (fs : List FX) : HP := Parts (FileI b) fs
def fabs (fs : List FX) : List Fl := fs.map FX.abs
/-- A disk of the program. -/
def DiskI (b : Nat) (d : Dk) : HP := Any fun fs : List FX => Fact (fabs fs = d.fs ∧ fs.length = 8 ∧ d.uo ≤ 9223372036854775807 ∧ d.ub ≤ 9223372036854775807) (Sep [Flags b d.off d.uo d.ub, FilesX b fs])
abbrev dp (b : Nat) : Value := .pointer (some ⟨b, 0, none⟩)

theorem asks_spec (b : Nat) (off : Bool) (uo ub : Nat) (f : Int) : Spec Try.prog 102 [dp b, .int .i64 f] [Flags b off uo ub] (fun v B => v = .int .i64 (Dk.asks ⟨[], off, uo, ub⟩ f) ∧ B = [Flags b off uo ub]) := by
  refine Spec.of_ex Try.func102 rfl Try.ntmps102 rfl fun E cs Γ => ?_
  (simp only [argRho, Nat.reduceAdd, List.cons_append, List.nil_append])
  cases off
  · (refine x_seq (x_region ?_); refine r_op (o_assign rfl rfl ?_); refine r_nil ?_; refine x_seq ?_; refine x_block ?_; refine x_seq (x_region ?_); refine r_op (o_move rfl rfl ?_); refine r_op (o_nilCheck rfl rfl ?_); refine r_op (o_fieldAddr rfl rfl ?_); refine r_op (o_load rfl rfl rfl rfl ?_); refine r_op (o_assign rfl rfl ?_); refine r_nil ?_; refine x_false rfl ?_; refine x_seq (x_region ?_); refine r_op (o_move rfl rfl ?_))
    (refine r_op ?_)
    refine o_lss rfl rfl rfl (fun h => ?_) (fun h => ?_)
    · (refine r_op (o_move rfl rfl ?_); refine r_skip rfl rfl rfl ?_; refine r_skip rfl rfl rfl ?_; refine r_op (o_pick_t rfl rfl rfl ?_); refine r_op (o_assign rfl rfl ?_); refine r_nil ?_; refine x_true rfl ?_; refine x_seq (x_region ?_); refine r_op (o_assign rfl rfl ?_); refine r_nil ?_)
      exact x_ret rfl [_] ⟨by simp [retV, Dk.asks, h], rfl⟩ Sub.h
    · (refine r_op (o_move rfl rfl ?_); refine r_guard rfl (o_move rfl rfl ?_))
      (refine r_guard rfl ?_)
      refine o_geq rfl rfl rfl (fun h' => ?_) (fun h' => ?_)
      · (refine r_op (o_pick_f rfl rfl rfl ?_); refine r_op (o_assign rfl rfl ?_); refine r_nil ?_; refine x_true rfl ?_; refine x_seq (x_region ?_); refine r_op (o_assign rfl rfl ?_); refine r_nil ?_)
        exact x_ret rfl [_] ⟨by simp [retV, Dk.asks, h'], rfl⟩ Sub.h
      · (refine r_op (o_pick_f rfl rfl rfl ?_); refine r_op (o_assign rfl rfl ?_); refine r_nil ?_; refine x_false rfl ?_; refine x_skip ?_; refine x_inBlock ?_; refine x_seq (x_region ?_); refine r_op (o_assign rfl rfl ?_); refine r_nil ?_)
        exact x_ret rfl [_] ⟨by simp [retV, Dk.asks, h, h'], rfl⟩ Sub.h
  · (refine x_seq (x_region ?_); refine r_op (o_assign rfl rfl ?_); refine r_nil ?_; refine x_seq ?_; refine x_block ?_; refine x_seq (x_region ?_); refine r_op (o_move rfl rfl ?_); refine r_op (o_nilCheck rfl rfl ?_); refine r_op (o_fieldAddr rfl rfl ?_); refine r_op (o_load rfl rfl rfl rfl ?_); refine r_op (o_assign rfl rfl ?_); refine r_nil ?_; refine x_true rfl ?_; refine x_seq (x_region ?_); refine r_op (o_assign rfl rfl ?_); refine r_nil ?_)
    exact x_ret rfl [_] ⟨by simp [retV, Dk.asks], rfl⟩ Sub.h

theorem Ent.row_eq {b o : Nat} {vs us : List Value} (h : vs = us) (Γ : List HP) : Ent (Row b o vs :: Γ) (Row b o us :: Γ) := h ▸ .refl _

set_option maxHeartbeats 1600000 in
theorem counts_spec (b : Nat) (off : Bool) (uo ub : Nat) (f : Int) (h1 : uo ≤ 9223372036854775807) (h2 : ub ≤ 9223372036854775807) : Spec Try.prog 96 [dp b, .int .i64 f] [Flags b off uo ub]
    (fun v B => v = .int .i64 (Dk.counts ⟨[], off, uo, ub⟩ f) ∧ B = [Flags b (Dk.step ⟨[], off, uo, ub⟩).off (Dk.step ⟨[], off, uo, ub⟩).uo (Dk.step ⟨[], off, uo, ub⟩).ub]) := by
  refine Spec.of_ex Try.func96 rfl Try.ntmps96 rfl fun E cs Γ => ?_
  (simp only [argRho, Nat.reduceAdd, List.cons_append, List.nil_append])
  cases off
  · have hu : uo = 0 ∨ uo = 1 ∨ 2 ≤ uo := by omega
    have hb : ub = 0 ∨ ub = 1 ∨ 2 ≤ ub := by omega
    rcases hu with hu | hu | hu <;> rcases hb with hb | hb | hb
    all_goals
      (repeat (first | (first | refine x_seq ?_ | refine x_region ?_ | refine r_nil ?_ | refine x_block ?_ | refine x_skip ?_ | refine x_inBlock ?_ | refine x_true rfl ?_ | refine x_false rfl ?_ | refine x_exit rfl ?_ | refine x_scope ?_ | refine x_inScope ?_ | refine x_label ?_ | refine r_skip rfl rfl rfl ?_ | refine r_skip' rfl rfl ?_) | ((first | refine r_op ?_ | refine r_do ?_ | refine r_guard rfl ?_); first | (first | refine o_move rfl rfl ?_ | refine o_assign rfl rfl ?_ | refine o_load rfl rfl rfl rfl ?_ | refine o_fieldAddr rfl rfl ?_ | refine o_nilCheck rfl rfl ?_ | refine o_lenS rfl rfl ?_ | refine o_lenStr rfl rfl ?_ | refine o_pick_t rfl rfl rfl ?_ | refine o_pick_f rfl rfl rfl ?_ | refine o_not rfl rfl ?_ | refine o_extract rfl rfl rfl ?_ | refine o_field rfl rfl rfl ?_) | (first | refine o_lss_t rfl rfl (by omega) rfl ?_ | refine o_lss_f rfl rfl (by omega) rfl ?_ | refine o_leq_t rfl rfl (by omega) rfl ?_ | refine o_leq_f rfl rfl (by omega) rfl ?_ | refine o_gtr_t rfl rfl (by omega) rfl ?_ | refine o_gtr_f rfl rfl (by omega) rfl ?_ | refine o_geq_t rfl rfl (by omega) rfl ?_ | refine o_geq_f rfl rfl (by omega) rfl ?_ | refine o_eql_t rfl rfl (by omega) rfl ?_ | refine o_eql_f rfl rfl (by omega) rfl ?_ | refine o_neq_t rfl rfl (by omega) rfl ?_ | refine o_neq_f rfl rfl (by omega) rfl ?_) | (first | refine o_add rfl rfl (add_i64 (by omega)) rfl ?_ | refine o_sub rfl rfl (sub_i64 (by omega)) rfl ?_ | refine o_max rfl rfl rfl ?_ | refine o_min rfl rfl rfl ?_) | (refine o_store rfl rfl rfl rfl (by simp) ?_; try dsimp only [Nat.reduceSub, Nat.reduceAdd, List.set]))))
      first
      | exact x_ret rfl [_] ⟨by simp [retV, Dk.counts]; omega, rfl⟩ ((Ent.row_eq (us := [.bool (Dk.step ⟨[], false, uo, ub⟩).off, .int .i64 (Dk.step ⟨[], false, uo, ub⟩).uo, .int .i64 (Dk.step ⟨[], false, uo, ub⟩).ub]) (by simp [Dk.step]; omega) _).trans Sub.h)
      | (refine r_mem (Γ' := Flags b (Dk.step ⟨[], false, uo, ub⟩).off (Dk.step ⟨[], false, uo, ub⟩).uo (Dk.step ⟨[], false, uo, ub⟩).ub :: Γ) (Ent.row_eq (by simp [Dk.step]; omega) _) ?_
         (refine r_op ?_)
         refine o_call rfl (asks_spec b (Dk.step ⟨[], false, uo, ub⟩).off (Dk.step ⟨[], false, uo, ub⟩).uo (Dk.step ⟨[], false, uo, ub⟩).ub f) rfl ?_
         rintro v B ⟨rfl, rfl⟩
         (simp only [List.cons_append, List.nil_append])
         (refine r_op (o_assign rfl rfl ?_); refine r_nil ?_)
         exact x_ret rfl [_] ⟨by simp [retV, Dk.counts, Dk.asks, Dk.step] <;> omega, rfl⟩ Sub.h)
  · (refine x_seq (x_region ?_); refine r_op (o_assign rfl rfl ?_); refine r_nil ?_; refine x_seq ?_; refine x_seq (x_region ?_); refine r_op (o_move rfl rfl ?_); refine r_op (o_nilCheck rfl rfl ?_); refine r_op (o_fieldAddr rfl rfl ?_); refine r_op (o_load rfl rfl rfl rfl ?_); refine r_nil ?_; refine x_true rfl ?_; refine x_seq (x_region ?_); refine r_op (o_assign rfl rfl ?_); refine r_nil ?_)
    exact x_ret rfl [_] ⟨by simp [retV, Dk.counts], rfl⟩ ((Ent.row_eq (us := [.bool (Dk.step ⟨[], true, uo, ub⟩).off, .int .i64 (Dk.step ⟨[], true, uo, ub⟩).uo, .int .i64 (Dk.step ⟨[], true, uo, ub⟩).ub]) (by simp [Dk.step]) _).trans Sub.h)
end Go.Proofs.Ythneebbmodkjiaa

namespace Go.Proofs.Ythneebbmodkjiaa
open Go.Proofs

def Dk.file (d : Dk) (f : Int) : Fl := d.fs.getD f.toNat ⟨[], [], []⟩
/-- How the files of a disk may lie. -/
abbrev LX (d : Dk) : Type := { fs : List FX // fabs fs = d.fs ∧ fs.length = 8 ∧ d.uo ≤ 9223372036854775807 ∧ d.ub ≤ 9223372036854775807 }
theorem St.disk {E : Env} {b : Nat} {d : Dk} {Γ : List HP} {w : World} (s : St E (DiskI b d :: Γ) w) : ∃ fs : LX d, St E (Flags b d.off d.uo d.ub :: FilesX b fs.1 :: Γ) w := by
  obtain ⟨fs, s⟩ := s.ex
  obtain ⟨h, s⟩ := s.fact
  exact ⟨⟨fs, h⟩, (Ent.sep_out [_, _] Γ).st s⟩
theorem Ent.disk' {b : Nat} {d : Dk} (fs : List FX) (h : fabs fs = d.fs ∧ fs.length = 8 ∧ d.uo ≤ 9223372036854775807 ∧ d.ub ≤ 9223372036854775807) (Γ : List HP) : Ent (Flags b d.off d.uo d.ub :: FilesX b fs :: Γ) (DiskI b d :: Γ) := by
  refine (Ent.sep_in [_, _] Γ).trans ?_
  exact (Ent.fact h Γ).trans (Ent.ex (A := fun fs : List FX => Fact (fabs fs = d.fs ∧ fs.length = 8 ∧ d.uo ≤ 9223372036854775807 ∧ d.ub ≤ 9223372036854775807) (Sep [Flags b d.off d.uo d.ub, FilesX b fs])) fs Γ)
theorem Ent.disk {b : Nat} {d : Dk} (fs : LX d) (Γ : List HP) : Ent (Flags b d.off d.uo d.ub :: FilesX b fs.1 :: Γ) (DiskI b d :: Γ) := Ent.disk' fs.1 fs.2 Γ
/-- Flags changed. -/
theorem Ent.diskF {b : Nat} {d : Dk} (fs : LX d) {o : Bool} {u v : Nat} (hu : u ≤ 9223372036854775807) (hv : v ≤ 9223372036854775807) (Γ : List HP) : Ent (Flags b o u v :: FilesX b fs.1 :: Γ) (DiskI b ⟨d.fs, o, u, v⟩ :: Γ) :=
  Ent.disk' (d := ⟨d.fs, o, u, v⟩) fs.1 ⟨fs.2.1, fs.2.2.1, hu, hv⟩ Γ

theorem asks_nz {d : Dk} {f : Int} (h : d.asks f = 0) : d.off = false ∧ ∃ i : Nat, f = i ∧ i < 8 := by
  unfold Dk.asks at h
  split at h
  · cases h
  · split at h
    · cases h
    · rename_i h1 h2
      exact ⟨by simpa using h1, f.toNat, by omega, by omega⟩
theorem counts_nz {d : Dk} {f : Int} (h : d.counts f = 0) : d.off = false ∧ ∃ i : Nat, f = i ∧ i < 8 := by
  unfold Dk.counts at h
  split at h
  · cases h
  · split at h
    · cases h
    · split at h
      · cases h
      · split at h
        · cases h
        · rename_i h1 _ _ h2
          exact ⟨by simpa using h1, f.toNat, by omega, by omega⟩
theorem asks_flags (d : Dk) (f : Int) : Dk.asks ⟨[], d.off, d.uo, d.ub⟩ f = d.asks f := rfl
theorem counts_flags (d : Dk) (f : Int) : Dk.counts ⟨[], d.off, d.uo, d.ub⟩ f = d.counts f := rfl
theorem step_flags (d : Dk) : (Dk.step ⟨[], d.off, d.uo, d.ub⟩).off = d.step.off ∧ (Dk.step ⟨[], d.off, d.uo, d.ub⟩).uo = d.step.uo ∧ (Dk.step ⟨[], d.off, d.uo, d.ub⟩).ub = d.step.ub ∧ d.step.fs = d.fs := by
  unfold Dk.step
  cases h : d.off <;> simp [h]
theorem step_le {d : Dk} (h : d.uo ≤ 9223372036854775807 ∧ d.ub ≤ 9223372036854775807) : d.step.uo ≤ 9223372036854775807 ∧ d.step.ub ≤ 9223372036854775807 := by
  unfold Dk.step
  cases d.off <;> simp <;> omega
theorem LX.len {d : Dk} (fs : LX d) {i : Nat} (h : i < 8) : i < fs.1.length := by rw [fs.2.2.1]; exact h
theorem LX.get {d : Dk} (fs : LX d) {i : Nat} (h : i < 8) : d.file (i : Int) = (fs.1[i]'(fs.len h)).abs := by
  have e : d.fs.getD ((i : Nat) : Int).toNat ⟨[], [], []⟩ = (fabs fs.1).getD i ⟨[], [], []⟩ := by rw [fs.2.1]; rfl
  refine e.trans ?_
  simp [fabs, List.getD_eq_getElem?_getD, fs.len h]
theorem fabs_set (fs : List FX) (gs : List Fl) (i : Nat) (y : FX) (h : fabs fs = gs) : fabs (fs.set i y) = gs.set i y.abs := by
  subst h; simp [fabs, List.map_set]
theorem fabs_same (fs : List FX) (gs : List Fl) (i : Nat) (hi : i < fs.length) (h : fabs fs = gs) : gs.set i (fs[i].abs) = gs := by
  subst h
  exact List.ext_getElem? fun j => by
    by_cases hj : i = j
    · subst hj; simp [fabs, hi]
    · rw [List.getElem?_set_ne hj]
/-- Kept out of sight. -/
def Hid (A : HP) : HP := A
theorem Ent.open {b : Nat} {d : Dk} (fs : LX d) {i : Nat} (h : i < 8) (F : HP) (Γ : List HP) : Ent (F :: FilesX b fs.1 :: Γ)
    (Row b (i * 3) (fs.1[i]'(fs.len h)).cells :: sp (fs.1[i]'(fs.len h)).safe :: sp (fs.1[i]'(fs.len h)).now :: Sl 3 (fs.1[i]'(fs.len h)).ca (fs.1[i]'(fs.len h)).chg.length (fs.1[i]'(fs.len h)).cc ((fs.1[i]'(fs.len h)).chg.flatMap CX.cells) :: Inn ((fs.1[i]'(fs.len h)).chg.map CX.s) :: Hole (FileI b) fs.1 i :: Hid F :: Γ) := by
  refine (Ent.perm (.swap _ _ _)).trans ?_
  refine (Ent.focus (FileI b) fs.1 i (fs.len h) _).trans ?_
  exact Ent.file_out b i _ _
theorem Ent.close {b : Nat} {d : Dk} (fs : LX d) {i : Nat} (h : i < 8) (y : FX) {o : Bool} {u v : Nat} (hu : u ≤ 9223372036854775807) (hv : v ≤ 9223372036854775807) (Γ : List HP) :
    Ent (Row b (i * 3) y.cells :: sp y.safe :: sp y.now :: Sl 3 y.ca y.chg.length y.cc (y.chg.flatMap CX.cells) :: Inn (y.chg.map CX.s) :: Hole (FileI b) fs.1 i :: Hid (Flags b o u v) :: Γ) (DiskI b ⟨d.fs.set i y.abs, o, u, v⟩ :: Γ) := by
  refine (Ent.file_in b i y _).trans ((Ent.unfocus (FileI b) fs.1 i y (fs.len h) _).trans ((Ent.perm (.swap _ _ _)).trans ?_))
  refine Ent.disk' (d := ⟨d.fs.set i y.abs, o, u, v⟩) (fs.1.set i y) ⟨?_, by simp [fs.2.2.1], hu, hv⟩ Γ
  exact fabs_set _ _ _ _ fs.2.1
/-- Shut as it was. -/
theorem Ent.shut {b : Nat} {d : Dk} (fs : LX d) {i : Nat} (h : i < 8) {o : Bool} {u v : Nat} (hu : u ≤ 9223372036854775807) (hv : v ≤ 9223372036854775807) (Γ : List HP) :
    Ent (Row b (i * 3) (fs.1[i]'(fs.len h)).cells :: sp (fs.1[i]'(fs.len h)).safe :: sp (fs.1[i]'(fs.len h)).now :: Sl 3 (fs.1[i]'(fs.len h)).ca (fs.1[i]'(fs.len h)).chg.length (fs.1[i]'(fs.len h)).cc ((fs.1[i]'(fs.len h)).chg.flatMap CX.cells) :: Inn ((fs.1[i]'(fs.len h)).chg.map CX.s) :: Hole (FileI b) fs.1 i :: Hid (Flags b o u v) :: Γ) (DiskI b ⟨d.fs, o, u, v⟩ :: Γ) := by
  refine (Ent.close fs h (fs.1[i]'(fs.len h)) hu hv Γ).trans ?_
  have e := fabs_same fs.1 d.fs i (fs.len h) fs.2.1
  rw [e]; exact .refl _

def Dk.size (d : Dk) (f : Int) : Int × Int := if d.asks f = 0 then ((d.file f).now.length, 0) else (0, d.asks f)
theorem size_spec (b : Nat) (d : Dk) (f : Int) : Spec Try.prog 37 [dp b, .int .i64 f] [DiskI b d] (fun v B => v = .tuple #[.int .i64 (d.size f).1, .int .i64 (d.size f).2] ∧ B = [DiskI b d]) := by
  refine Spec.of_ex Try.func37 rfl Try.ntmps37 rfl fun E cs Γ => ?_
  (simp only [argRho, Nat.reduceAdd, List.cons_append, List.nil_append])
  refine x_open (fun E w s => s.disk) fun fs => ?_
  (refine x_seq (x_region ?_); refine r_op (o_assign rfl rfl ?_); refine r_op (o_assign rfl rfl ?_); refine r_nil ?_; refine x_seq ?_; refine x_seq (x_region ?_); refine r_op (o_move rfl rfl ?_); refine r_op (o_move rfl rfl ?_))
  (refine r_op ?_)
  refine o_call rfl (asks_spec b d.off d.uo d.ub f) rfl ?_
  rintro v B ⟨rfl, rfl⟩
  (simp only [List.cons_append, List.nil_append])
  rw [asks_flags]
  by_cases h : d.asks f = 0
  · obtain ⟨h0, i, rfl, hi⟩ := asks_nz h
    rw [h]
    (refine r_op (o_assign rfl rfl ?_); refine r_nil ?_; refine x_seq (x_region ?_); refine r_op (o_move rfl rfl ?_); refine r_op (o_neq_f rfl rfl (by omega) rfl ?_); refine r_nil ?_; refine x_false rfl ?_; refine x_skip ?_; refine x_seq (x_region ?_); refine r_op (o_move rfl rfl ?_); refine r_op (o_move rfl rfl ?_); refine r_op (o_nilCheck rfl rfl ?_); refine r_op (o_fieldAddr rfl rfl ?_))
    refine r_mem (Ent.open fs hi _ Γ) ?_
    have hg := fs.get hi
    obtain ⟨x, hx⟩ : ∃ x, (fs.1[i]'(fs.len hi)) = x := ⟨_, rfl⟩
    (refine r_op ?_)
    refine o_indexA rfl rfl (j := i) rfl hi rfl ?_
    (refine r_op (o_fieldAddr rfl rfl ?_))
    (refine r_op ?_)
    refine o_loadI (i := 2) rfl (by omega) rfl rfl ?_
    (refine r_op (o_lenS rfl rfl ?_); refine r_op (o_assign rfl rfl ?_); refine r_op (o_assign rfl rfl ?_); refine r_nil ?_)
    refine x_ret rfl [DiskI b d] ⟨?_, rfl⟩ ?_
    · simp [retV, Dk.size, h, hg, FX.abs]
    · exact (Ent.shut fs hi fs.2.2.2.1 fs.2.2.2.2 Γ).trans Sub.h
  · (refine r_op (o_assign rfl rfl ?_); refine r_nil ?_; refine x_seq (x_region ?_); refine r_op (o_move rfl rfl ?_); refine r_op (o_neq_t rfl rfl (by omega) rfl ?_); refine r_nil ?_; refine x_true rfl ?_; refine x_seq (x_region ?_); refine r_op (o_move rfl rfl ?_); refine r_op (o_assign rfl rfl ?_); refine r_op (o_assign rfl rfl ?_); refine r_nil ?_)
    refine x_ret rfl [DiskI b d] ⟨by simp [retV, Dk.size, h], rfl⟩ ((Ent.disk fs Γ).trans Sub.h)

def Dk.read (d : Dk) (f at' n : Int) : List UInt8 × Int :=
  if d.asks f ≠ 0 then ([], d.asks f) else if at' < 0 ∨ ((d.file f).now.length : Int) < at' ∨ n < 0 ∨ ((d.file f).now.length : Int) - at' < n then ([], 1) else (((d.file f).now.drop at'.toNat).take n.toNat, 0)
theorem read_spec (b : Nat) (d : Dk) (f at' n : Int) (hm : ∀ x ∈ d.fs, x.now.length ≤ 2 ^ 45) : Spec Try.prog 42 [dp b, .int .i64 f, .int .i64 at', .int .i64 n] [DiskI b d]
    (fun v B => ∃ a c, v = .tuple #[.slice a (d.read f at' n).1.length c, .int .i64 (d.read f at' n).2] ∧ B = [DiskI b d, Sl 1 a (d.read f at' n).1.length c ((d.read f at' n).1.map bv)]) := by
  refine Spec.of_ex Try.func42 rfl Try.ntmps42 rfl fun E cs Γ => ?_
  (simp only [argRho, Nat.reduceAdd, List.cons_append, List.nil_append])
  refine x_open (fun E w s => s.disk) fun fs => ?_
  (refine x_seq (x_region ?_); refine r_op (o_assign rfl rfl ?_); refine r_op (o_assign rfl rfl ?_); refine r_nil ?_; refine x_seq ?_; refine x_seq (x_region ?_); refine r_op (o_move rfl rfl ?_); refine r_op (o_move rfl rfl ?_))
  (refine r_op ?_)
  refine o_call rfl (asks_spec b d.off d.uo d.ub f) rfl ?_
  rintro v B ⟨rfl, rfl⟩
  (simp only [List.cons_append, List.nil_append])
  rw [asks_flags]
  by_cases h : d.asks f = 0
  · obtain ⟨h0, i, rfl, hi⟩ := asks_nz h
    rw [h]
    (refine r_op (o_assign rfl rfl ?_); refine r_nil ?_; refine x_seq (x_region ?_); refine r_op (o_move rfl rfl ?_); refine r_op (o_neq_f rfl rfl (by omega) rfl ?_); refine r_nil ?_; refine x_false rfl ?_; refine x_skip ?_; refine x_seq (x_region ?_); refine r_op (o_move rfl rfl ?_); refine r_op (o_move rfl rfl ?_); refine r_op (o_nilCheck rfl rfl ?_); refine r_op (o_fieldAddr rfl rfl ?_))
    refine r_mem (Ent.open fs hi _ Γ) ?_
    have hg := fs.get hi
    obtain ⟨x, hx⟩ : ∃ x, (fs.1[i]'(fs.len hi)) = x := ⟨_, rfl⟩
    have hnow : (d.file i).now = x.now.2.2 := by rw [hg, hx]; rfl
    have hlen : x.now.2.2.length ≤ 2 ^ 45 := by
      have h1 : (fs.1[i]'(fs.len hi)).abs ∈ fabs fs.1 := List.mem_map_of_mem (List.getElem_mem _)
      rw [fs.2.1] at h1
      have := hm _ h1
      rw [hx] at this; exact this
    have hshut := Ent.shut (b := b) (o := d.off) fs hi fs.2.2.2.1 fs.2.2.2.2 Γ
    rw [hx] at hshut ⊢
    (refine r_op ?_)
    refine o_indexA rfl rfl (j := i) rfl hi rfl ?_
    (refine r_op (o_fieldAddr rfl rfl ?_))
    (refine r_op ?_)
    refine o_loadI (i := 2) rfl (by omega) rfl rfl ?_
    (refine r_op (o_assign rfl rfl ?_); refine r_nil ?_; refine x_seq ?_; refine x_seq (x_region ?_); refine r_op (o_move rfl rfl ?_))
    have hbad : at' < 0 ∨ (x.now.2.2.length : Int) < at' ∨ n < 0 ∨ (x.now.2.2.length : Int) - at' < n → ∃ a c, retV [.slice none 0 0, .int .i64 1] = .tuple #[.slice a (d.read i at' n).1.length c, .int .i64 (d.read i at' n).2] ∧ [DiskI b d, Sl 1 none 0 0 []] = [DiskI b d, Sl 1 a (d.read i at' n).1.length c ((d.read i at' n).1.map bv)] := by
      intro hb
      have e : d.read i at' n = ([], 1) := by unfold Dk.read; rw [if_neg (by simpa using h), if_pos (by rw [hnow]; exact hb)]
      rw [e]; exact ⟨none, 0, rfl, rfl⟩
    by_cases h1 : at' < 0
    · (refine r_op (o_lss_t rfl rfl (by omega) rfl ?_); refine r_op (o_move rfl rfl ?_); refine r_skip rfl rfl rfl ?_; refine r_skip rfl rfl rfl ?_; refine r_skip rfl rfl rfl ?_; refine r_skip rfl rfl rfl ?_; refine r_op (o_pick_t rfl rfl rfl ?_); refine r_op (o_move rfl rfl ?_); refine r_skip rfl rfl rfl ?_; refine r_skip rfl rfl rfl ?_; refine r_op (o_pick_t rfl rfl rfl ?_); refine r_op (o_move rfl rfl ?_); refine r_skip rfl rfl rfl ?_; refine r_skip rfl rfl rfl ?_; refine r_skip rfl rfl rfl ?_; refine r_skip rfl rfl rfl ?_; refine r_skip rfl rfl rfl ?_; refine r_skip rfl rfl rfl ?_; refine r_op (o_pick_t rfl rfl rfl ?_); refine r_nil ?_; refine x_true rfl ?_; refine x_seq (x_region ?_); refine r_op (o_assign rfl rfl ?_); refine r_op (o_assign rfl rfl ?_); refine r_nil ?_)
      exact x_ret rfl _ (hbad (.inl h1)) ((hshut.trans (Ent.nilSl 1 _)).trans Sub.h)
    · by_cases h2 : (x.now.2.2.length : Int) < at'
      · (refine r_op (o_lss_f rfl rfl (by omega) rfl ?_); refine r_op (o_move rfl rfl ?_); refine r_guard rfl (o_move rfl rfl ?_); refine r_guard rfl (o_move rfl rfl ?_); refine r_guard rfl (o_lenS rfl rfl ?_); refine r_guard rfl (o_gtr_t rfl rfl (by omega) rfl ?_); refine r_op (o_pick_f rfl rfl rfl ?_); refine r_op (o_move rfl rfl ?_); refine r_skip rfl rfl rfl ?_; refine r_skip rfl rfl rfl ?_; refine r_op (o_pick_t rfl rfl rfl ?_); refine r_op (o_move rfl rfl ?_); refine r_skip rfl rfl rfl ?_; refine r_skip rfl rfl rfl ?_; refine r_skip rfl rfl rfl ?_; refine r_skip rfl rfl rfl ?_; refine r_skip rfl rfl rfl ?_; refine r_skip rfl rfl rfl ?_; refine r_op (o_pick_t rfl rfl rfl ?_); refine r_nil ?_; refine x_true rfl ?_; refine x_seq (x_region ?_); refine r_op (o_assign rfl rfl ?_); refine r_op (o_assign rfl rfl ?_); refine r_nil ?_)
        exact x_ret rfl _ (hbad (.inr (.inl h2))) ((hshut.trans (Ent.nilSl 1 _)).trans Sub.h)
      · by_cases h3 : n < 0
        · (refine r_op (o_lss_f rfl rfl (by omega) rfl ?_); refine r_op (o_move rfl rfl ?_); refine r_guard rfl (o_move rfl rfl ?_); refine r_guard rfl (o_move rfl rfl ?_); refine r_guard rfl (o_lenS rfl rfl ?_); refine r_guard rfl (o_gtr_f rfl rfl (by omega) rfl ?_); refine r_op (o_pick_f rfl rfl rfl ?_); refine r_op (o_move rfl rfl ?_); refine r_guard rfl (o_move rfl rfl ?_); refine r_guard rfl (o_lss_t rfl rfl (by omega) rfl ?_); refine r_op (o_pick_f rfl rfl rfl ?_); refine r_op (o_move rfl rfl ?_); refine r_skip rfl rfl rfl ?_; refine r_skip rfl rfl rfl ?_; refine r_skip rfl rfl rfl ?_; refine r_skip rfl rfl rfl ?_; refine r_skip rfl rfl rfl ?_; refine r_skip rfl rfl rfl ?_; refine r_op (o_pick_t rfl rfl rfl ?_); refine r_nil ?_; refine x_true rfl ?_; refine x_seq (x_region ?_); refine r_op (o_assign rfl rfl ?_); refine r_op (o_assign rfl rfl ?_); refine r_nil ?_)
          exact x_ret rfl _ (hbad (.inr (.inr (.inl h3)))) ((hshut.trans (Ent.nilSl 1 _)).trans Sub.h)
        · by_cases h4 : (x.now.2.2.length : Int) - at' < n
          · (refine r_op (o_lss_f rfl rfl (by omega) rfl ?_); refine r_op (o_move rfl rfl ?_); refine r_guard rfl (o_move rfl rfl ?_); refine r_guard rfl (o_move rfl rfl ?_); refine r_guard rfl (o_lenS rfl rfl ?_); refine r_guard rfl (o_gtr_f rfl rfl (by omega) rfl ?_); refine r_op (o_pick_f rfl rfl rfl ?_); refine r_op (o_move rfl rfl ?_); refine r_guard rfl (o_move rfl rfl ?_); refine r_guard rfl (o_lss_f rfl rfl (by omega) rfl ?_); refine r_op (o_pick_f rfl rfl rfl ?_); refine r_op (o_move rfl rfl ?_); refine r_guard rfl (o_move rfl rfl ?_); refine r_guard rfl (o_move rfl rfl ?_); refine r_guard rfl (o_lenS rfl rfl ?_); refine r_guard rfl (o_move rfl rfl ?_); refine r_guard rfl (o_sub rfl rfl (sub_i64 (by omega)) rfl ?_); refine r_guard rfl (o_gtr_t rfl rfl (by omega) rfl ?_); refine r_op (o_pick_f rfl rfl rfl ?_); refine r_nil ?_; refine x_true rfl ?_; refine x_seq (x_region ?_); refine r_op (o_assign rfl rfl ?_); refine r_op (o_assign rfl rfl ?_); refine r_nil ?_)
            exact x_ret rfl _ (hbad (.inr (.inr (.inr h4)))) ((hshut.trans (Ent.nilSl 1 _)).trans Sub.h)
          · (refine r_op (o_lss_f rfl rfl (by omega) rfl ?_); refine r_op (o_move rfl rfl ?_); refine r_guard rfl (o_move rfl rfl ?_); refine r_guard rfl (o_move rfl rfl ?_); refine r_guard rfl (o_lenS rfl rfl ?_); refine r_guard rfl (o_gtr_f rfl rfl (by omega) rfl ?_); refine r_op (o_pick_f rfl rfl rfl ?_); refine r_op (o_move rfl rfl ?_); refine r_guard rfl (o_move rfl rfl ?_); refine r_guard rfl (o_lss_f rfl rfl (by omega) rfl ?_); refine r_op (o_pick_f rfl rfl rfl ?_); refine r_op (o_move rfl rfl ?_); refine r_guard rfl (o_move rfl rfl ?_); refine r_guard rfl (o_move rfl rfl ?_); refine r_guard rfl (o_lenS rfl rfl ?_); refine r_guard rfl (o_move rfl rfl ?_); refine r_guard rfl (o_sub rfl rfl (sub_i64 (by omega)) rfl ?_); refine r_guard rfl (o_gtr_f rfl rfl (by omega) rfl ?_); refine r_op (o_pick_f rfl rfl rfl ?_); refine r_nil ?_; refine x_false rfl ?_; refine x_skip ?_; refine x_seq (x_region ?_); refine r_op (o_move rfl rfl ?_); refine r_op (o_move rfl rfl ?_); refine r_op (o_move rfl rfl ?_); refine r_op (o_move rfl rfl ?_); refine r_op (o_add rfl rfl (add_i64 (by omega)) rfl ?_))
            obtain ⟨p, rfl⟩ : ∃ p : Nat, at' = p := ⟨at'.toNat, by omega⟩
            obtain ⟨m, rfl⟩ : ∃ m : Nat, n = m := ⟨n.toNat, by omega⟩
            refine r_sl x.now.1 fun _ hcap => ?_
            (refine r_op ?_)
            refine o_slice rfl rfl rfl (jl := p) (jh := p + m) rfl (by simp) (by omega) (by omega) rfl ?_
            have R := (Sl.reads 1 x.now.1 x.now.2.2.length x.now.2.1 (x.now.2.2.map bv) (by simp)).sub x.now.2.1 p (p + m) (by omega) (by omega) hcap
            have e1 : ((x.now.2.2.map bv).drop (p * 1)).take ((p + m - p) * 1) = ((x.now.2.2.drop p).take m).map bv := by
              rw [show p + m - p = m by omega]; simp [List.map_drop, List.map_take]
            rw [e1] at R
            (refine r_op ?_)
            refine o_call rfl (clone_spec R (by omega)) rfl ?_
            rintro v B ⟨a', cap', rfl, rfl⟩
            (simp only [List.cons_append, List.nil_append])
            (refine r_op (o_assign rfl rfl ?_); refine r_op (o_assign rfl rfl ?_); refine r_nil ?_)
            have e : d.read i p m = ((x.now.2.2.drop p).take m, 0) := by
              unfold Dk.read
              rw [if_neg (by simpa using h), if_neg (by rw [hnow]; omega), hnow]; simp
            have e2 : ((x.now.2.2.drop p).take m).length = p + m - p := by simp; omega
            rw [e]
            refine x_ret rfl [DiskI b d, Sl 1 a' (p + m - p) cap' (((x.now.2.2.drop p).take m).map bv)] ⟨a', cap', by rw [e2]; rfl, by rw [e2]⟩ ?_
            refine (Sub.h (Δ := Row b (i * 3) x.cells :: sp x.safe :: sp x.now :: Sl 3 x.ca x.chg.length x.cc (List.flatMap CX.cells x.chg) :: Inn (List.map CX.s x.chg) :: Hole (FileI b) fs.val i :: Hid (Flags b d.off d.uo d.ub) :: Sl 1 a' (p + m - p) cap' (((x.now.2.2.drop p).take m).map bv) :: Γ)).trans ?_
            have := Ent.shut (b := b) (o := d.off) fs hi fs.2.2.2.1 fs.2.2.2.2 (Sl 1 a' (p + m - p) cap' (((x.now.2.2.drop p).take m).map bv) :: Γ)
            rw [hx] at this
            exact this.trans Sub.h
  · (refine r_op (o_assign rfl rfl ?_); refine r_nil ?_; refine x_seq (x_region ?_); refine r_op (o_move rfl rfl ?_); refine r_op (o_neq_t rfl rfl (by omega) rfl ?_); refine r_nil ?_; refine x_true rfl ?_; refine x_seq (x_region ?_); refine r_op (o_move rfl rfl ?_); refine r_op (o_assign rfl rfl ?_); refine r_op (o_assign rfl rfl ?_); refine r_nil ?_)
    refine x_ret rfl [DiskI b d, Sl 1 none 0 0 []] ⟨none, 0, by simp [retV, Dk.read, h], by simp [Dk.read, h]⟩ (((Ent.disk fs Γ).trans (Ent.nilSl 1 _)).trans Sub.h)

def Dk.power (d : Dk) (n : Int) : Dk := { d with off := d.off || decide (n < 1), uo := n.toNat }
theorem off_spec (b : Nat) (d : Dk) (n : Int) (hn : n ≤ 9223372036854775807) : Spec Try.prog 41 [dp b, .int .i64 n] [DiskI b d] (fun v B => v = .tuple #[] ∧ B = [DiskI b (d.power n)]) := by
  refine Spec.of_ex Try.func41 rfl Try.ntmps41 rfl fun E cs Γ => ?_
  (simp only [argRho, Nat.reduceAdd, List.cons_append, List.nil_append])
  refine x_open (fun E w s => s.disk) fun fs => ?_
  have hd : ∀ (v : Value) (o : Bool), v = .int .i64 (n.toNat : Int) → o = (d.off || decide (n < 1)) → Ent (Row b 24 [.bool o, v, .int .i64 d.ub] :: FilesX b fs.1 :: Γ) (DiskI b (d.power n) :: Γ) := by
    rintro v o rfl rfl
    exact Ent.diskF fs (by omega) fs.2.2.2.2 Γ
  cases h0 : d.off
  · by_cases h1 : n < 1
    · (refine x_seq (x_region ?_); refine r_op (o_move rfl rfl ?_); refine r_op (o_move rfl rfl ?_); refine r_op (o_max rfl rfl rfl ?_); refine r_op (o_nilCheck rfl rfl ?_); refine r_op (o_fieldAddr rfl rfl ?_); refine r_do (o_store rfl rfl rfl rfl (by simp) ?_); (try dsimp only [Nat.reduceSub, Nat.reduceAdd, List.set]); refine r_nil ?_; refine x_region ?_; refine r_op (o_move rfl rfl ?_); refine r_op (o_move rfl rfl ?_); refine r_op (o_nilCheck rfl rfl ?_); refine r_op (o_fieldAddr rfl rfl ?_); refine r_op (o_load rfl rfl rfl rfl ?_); refine r_op (o_move rfl rfl ?_); refine r_guard rfl (o_move rfl rfl ?_); refine r_guard rfl (o_lss_t rfl rfl (by omega) rfl ?_); refine r_op (o_pick_f rfl rfl rfl ?_); refine r_op (o_nilCheck rfl rfl ?_); refine r_op (o_fieldAddr rfl rfl ?_); refine r_do (o_store rfl rfl rfl rfl (by simp) ?_); (try dsimp only [Nat.reduceSub, Nat.reduceAdd, List.set]); refine r_nil ?_)
      rw [h0] at hd
      exact x_end [DiskI b (d.power n)] ⟨rfl, rfl⟩ ((hd _ _ (by congr 1; omega) (by simp [h1])).trans Sub.h)
    · (refine x_seq (x_region ?_); refine r_op (o_move rfl rfl ?_); refine r_op (o_move rfl rfl ?_); refine r_op (o_max rfl rfl rfl ?_); refine r_op (o_nilCheck rfl rfl ?_); refine r_op (o_fieldAddr rfl rfl ?_); refine r_do (o_store rfl rfl rfl rfl (by simp) ?_); (try dsimp only [Nat.reduceSub, Nat.reduceAdd, List.set]); refine r_nil ?_; refine x_region ?_; refine r_op (o_move rfl rfl ?_); refine r_op (o_move rfl rfl ?_); refine r_op (o_nilCheck rfl rfl ?_); refine r_op (o_fieldAddr rfl rfl ?_); refine r_op (o_load rfl rfl rfl rfl ?_); refine r_op (o_move rfl rfl ?_); refine r_guard rfl (o_move rfl rfl ?_); refine r_guard rfl (o_lss_f rfl rfl (by omega) rfl ?_); refine r_op (o_pick_f rfl rfl rfl ?_); refine r_op (o_nilCheck rfl rfl ?_); refine r_op (o_fieldAddr rfl rfl ?_); refine r_do (o_store rfl rfl rfl rfl (by simp) ?_); (try dsimp only [Nat.reduceSub, Nat.reduceAdd, List.set]); refine r_nil ?_)
      rw [h0] at hd
      exact x_end [DiskI b (d.power n)] ⟨rfl, rfl⟩ ((hd _ _ (by congr 1; omega) (by simp [h1])).trans Sub.h)
  · (refine x_seq (x_region ?_); refine r_op (o_move rfl rfl ?_); refine r_op (o_move rfl rfl ?_); refine r_op (o_max rfl rfl rfl ?_); refine r_op (o_nilCheck rfl rfl ?_); refine r_op (o_fieldAddr rfl rfl ?_); refine r_do (o_store rfl rfl rfl rfl (by simp) ?_); (try dsimp only [Nat.reduceSub, Nat.reduceAdd, List.set]); refine r_nil ?_; refine x_region ?_; refine r_op (o_move rfl rfl ?_); refine r_op (o_move rfl rfl ?_); refine r_op (o_nilCheck rfl rfl ?_); refine r_op (o_fieldAddr rfl rfl ?_); refine r_op (o_load rfl rfl rfl rfl ?_); refine r_op (o_move rfl rfl ?_); refine r_skip rfl rfl rfl ?_; refine r_skip rfl rfl rfl ?_; refine r_op (o_pick_t rfl rfl rfl ?_); refine r_op (o_nilCheck rfl rfl ?_); refine r_op (o_fieldAddr rfl rfl ?_); refine r_do (o_store rfl rfl rfl rfl (by simp) ?_); (try dsimp only [Nat.reduceSub, Nat.reduceAdd, List.set]); refine r_nil ?_)
    rw [h0] at hd
    exact x_end [DiskI b (d.power n)] ⟨rfl, rfl⟩ ((hd _ _ (by congr 1; omega) (by simp)).trans Sub.h)

def Dk.hurt (d : Dk) (n : Int) : Dk := { d with ub := n.toNat }
theorem fail_spec (b : Nat) (d : Dk) (n : Int) (hn : n ≤ 9223372036854775807) : Spec Try.prog 40 [dp b, .int .i64 n] [DiskI b d] (fun v B => v = .tuple #[] ∧ B = [DiskI b (d.hurt n)]) := by
  refine Spec.of_ex Try.func40 rfl Try.ntmps40 rfl fun E cs Γ => ?_
  (simp only [argRho, Nat.reduceAdd, List.cons_append, List.nil_append])
  refine x_open (fun E w s => s.disk) fun fs => ?_
  have hd : ∀ (v : Value), v = .int .i64 (n.toNat : Int) → Ent (Row b 24 [.bool d.off, .int .i64 d.uo, v] :: FilesX b fs.1 :: Γ) (DiskI b (d.hurt n) :: Γ) := by
    rintro v rfl
    exact Ent.diskF fs fs.2.2.2.1 (by omega) Γ
  (refine x_region ?_; refine r_op (o_move rfl rfl ?_); refine r_op (o_move rfl rfl ?_); refine r_op (o_max rfl rfl rfl ?_); refine r_op (o_nilCheck rfl rfl ?_); refine r_op (o_fieldAddr rfl rfl ?_); refine r_do (o_store rfl rfl rfl rfl (by simp) ?_); (try dsimp only [Nat.reduceSub, Nat.reduceAdd, List.set]); refine r_nil ?_)
  exact x_end [DiskI b (d.hurt n)] ⟨rfl, rfl⟩ ((hd _ (by congr 1; omega)).trans Sub.h)
end Go.Proofs.Ythneebbmodkjiaa
