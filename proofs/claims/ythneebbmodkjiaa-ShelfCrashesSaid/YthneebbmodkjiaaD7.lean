/- Part of a proof over the seat Ythneebbmodkjiaa: module D7. Its claim's last module says what is proved. -/
import Derived.Test.YthneebbmodkjiaaD6
namespace Go.Proofs.Ythneebbmodkjiaa
open Go.Proofs

instance (priority := high) Take.app (B : HP) (As Γ : List HP) (A : HP) (Δ : List HP) [H : Take (B :: (As ++ Γ)) A Δ] : Take ((B :: As) ++ Γ) A Δ := ⟨H.h⟩
instance (priority := high) Take.app0 (Γ : List HP) (A : HP) (Δ : List HP) [H : Take Γ A Δ] : Take ([] ++ Γ) A Δ := ⟨H.h⟩
/-- What of bytes lies in each sector, and where. -/
def chunks : Nat → Nat → List UInt8 → List (Nat × List UInt8)
  | 0, _, _ => []
  | n + 1, p, bs => if bs = [] then [] else (p, bs.take (min (64 - p % 64) bs.length)) :: chunks n (p + min (64 - p % 64) bs.length) (bs.drop (min (64 - p % 64) bs.length))
/-- The same, as the iterator hands them on. -/
def pcs : Nat → Nat → List UInt8 → Option Addr → Nat → List (List Value)
  | 0, _, _, _, _ => []
  | n + 1, p, bs, a, c => if bs = [] then [] else [.int .i64 p, .slice a (min (64 - p % 64) bs.length) c] :: pcs n (p + min (64 - p % 64) bs.length) (bs.drop (min (64 - p % 64) bs.length)) (shA 1 a c (min (64 - p % 64) bs.length)) (c - min (64 - p % 64) bs.length)

theorem pcs_get {A : HP} : ∀ (n p : Nat) (bs : List UInt8) (a : Option Addr) (c : Nat), Reads A 1 a bs.length (bs.map bv) → bs.length ≤ c → (pcs n p bs a c).length = (chunks n p bs).length ∧
    ∀ (i : Nat) (vs : List Value), (pcs n p bs a c)[i]? = some vs → ∃ (x : Nat × List UInt8) (a' : Option Addr) (c' : Nat), (chunks n p bs)[i]? = some x ∧ vs = [.int .i64 x.1, .slice a' x.2.length c'] ∧ Reads A 1 a' x.2.length (x.2.map bv) ∧ x.2.length ≤ c' := by
  intro n
  induction n with
  | zero => intro p bs a c R hc; exact ⟨rfl, fun i vs h => by simp [pcs] at h⟩
  | succ n ih =>
    intro p bs a c R hc
    unfold pcs chunks
    by_cases hb : bs = []
    · rw [if_pos hb, if_pos hb]; exact ⟨rfl, fun i vs h => by simp at h⟩
    · rw [if_neg hb, if_neg hb]
      obtain ⟨m, hm⟩ : ∃ m, min (64 - p % 64) bs.length = m := ⟨_, rfl⟩
      rw [hm]
      have hml : m ≤ bs.length := by omega
      have R1 := R.sub c m bs.length hml (Nat.le_refl _) hc
      have e1 : ((bs.map bv).drop (m * 1)).take ((bs.length - m) * 1) = (bs.drop m).map bv := by
        rw [Nat.mul_one, Nat.mul_one, List.take_of_length_le (by simp), List.map_drop]
      rw [e1] at R1
      have el : (bs.drop m).length = bs.length - m := by simp
      obtain ⟨i1, i2⟩ := ih (p + m) (bs.drop m) (shA 1 a c m) (c - m) (by rw [el]; exact R1) (by omega)
      refine ⟨by simp [i1], fun i vs h => ?_⟩
      cases i with
      | zero =>
        simp only [List.getElem?_cons_zero, Option.some.injEq] at h
        subst h
        have R0 := R.firstN m hml
        have e2 : (bs.take m).length = m := by simp; omega
        refine ⟨_, a, c, rfl, by simp [e2], ?_, by simp; omega⟩
        rw [e2, List.map_take]
        simpa using R0
      | succ i =>
        simp only [List.getElem?_cons_succ] at h
        obtain ⟨x, a', c', h1, h2, h3⟩ := i2 i vs h
        exact ⟨x, a', c', by simpa using h1, h2, h3⟩

theorem pieces_iter (pb pa p : Nat) (bs : List UInt8) (a : Option Addr) (c : Nat) (hc : bs.length ≤ c) (hp : p + bs.length ≤ 2 ^ 40) :
    Iter Try.prog 118 [] [dp pb, dp pa] [Row pb 0 [.slice a bs.length c], Row pa 0 [.int .i64 p]] [] (pcs bs.length p bs a c) := by
  intro l I J hy
  refine Spec.of_ex Try.func118 rfl Try.ntmps118 rfl fun E cs Γ => ?_
  (simp only [argRho, List.cons_append, List.nil_append])
  (refine x_block ?_)
  refine x_loop (α := Nat × Nat × Nat × List UInt8 × Option Addr × Nat) (fun q => (pcs bs.length p bs a c).drop q.1 = pcs q.2.1 q.2.2.1 q.2.2.2.1 q.2.2.2.2.1 q.2.2.2.2.2 ∧ q.2.2.2.1.length ≤ q.2.1 ∧ q.2.2.2.1.length ≤ q.2.2.2.2.2 ∧ q.2.2.1 + q.2.2.2.1.length ≤ 2 ^ 40 ∧ q.1 ≤ (pcs bs.length p bs a c).length)
    (fun q => [(0, .func (.yield l) #[] #[]), (1, dp pb), (2, dp pa)]) (fun q => Row pb 0 [.slice q.2.2.2.2.1 q.2.2.2.1.length q.2.2.2.2.2] :: Row pa 0 [.int .i64 q.2.2.1] :: I q.1 :: Γ)
    (fun q => q.2.2.2.1.length) (0, bs.length, p, bs, a, c) ⟨by simp, Nat.le_refl _, hc, hp, Nat.zero_le _⟩ ⟨rfl, rfl, rfl, trivial⟩ (by (simp only []); exact Sub.h) ?_
  rintro ⟨j, n, p', bs', a', c'⟩ ⟨hx, hn, hc', hp', hj⟩ back
  dsimp only at hx hn hc' hp' hj back ⊢
  (refine x_seq ?_; refine x_seq (x_region ?_); refine r_op (o_load rfl rfl rfl rfl ?_); refine r_op (o_lenS rfl rfl ?_))
  (refine r_op ?_)
  refine o_gtr rfl rfl rfl (fun h => ?_) (fun h => ?_)
  · have hne : bs' ≠ [] := by rintro rfl; simp at h
    obtain ⟨n, rfl⟩ : ∃ n', n = n' + 1 := ⟨n - 1, by omega⟩
    have hun : pcs (n + 1) p' bs' a' c' = [.int .i64 p', .slice a' (min (64 - p' % 64) bs'.length) c'] :: pcs n (p' + min (64 - p' % 64) bs'.length) (bs'.drop (min (64 - p' % 64) bs'.length)) (shA 1 a' c' (min (64 - p' % 64) bs'.length)) (c' - min (64 - p' % 64) bs'.length) := by
      show (if bs' = [] then [] else _) = _
      rw [if_neg hne]
    rw [hun] at hx
    clear hun
    obtain ⟨m, hm⟩ : ∃ m, min (64 - p' % 64) bs'.length = m := ⟨_, rfl⟩
    rw [hm] at hx
    have hxj : (pcs bs.length p bs a c)[j]? = some [.int .i64 p', .slice a' m c'] := by
      have := congrArg (fun l => l[0]?) hx
      simpa using this
    have hx1 : (pcs bs.length p bs a c).drop (j + 1) = pcs n (p' + m) (bs'.drop m) (shA 1 a' c' m) (c' - m) := by
      have := congrArg (List.drop 1) hx
      simpa [List.drop_drop] using this
    have hj1 : j < (pcs bs.length p bs a c).length := (List.getElem?_eq_some_iff.1 hxj).1
    (refine r_nil ?_; refine x_true rfl ?_; refine x_skip ?_; refine x_block ?_; refine x_seq (x_region ?_); refine r_op (o_load rfl rfl rfl rfl ?_))
    (refine r_op ?_)
    refine o_rem rfl rfl (by omega) (by omega) rfl ?_
    (refine r_op (o_sub rfl rfl (sub_i64 (by omega)) rfl ?_); refine r_op (o_load rfl rfl rfl rfl ?_); refine r_op (o_lenS rfl rfl ?_); refine r_op (o_min rfl rfl rfl ?_); refine r_op (o_assign rfl rfl ?_); refine r_nil ?_; refine x_seq ?_; refine x_seq ?_)
    have em : min (64 - (p' : Int) % 64) (bs'.length : Int) = (m : Int) := by omega
    rw [em]
    skip
    refine x_script 7 [(0,false),(1,false),(2,false),(3,false),(4,false),(5,true),(6,false)] [Row pb 0 [.slice a' bs'.length c'], Row pa 0 [.int .i64 p']] mixed (by kernel_rfl) permF ?_
    (refine s_v rfl (v_move rfl) ?_)
    (refine s_v rfl (v_load rfl rfl rfl) ?_)
    (refine s_v rfl (v_load rfl rfl rfl) ?_)
    (refine s_v rfl (v_move rfl) ?_)
    refine s_v rfl (v_sliceHi rfl rfl (jh := m) rfl (by omega)) ?_
    refine s_x rfl (o_yield rfl rfl (hy j _ hxj) rfl ?_)
    rintro b B (⟨rfl, rfl⟩ | ⟨rfl, rfl⟩)
    · refine ⟨permF, ?_⟩
      (simp only [List.cons_append, List.nil_append])
      (refine s_v rfl (v_not rfl) ?_)
      refine s_end rfl ?_
      (refine x_false rfl ?_; refine x_skip ?_)
      refine x_mem (Γ' := Row pa 0 [.int .i64 p'] :: Row pb 0 [.slice a' bs'.length c'] :: I (j + 1) :: Γ) Sub.h ?_
      refine x_draw mixed (by kernel_rfl) (fun S ρ' Γ' => lk ρ' 0 = some (.func (.yield l) #[] #[]) ∧ lk ρ' 1 = some (dp pb) ∧ lk ρ' 2 = some (dp pa) ∧ lk ρ' 4 = some (.int .i64 m) ∧ (S 0 = true → lk ρ' 21 = some (.int .i64 p')) ∧ (S 1 = true → lk ρ' 22 = some (.int .i64 m)) ∧
        (S 2 = true → lk ρ' 23 = some (.int .i64 (p' + m))) ∧ (S 3 = true → lk ρ' 24 = some (.slice a' bs'.length c')) ∧ (S 4 = true → lk ρ' 25 = some (.int .i64 m)) ∧ (S 5 = true → lk ρ' 26 = some (.slice (shA 1 a' c' m) (bs'.length - m) (c' - m))) ∧
        (S 6 = true → S 0 = true) ∧ (S 7 = true → S 3 = true) ∧ Γ' = Row pa 0 [if S 6 = true then .int .i64 (p' + m) else .int .i64 p'] :: Row pb 0 [if S 7 = true then .slice (shA 1 a' c' m) (bs'.length - m) (c' - m) else .slice a' bs'.length c'] :: I (j + 1) :: Γ) ?_ ?_ ?_
      · exact ⟨rfl, rfl, rfl, rfl, fun h => (by cases h), fun h => (by cases h), fun h => (by cases h), fun h => (by cases h), fun h => (by cases h), fun h => (by cases h), fun h => (by cases h), fun h => (by cases h), rfl⟩
      · refine ⟨?_, ?_, ?_, ?_, ?_, ?_, ?_, ?_, trivial⟩
        · rintro S ρ' Γ' hS hd ⟨g0, g1, g2, g4, h0, h1, h2, h3, h4, h5, s6, s7, rfl⟩
          refine .plain rfl ?_
          have e6 : S 6 = false := by cases h : S 6 with
            | false => rfl
            | true => rw [s6 h] at hS; cases hS
          refine o_load g2 rfl rfl rfl ?_
          simp only [e6]
          exact ⟨g0, g1, g2, g4, fun _ => rfl, fun h => h1 (by revert h; simp), fun h => h2 (by revert h; simp), fun h => h3 (by revert h; simp), fun h => h4 (by revert h; simp), fun h => h5 (by revert h; simp), fun h => by have := s6 (by revert h; simp); simp [this], fun h => by have := s7 (by revert h; simp); simp [this], by simp⟩
        · rintro S ρ' Γ' hS hd ⟨g0, g1, g2, g4, h0, h1, h2, h3, h4, h5, s6, s7, rfl⟩
          refine .plain rfl ?_
          refine o_move g4 rfl ?_
          exact ⟨g0, g1, g2, g4, fun h => h0 (by revert h; simp), fun _ => rfl, fun h => h2 (by revert h; simp), fun h => h3 (by revert h; simp), fun h => h4 (by revert h; simp), fun h => h5 (by revert h; simp), fun h => by have := s6 (by revert h; simp); simp [this], fun h => by have := s7 (by revert h; simp); simp [this], by simp⟩
        · rintro S ρ' Γ' hS hd ⟨g0, g1, g2, g4, h0, h1, h2, h3, h4, h5, s6, s7, rfl⟩
          refine .plain rfl ?_
          refine o_add (h0 (hd ⟨0, .data⟩ (by simp) (by rfl))) (h1 (hd ⟨1, .data⟩ (by simp) (by rfl))) (add_i64 (by omega)) rfl ?_
          exact ⟨g0, g1, g2, g4, fun h => h0 (by revert h; simp), fun h => h1 (by revert h; simp), fun _ => rfl, fun h => h3 (by revert h; simp), fun h => h4 (by revert h; simp), fun h => h5 (by revert h; simp), fun h => by have := s6 (by revert h; simp); simp [this], fun h => by have := s7 (by revert h; simp); simp [this], by simp⟩
        · rintro S ρ' Γ' hS hd ⟨g0, g1, g2, g4, h0, h1, h2, h3, h4, h5, s6, s7, rfl⟩
          refine .plain rfl ?_
          have e7 : S 7 = false := by cases h : S 7 with
            | false => rfl
            | true => rw [s7 h] at hS; cases hS
          refine o_load g1 rfl rfl rfl ?_
          simp only [e7]
          exact ⟨g0, g1, g2, g4, fun h => h0 (by revert h; simp), fun h => h1 (by revert h; simp), fun h => h2 (by revert h; simp), fun _ => rfl, fun h => h4 (by revert h; simp), fun h => h5 (by revert h; simp), fun h => by have := s6 (by revert h; simp); simp [this], fun h => by have := s7 (by revert h; simp); simp [this], by simp⟩
        · rintro S ρ' Γ' hS hd ⟨g0, g1, g2, g4, h0, h1, h2, h3, h4, h5, s6, s7, rfl⟩
          refine .plain rfl ?_
          refine o_move g4 rfl ?_
          exact ⟨g0, g1, g2, g4, fun h => h0 (by revert h; simp), fun h => h1 (by revert h; simp), fun h => h2 (by revert h; simp), fun h => h3 (by revert h; simp), fun _ => rfl, fun h => h5 (by revert h; simp), fun h => by have := s6 (by revert h; simp); simp [this], fun h => by have := s7 (by revert h; simp); simp [this], by simp⟩
        · rintro S ρ' Γ' hS hd ⟨g0, g1, g2, g4, h0, h1, h2, h3, h4, h5, s6, s7, rfl⟩
          refine .plain rfl ?_
          refine o_sliceLo (h3 (hd ⟨3, .data⟩ (by simp) (by rfl))) (h4 (hd ⟨4, .data⟩ (by simp) (by rfl))) (jl := m) rfl (by omega) rfl ?_
          exact ⟨g0, g1, g2, g4, fun h => h0 (by revert h; simp), fun h => h1 (by revert h; simp), fun h => h2 (by revert h; simp), fun h => h3 (by revert h; simp), fun h => h4 (by revert h; simp), fun _ => rfl, fun h => by have := s6 (by revert h; simp); simp [this], fun h => by have := s7 (by revert h; simp); simp [this], by simp⟩
        · rintro S ρ' Γ' hS hd ⟨g0, g1, g2, g4, h0, h1, h2, h3, h4, h5, s6, s7, rfl⟩
          refine .plain rfl ?_
          refine o_store g2 (h2 (hd ⟨2, .data⟩ (by simp) (by rfl))) rfl rfl (by simp) ?_
          exact ⟨g0, g1, g2, g4, fun h => h0 (by revert h; simp), fun h => h1 (by revert h; simp), fun h => h2 (by revert h; simp), fun h => h3 (by revert h; simp), fun h => h4 (by revert h; simp), fun h => h5 (by revert h; simp), fun _ => by simp [(hd ⟨0, .phase⟩ (by simp) (by rfl))], fun h => by have := s7 (by revert h; simp); simp [this], by simp⟩
        · rintro S ρ' Γ' hS hd ⟨g0, g1, g2, g4, h0, h1, h2, h3, h4, h5, s6, s7, rfl⟩
          refine .plain rfl ?_
          refine o_store g1 (h5 (hd ⟨5, .data⟩ (by simp) (by rfl))) rfl rfl (by simp) ?_
          exact ⟨g0, g1, g2, g4, fun h => h0 (by revert h; simp), fun h => h1 (by revert h; simp), fun h => h2 (by revert h; simp), fun h => h3 (by revert h; simp), fun h => h4 (by revert h; simp), fun h => h5 (by revert h; simp), fun h => by have := s6 (by revert h; simp); simp [this], fun _ => by simp [hd ⟨3, .phase⟩ (by simp) (by rfl)], by simp⟩
      · rintro S ρ' Γ' hS ⟨g0, g1, g2, g4, h0, h1, h2, h3, h4, h5, s6, s7, rfl⟩
        rw [hS 6 (by simp), hS 7 (by simp)]
        simp only [if_true]
        (refine x_inBlock ?_)
        have el : (bs'.drop m).length = bs'.length - m := by simp
        refine x_weak (back (j + 1, n, p' + m, bs'.drop m, shA 1 a' c' m, c' - m) ⟨hx1, ?_, ?_, ?_, by omega⟩ (by dsimp only; omega)) ⟨g0, g1, g2, trivial⟩ ?_
        · dsimp only; omega
        · dsimp only; omega
        · dsimp only; omega
        · dsimp only
          rw [el, Int.natCast_add]
          exact Sub.h
    · refine ⟨permF, ?_⟩
      (simp only [List.cons_append, List.nil_append])
      (refine s_v rfl (v_not rfl) ?_)
      refine s_end rfl ?_
      (refine x_true rfl ?_)
      exact x_ret rfl ([] ++ [J (j + 1)]) (.inr ⟨_, rfl⟩) (by (simp only [List.nil_append]); exact Sub.h)
  · have h0 : bs' = [] := List.length_eq_zero_iff.1 (by omega)
    subst h0
    (refine r_nil ?_; refine x_false rfl ?_; refine x_exit rfl ?_)
    have : j = (pcs bs.length p bs a c).length := by
      have : (pcs bs.length p bs a c).drop j = [] := by
        rw [hx]; cases n <;> simp [pcs]
      have := congrArg List.length this
      simp at this; omega
    subst this
    exact x_end ([] ++ [I _]) (.inl rfl) (by (simp only [List.nil_append]); exact Sub.h)
end Go.Proofs.Ythneebbmodkjiaa
