/- Part of a proof over the seat Ythneebbmodkjiaa: module D6. Its claim's last module says what is proved. -/
import Derived.Test.YthneebbmodkjiaaD5
namespace Go.Proofs.Ythneebbmodkjiaa
open Go.Proofs

/-- Bytes in which others stand at a place. -/
def over (b : List UInt8) (p : Nat) (x : List UInt8) : List UInt8 := (b ++ List.replicate (p - b.length) 0).take p ++ x ++ b.drop (p + x.length)
theorem over_length (b : List UInt8) (p : Nat) (x : List UInt8) : (over b p x).length = max b.length (p + x.length) := by
  simp [over]; omega
theorem over_pad (b : List UInt8) (p : Nat) (x : List UInt8) (h : b.length < p) : over (b ++ List.replicate (p - b.length) 0) p x = over b p x := by
  simp only [over, List.length_append, List.length_replicate]
  rw [show p - (b.length + (p - b.length)) = 0 by omega]
  simp only [List.replicate_zero, List.append_nil]
  congr 1
  rw [List.drop_eq_nil_of_le (by simp; omega), List.drop_eq_nil_of_le (by omega)]

theorem drop_nil8 (l : List UInt8) (i : Nat) (h : l.length ≤ i) : l.drop i = [] := List.drop_eq_nil_of_le h
theorem over_cut (cs xs : List UInt8) (p : Nat) (h : p ≤ cs.length) : cs.take p ++ xs.take (min xs.length (cs.length - p)) ++ cs.drop (p + min xs.length (cs.length - p)) ++ xs.drop (min xs.length (cs.length - p)) = over cs p xs := by
  simp only [over, show p - cs.length = 0 by omega, List.replicate_zero, List.append_nil]
  by_cases hq : xs.length ≤ cs.length - p
  · rw [Nat.min_eq_left hq, List.drop_length, List.append_nil, List.take_length]
  · rw [Nat.min_eq_right (by omega), drop_nil8 cs (p + (cs.length - p)) (by omega), drop_nil8 cs (p + xs.length) (by omega), List.append_nil, List.append_nil, List.append_assoc, List.take_append_drop]

theorem laid_spec {A : HP} {a a2 : Option Addr} {cap len2 cap2 p : Nat} {bs xs : List UInt8} (R : Reads A 1 a2 len2 (xs.map bv)) (hl : bs.length ≤ 2 ^ 40) (hp : p ≤ 2 ^ 40) (hx : len2 ≤ 2 ^ 40) (hc2 : len2 ≤ cap2) :
    Spec Try.prog 98 [.slice a bs.length cap, .int .i64 p, .slice a2 len2 cap2] [Sl 1 a bs.length cap (bs.map bv), A]
      (fun v B => ∃ a' cap', v = .slice a' (over bs p xs).length cap' ∧ B = [Sl 1 a' (over bs p xs).length cap' ((over bs p xs).map bv), A]) := by
  have hl2 : xs.length = len2 := by simpa using R.1
  refine Spec.of_ex Try.func98 rfl Try.ntmps98 rfl fun E fs Γ => ?_
  (simp only [argRho, Nat.reduceAdd, List.cons_append, List.nil_append])
  (refine x_seq ?_); (refine x_region ?_)
  (refine r_op ?_); (refine o_assign rfl rfl ?_)
  (refine r_nil ?_)
  refine x_cut (α := Option Addr × Nat × List UInt8) (fun q => p ≤ q.2.2.length ∧ q.2.2.length ≤ 2 ^ 41 ∧ over q.2.2 p xs = over bs p xs) (fun q => [(0, .slice q.1 q.2.2.length q.2.1), (1, .int .i64 p), (2, .slice a2 len2 cap2)]) (fun q => Sl 1 q.1 q.2.2.length q.2.1 (q.2.2.map bv) :: A :: Γ) ?_ ?_
  · rintro ⟨a', c', cs⟩ ⟨h1, h2, h3⟩
    dsimp only at h1 h2 h3 ⊢
    refine x_sl a' fun _ hcap => ?_
    (refine x_seq (x_region ?_); refine r_op (o_move rfl rfl ?_); refine r_op (o_move rfl rfl ?_))
    (refine r_op ?_)
    refine o_sliceLo rfl rfl (jl := p) rfl (by omega) rfl ?_
    (refine r_op (o_move rfl rfl ?_))
    (refine r_op ?_)
    refine o_copy rfl rfl R (by omega) (bv_one xs) rfl ?_
    (refine r_op (o_assign rfl rfl ?_); refine r_nil ?_; refine x_seq (x_region ?_); refine r_op (o_move rfl rfl ?_); refine r_op (o_move rfl rfl ?_); refine r_op (o_move rfl rfl ?_))
    (refine r_op ?_)
    refine o_sliceLo rfl rfl (jl := min len2 (cs.length - p)) rfl (by omega) rfl ?_
    have R2 := R.sub cap2 (min len2 (cs.length - p)) len2 (by omega) (by omega) hc2
    (refine r_op ?_)
    refine o_append rfl rfl R2 (by rfl) (by rfl) ?_ (by omega) rfl (fun a3 c3 hc3 => ?_)
    · rw [List.all_eq_true]
      intro v hv
      exact List.all_eq_true.1 (bv_one xs) v (List.mem_of_mem_drop (List.mem_of_mem_take hv))
    (refine r_op (o_assign rfl rfl ?_); refine r_nil ?_)
    have e : List.take p (List.map bv cs) ++ List.take (min len2 (cs.length - p)) (List.map bv xs) ++ List.drop (p + min len2 (cs.length - p)) (List.map bv cs) ++ List.take ((len2 - min len2 (cs.length - p)) * 1) (List.drop (min len2 (cs.length - p) * 1) (List.map bv xs)) = (over bs p xs).map bv := by
      rw [← h3, ← over_cut cs xs p h1, hl2]
      simp only [Nat.mul_one, List.map_append, List.map_take, List.map_drop]
      rw [List.take_of_length_le (l := List.drop (min len2 (cs.length - p)) (List.map bv xs)) (by simp; omega)]
    have el : cs.length + (len2 - min len2 (cs.length - p)) = (over bs p xs).length := by rw [← h3, over_length]; omega
    rw [e, el]
    refine x_ret rfl [Sl 1 a3 (over bs p xs).length c3 ((over bs p xs).map bv), A] ⟨a3, c3, rfl, rfl⟩ Sub.h
  · intro td back
    by_cases h : bs.length < p
    · (refine x_seq (x_region ?_); refine r_op (o_move rfl rfl ?_); refine r_op (o_move rfl rfl ?_); refine r_op (o_lenS rfl rfl ?_); refine r_op (o_gtr_t rfl rfl (by omega) rfl ?_); refine r_nil ?_; refine x_true rfl ?_; refine x_region ?_; refine r_op (o_move rfl rfl ?_); refine r_op (o_move rfl rfl ?_); refine r_op (o_move rfl rfl ?_); refine r_op (o_lenS rfl rfl ?_); refine r_op (o_sub rfl rfl (sub_i64 (by omega)) rfl ?_))
      (refine r_op ?_)
      refine o_appendZ rfl rfl (m := p - bs.length) (by omega) (by rfl) (by rfl) (by rfl) (by omega) rfl (fun a3 c3 hc => ?_)
      (refine r_op (o_assign rfl rfl ?_); refine r_nil ?_)
      have e : List.map bv bs ++ zs [Value.int IntKind.u8 0] (p - bs.length) = (bs ++ List.replicate (p - bs.length) 0).map bv := by
        rw [zs_one]; simp [bv]
      have el : bs.length + (p - bs.length) = (bs ++ List.replicate (p - bs.length) (0 : UInt8)).length := by simp
      rw [e, el]
      refine x_weak (back (a3, c3, bs ++ List.replicate (p - bs.length) 0) ⟨by simp; omega, by simp; omega, over_pad bs p xs h⟩) (by (repeat' (first | exact trivial | refine ⟨rfl, ?_⟩))) Sub.h
    · (refine x_seq (x_region ?_); refine r_op (o_move rfl rfl ?_); refine r_op (o_move rfl rfl ?_); refine r_op (o_lenS rfl rfl ?_); refine r_op (o_gtr_f rfl rfl (by omega) rfl ?_); refine r_nil ?_; refine x_false rfl ?_; refine x_skip ?_)
      refine x_weak (back (a, cap, bs) ⟨by dsimp only; omega, by dsimp only; omega, rfl⟩) (by (repeat' (first | exact trivial | refine ⟨rfl, ?_⟩))) Sub.h
end Go.Proofs.Ythneebbmodkjiaa

namespace Go.Proofs.Ythneebbmodkjiaa
open Go.Proofs

instance (priority := high) Take.app (B : HP) (As Γ : List HP) (A : HP) (Δ : List HP) [H : Take (B :: (As ++ Γ)) A Δ] : Take ((B :: As) ++ Γ) A Δ := ⟨H.h⟩
instance (priority := high) Take.app0 (Γ : List HP) (A : HP) (Δ : List HP) [H : Take Γ A Δ] : Take ([] ++ Γ) A Δ := ⟨H.h⟩
/-- What of bytes lies in each sector, and where. -/
def chunks : Nat → Nat → List UInt8 → List (Nat × List UInt8)
  | 0, _, _ => []
  | n + 1, p, bs => if bs = [] then [] else (p, bs.take (min (64 - p % 64) bs.length)) :: chunks n (p + min (64 - p % 64) bs.length) (bs.drop (min (64 - p % 64) bs.length))
/-- The same, as the iterator hands them on. -/
def pcs : Nat → Nat → List UInt8 → Option Addr → Nat → List (List Value)
  | 0, _, _, _, _ => []
  | n + 1, p, bs, a, c => if bs = [] then [] else [.int .i64 p, .slice a (min (64 - p % 64) bs.length) c] :: pcs n (p + min (64 - p % 64) bs.length) (bs.drop (min (64 - p % 64) bs.length)) (shA 1 a c (min (64 - p % 64) bs.length)) (c - min (64 - p % 64) bs.length)

theorem pcs_get {A : HP} : ∀ (n p : Nat) (bs : List UInt8) (a : Option Addr) (c : Nat), Reads A 1 a bs.length (bs.map bv) → bs.length ≤ c → (pcs n p bs a c).length = (chunks n p bs).length ∧
    ∀ (i : Nat) (vs : List Value), (pcs n p bs a c)[i]? = some vs → ∃ (x : Nat × List UInt8) (a' : Option Addr) (c' : Nat), (chunks n p bs)[i]? = some x ∧ vs = [.int .i64 x.1, .slice a' x.2.length c'] ∧ Reads A 1 a' x.2.length (x.2.map bv) ∧ x.2.length ≤ c' := by
  intro n
  induction n with
  | zero => intro p bs a c R hc; exact ⟨rfl, fun i vs h => by simp [pcs] at h⟩
  | succ n ih =>
    intro p bs a c R hc
    unfold pcs chunks
    by_cases hb : bs = []
    · rw [if_pos hb, if_pos hb]; exact ⟨rfl, fun i vs h => by simp at h⟩
    · rw [if_neg hb, if_neg hb]
      obtain ⟨m, hm⟩ : ∃ m, min (64 - p % 64) bs.length = m := ⟨_, rfl⟩
      rw [hm]
      have hml : m ≤ bs.length := by omega
      have R1 := R.sub c m bs.length hml (Nat.le_refl _) hc
      have e1 : ((bs.map bv).drop (m * 1)).take ((bs.length - m) * 1) = (bs.drop m).map bv := by
        rw [Nat.mul_one, Nat.mul_one, List.take_of_length_le (by simp), List.map_drop]
      rw [e1] at R1
      have el : (bs.drop m).length = bs.length - m := by simp
      obtain ⟨i1, i2⟩ := ih (p + m) (bs.drop m) (shA 1 a c m) (c - m) (by rw [el]; exact R1) (by omega)
      refine ⟨by simp [i1], fun i vs h => ?_⟩
      cases i with
      | zero =>
        simp only [List.getElem?_cons_zero, Option.some.injEq] at h
        subst h
        have R0 := R.firstN m hml
        have e2 : (bs.take m).length = m := by simp; omega
        refine ⟨_, a, c, rfl, by simp [e2], ?_, by simp; omega⟩
        rw [e2, List.map_take]
        simpa using R0
      | succ i =>
        simp only [List.getElem?_cons_succ] at h
        obtain ⟨x, a', c', h1, h2, h3⟩ := i2 i vs h
        exact ⟨x, a', c', by simpa using h1, h2, h3⟩

theorem pieces_iter (pb pa p : Nat) (bs : List UInt8) (a : Option Addr) (c : Nat) (hc : bs.length ≤ c) (hp : p + bs.length ≤ 2 ^ 40) :
    Iter Try.prog 118 [] [dp pb, dp pa] [Row pb 0 [.slice a bs.length c], Row pa 0 [.int .i64 p]] [] (pcs bs.length p bs a c) := by
  intro l I J hy
  refine Spec.of_ex Try.func118 rfl Try.ntmps118 rfl fun E cs Γ => ?_
  (simp only [argRho, List.cons_append, List.nil_append])
  (refine x_block ?_)
  refine x_loop (α := Nat × Nat × Nat × List UInt8 × Option Addr × Nat) (fun q => (pcs bs.length p bs a c).drop q.1 = pcs q.2.1 q.2.2.1 q.2.2.2.1 q.2.2.2.2.1 q.2.2.2.2.2 ∧ q.2.2.2.1.length ≤ q.2.1 ∧ q.2.2.2.1.length ≤ q.2.2.2.2.2 ∧ q.2.2.1 + q.2.2.2.1.length ≤ 2 ^ 40 ∧ q.1 ≤ (pcs bs.length p bs a c).length)
    (fun q => [(0, .func (.yield l) #[] #[]), (1, dp pb), (2, dp pa)]) (fun q => Row pb 0 [.slice q.2.2.2.2.1 q.2.2.2.1.length q.2.2.2.2.2] :: Row pa 0 [.int .i64 q.2.2.1] :: I q.1 :: Γ)
    (fun q => q.2.2.2.1.length) (0, bs.length, p, bs, a, c) ⟨by simp, Nat.le_refl _, hc, hp, Nat.zero_le _⟩ ⟨rfl, rfl, rfl, trivial⟩ (by (simp only []); exact Sub.h) ?_
  rintro ⟨j, n, p', bs', a', c'⟩ ⟨hx, hn, hc', hp', hj⟩ back
  dsimp only at hx hn hc' hp' hj back ⊢
  (refine x_seq ?_; refine x_seq (x_region ?_); refine r_op (o_load rfl rfl rfl rfl ?_); refine r_op (o_lenS rfl rfl ?_))
  (refine r_op ?_)
  refine o_gtr rfl rfl rfl (fun h => ?_) (fun h => ?_)
  · have hne : bs' ≠ [] := by rintro rfl; simp at h
    obtain ⟨n, rfl⟩ : ∃ n', n = n' + 1 := ⟨n - 1, by omega⟩
    have hun : pcs (n + 1) p' bs' a' c' = [.int .i64 p', .slice a' (min (64 - p' % 64) bs'.length) c'] :: pcs n (p' + min (64 - p' % 64) bs'.length) (bs'.drop (min (64 - p' % 64) bs'.length)) (shA 1 a' c' (min (64 - p' % 64) bs'.length)) (c' - min (64 - p' % 64) bs'.length) := by
      show (if bs' = [] then [] else _) = _
      rw [if_neg hne]
    rw [hun] at hx
    clear hun
    obtain ⟨m, hm⟩ : ∃ m, min (64 - p' % 64) bs'.length = m := ⟨_, rfl⟩
    rw [hm] at hx
    have hxj : (pcs bs.length p bs a c)[j]? = some [.int .i64 p', .slice a' m c'] := by
      have := congrArg (fun l => l[0]?) hx
      simpa using this
    have hx1 : (pcs bs.length p bs a c).drop (j + 1) = pcs n (p' + m) (bs'.drop m) (shA 1 a' c' m) (c' - m) := by
      have := congrArg (List.drop 1) hx
      simpa [List.drop_drop] using this
    have hj1 : j < (pcs bs.length p bs a c).length := (List.getElem?_eq_some_iff.1 hxj).1
    (refine r_nil ?_; refine x_true rfl ?_; refine x_skip ?_; refine x_block ?_; refine x_seq (x_region ?_); refine r_op (o_load rfl rfl rfl rfl ?_))
    (refine r_op ?_)
    refine o_rem rfl rfl (by omega) (by omega) rfl ?_
    (refine r_op (o_sub rfl rfl (sub_i64 (by omega)) rfl ?_); refine r_op (o_load rfl rfl rfl rfl ?_); refine r_op (o_lenS rfl rfl ?_); refine r_op (o_min rfl rfl rfl ?_); refine r_op (o_assign rfl rfl ?_); refine r_nil ?_; refine x_seq ?_; refine x_seq ?_)
    have em : min (64 - (p' : Int) % 64) (bs'.length : Int) = (m : Int) := by omega
    rw [em]
    skip
    refine x_script 7 [(0,false),(1,false),(2,false),(3,false),(4,false),(5,true),(6,false)] [Row pb 0 [.slice a' bs'.length c'], Row pa 0 [.int .i64 p']] mixed (by kernel_rfl) permF ?_
    (refine s_v rfl (v_move rfl) ?_)
    (refine s_v rfl (v_load rfl rfl rfl) ?_)
    (refine s_v rfl (v_load rfl rfl rfl) ?_)
    (refine s_v rfl (v_move rfl) ?_)
    refine s_v rfl (v_sliceHi rfl rfl (jh := m) rfl (by omega)) ?_
    refine s_x rfl (o_yield rfl rfl (hy j _ hxj) rfl ?_)
    rintro b B (⟨rfl, rfl⟩ | ⟨rfl, rfl⟩)
    · refine ⟨permF, ?_⟩
      (simp only [List.cons_append, List.nil_append])
      (refine s_v rfl (v_not rfl) ?_)
      refine s_end rfl ?_
      (refine x_false rfl ?_; refine x_skip ?_)
      refine x_mem (Γ' := Row pa 0 [.int .i64 p'] :: Row pb 0 [.slice a' bs'.length c'] :: I (j + 1) :: Γ) Sub.h ?_
      refine x_draw mixed (by kernel_rfl) (fun S ρ' Γ' => lk ρ' 0 = some (.func (.yield l) #[] #[]) ∧ lk ρ' 1 = some (dp pb) ∧ lk ρ' 2 = some (dp pa) ∧ lk ρ' 4 = some (.int .i64 m) ∧ (S 0 = true → lk ρ' 21 = some (.int .i64 p')) ∧ (S 1 = true → lk ρ' 22 = some (.int .i64 m)) ∧
        (S 2 = true → lk ρ' 23 = some (.int .i64 (p' + m))) ∧ (S 3 = true → lk ρ' 24 = some (.slice a' bs'.length c')) ∧ (S 4 = true → lk ρ' 25 = some (.int .i64 m)) ∧ (S 5 = true → lk ρ' 26 = some (.slice (shA 1 a' c' m) (bs'.length - m) (c' - m))) ∧
        (S 6 = true → S 0 = true) ∧ (S 7 = true → S 3 = true) ∧ Γ' = Row pa 0 [if S 6 = true then .int .i64 (p' + m) else .int .i64 p'] :: Row pb 0 [if S 7 = true then .slice (shA 1 a' c' m) (bs'.length - m) (c' - m) else .slice a' bs'.length c'] :: I (j + 1) :: Γ) ?_ ?_ ?_
      · exact ⟨rfl, rfl, rfl, rfl, fun h => (by cases h), fun h => (by cases h), fun h => (by cases h), fun h => (by cases h), fun h => (by cases h), fun h => (by cases h), fun h => (by cases h), fun h => (by cases h), rfl⟩
      · refine ⟨?_, ?_, ?_, ?_, ?_, ?_, ?_, ?_, trivial⟩
        · rintro S ρ' Γ' hS hd ⟨g0, g1, g2, g4, h0, h1, h2, h3, h4, h5, s6, s7, rfl⟩
          refine .plain rfl ?_
          have e6 : S 6 = false := by cases h : S 6 with
            | false => rfl
            | true => rw [s6 h] at hS; cases hS
          refine o_load g2 rfl rfl rfl ?_
          simp only [e6]
          exact ⟨g0, g1, g2, g4, fun _ => rfl, fun h => h1 (by revert h; simp), fun h => h2 (by revert h; simp), fun h => h3 (by revert h; simp), fun h => h4 (by revert h; simp), fun h => h5 (by revert h; simp), fun h => by have := s6 (by revert h; simp); simp [this], fun h => by have := s7 (by revert h; simp); simp [this], by simp⟩
        · rintro S ρ' Γ' hS hd ⟨g0, g1, g2, g4, h0, h1, h2, h3, h4, h5, s6, s7, rfl⟩
          refine .plain rfl ?_
          refine o_move g4 rfl ?_
          exact ⟨g0, g1, g2, g4, fun h => h0 (by revert h; simp), fun _ => rfl, fun h => h2 (by revert h; simp), fun h => h3 (by revert h; simp), fun h => h4 (by revert h; simp), fun h => h5 (by revert h; simp), fun h => by have := s6 (by revert h; simp); simp [this], fun h => by have := s7 (by revert h; simp); simp [this], by simp⟩
        · rintro S ρ' Γ' hS hd ⟨g0, g1, g2, g4, h0, h1, h2, h3, h4, h5, s6, s7, rfl⟩
          refine .plain rfl ?_
          refine o_add (h0 (hd ⟨0, .data⟩ (by simp) (by rfl))) (h1 (hd ⟨1, .data⟩ (by simp) (by rfl))) (add_i64 (by omega)) rfl ?_
          exact ⟨g0, g1, g2, g4, fun h => h0 (by revert h; simp), fun h => h1 (by revert h; simp), fun _ => rfl, fun h => h3 (by revert h; simp), fun h => h4 (by revert h; simp), fun h => h5 (by revert h; simp), fun h => by have := s6 (by revert h; simp); simp [this], fun h => by have := s7 (by revert h; simp); simp [this], by simp⟩
        · rintro S ρ' Γ' hS hd ⟨g0, g1, g2, g4, h0, h1, h2, h3, h4, h5, s6, s7, rfl⟩
          refine .plain rfl ?_
          have e7 : S 7 = false := by cases h : S 7 with
            | false => rfl
            | true => rw [s7 h] at hS; cases hS
          refine o_load g1 rfl rfl rfl ?_
          simp only [e7]
          exact ⟨g0, g1, g2, g4, fun h => h0 (by revert h; simp), fun h => h1 (by revert h; simp), fun h => h2 (by revert h; simp), fun _ => rfl, fun h => h4 (by revert h; simp), fun h => h5 (by revert h; simp), fun h => by have := s6 (by revert h; simp); simp [this], fun h => by have := s7 (by revert h; simp); simp [this], by simp⟩
        · rintro S ρ' Γ' hS hd ⟨g0, g1, g2, g4, h0, h1, h2, h3, h4, h5, s6, s7, rfl⟩
          refine .plain rfl ?_
          refine o_move g4 rfl ?_
          exact ⟨g0, g1, g2, g4, fun h => h0 (by revert h; simp), fun h => h1 (by revert h; simp), fun h => h2 (by revert h; simp), fun h => h3 (by revert h; simp), fun _ => rfl, fun h => h5 (by revert h; simp), fun h => by have := s6 (by revert h; simp); simp [this], fun h => by have := s7 (by revert h; simp); simp [this], by simp⟩
        · rintro S ρ' Γ' hS hd ⟨g0, g1, g2, g4, h0, h1, h2, h3, h4, h5, s6, s7, rfl⟩
          refine .plain rfl ?_
          refine o_sliceLo (h3 (hd ⟨3, .data⟩ (by simp) (by rfl))) (h4 (hd ⟨4, .data⟩ (by simp) (by rfl))) (jl := m) rfl (by omega) rfl ?_
          exact ⟨g0, g1, g2, g4, fun h => h0 (by revert h; simp), fun h => h1 (by revert h; simp), fun h => h2 (by revert h; simp), fun h => h3 (by revert h; simp), fun h => h4 (by revert h; simp), fun _ => rfl, fun h => by have := s6 (by revert h; simp); simp [this], fun h => by have := s7 (by revert h; simp); simp [this], by simp⟩
        · rintro S ρ' Γ' hS hd ⟨g0, g1, g2, g4, h0, h1, h2, h3, h4, h5, s6, s7, rfl⟩
          refine .plain rfl ?_
          refine o_store g2 (h2 (hd ⟨2, .data⟩ (by simp) (by rfl))) rfl rfl (by simp) ?_
          exact ⟨g0, g1, g2, g4, fun h => h0 (by revert h; simp), fun h => h1 (by revert h; simp), fun h => h2 (by revert h; simp), fun h => h3 (by revert h; simp), fun h => h4 (by revert h; simp), fun h => h5 (by revert h; simp), fun _ => by simp [(hd ⟨0, .phase⟩ (by simp) (by rfl))], fun h => by have := s7 (by revert h; simp); simp [this], by simp⟩
        · rintro S ρ' Γ' hS hd ⟨g0, g1, g2, g4, h0, h1, h2, h3, h4, h5, s6, s7, rfl⟩
          refine .plain rfl ?_
          refine o_store g1 (h5 (hd ⟨5, .data⟩ (by simp) (by rfl))) rfl rfl (by simp) ?_
          exact ⟨g0, g1, g2, g4, fun h => h0 (by revert h; simp), fun h => h1 (by revert h; simp), fun h => h2 (by revert h; simp), fun h => h3 (by revert h; simp), fun h => h4 (by revert h; simp), fun h => h5 (by revert h; simp), fun h => by have := s6 (by revert h; simp); simp [this], fun _ => by simp [hd ⟨3, .phase⟩ (by simp) (by rfl)], by simp⟩
      · rintro S ρ' Γ' hS ⟨g0, g1, g2, g4, h0, h1, h2, h3, h4, h5, s6, s7, rfl⟩
        rw [hS 6 (by simp), hS 7 (by simp)]
        simp only [if_true]
        (refine x_inBlock ?_)
        have el : (bs'.drop m).length = bs'.length - m := by simp
        refine x_weak (back (j + 1, n, p' + m, bs'.drop m, shA 1 a' c' m, c' - m) ⟨hx1, ?_, ?_, ?_, by omega⟩ (by dsimp only; omega)) ⟨g0, g1, g2, trivial⟩ ?_
        · dsimp only; omega
        · dsimp only; omega
        · dsimp only; omega
        · dsimp only
          rw [el, Int.natCast_add]
          exact Sub.h
    · refine ⟨permF, ?_⟩
      (simp only [List.cons_append, List.nil_append])
      (refine s_v rfl (v_not rfl) ?_)
      refine s_end rfl ?_
      (refine x_true rfl ?_)
      exact x_ret rfl ([] ++ [J (j + 1)]) (.inr ⟨_, rfl⟩) (by (simp only [List.nil_append]); exact Sub.h)
  · have h0 : bs' = [] := List.length_eq_zero_iff.1 (by omega)
    subst h0
    (refine r_nil ?_; refine x_false rfl ?_; refine x_exit rfl ?_)
    have : j = (pcs bs.length p bs a c).length := by
      have : (pcs bs.length p bs a c).drop j = [] := by
        rw [hx]; cases n <;> simp [pcs]
      have := congrArg List.length this
      simp at this; omega
    subst this
    exact x_end ([] ++ [I _]) (.inl rfl) (by (simp only [List.nil_append]); exact Sub.h)
end Go.Proofs.Ythneebbmodkjiaa

namespace Go.Proofs.Ythneebbmodkjiaa
open Go.Proofs

theorem pieces_spec (p : Int) (a : Option Addr) (len cap : Nat) : Spec Try.prog 97 [.int .i64 p, .slice a len cap] [] (fun v B => ∃ pb pa, v = .func (.func 118) #[] #[dp pb, dp pa] ∧ B = [Row pb 0 [.slice a len cap], Row pa 0 [.int .i64 p]]) := by
  refine Spec.of_ex Try.func97 rfl Try.ntmps97 rfl fun E cs Γ => ?_
  (simp only [argRho, Nat.reduceAdd, List.nil_append])
  (refine x_seq ?_); (refine x_region ?_)
  (refine r_op ?_)
  refine o_box rfl rfl rfl (fun pa => ?_)
  (refine r_op ?_)
  refine o_box rfl rfl rfl (fun pb => ?_)
  (refine r_op (o_assign rfl rfl ?_); refine r_nil ?_; refine x_seq (x_region ?_))
  (refine r_op ?_)
  refine o_makeFunc rfl rfl rfl ?_
  (refine r_op (o_assign rfl rfl ?_); refine r_nil ?_)
  exact x_ret rfl [Row pb 0 [.slice a len cap], Row pa 0 [.int .i64 p]] ⟨pb, pa, rfl, rfl⟩ Sub.h

def newChg (p : Nat) (b : List UInt8) : List Ch := (chunks b.length p b).map fun x => ⟨false, x.1, x.2⟩
def Fl.write (x : Fl) (p : Nat) (b : List UInt8) : Fl := ⟨x.safe, x.chg ++ newChg p b, over x.now p b⟩
def Dk.write (d : Dk) (f at' : Int) (b : List UInt8) : Dk × Int :=
  if d.counts f ≠ 0 then (d.step, d.counts f) else if at' < 0 ∨ ((d.file f).now.length : Int) < at' then (d.step, 1) else if 131072 - at' < b.length then (d.step, 5)
  else ({ d.step with fs := d.fs.set f.toNat ((d.file f).write at'.toNat b) }, 0)

theorem chunks_length : ∀ (n p : Nat) (b : List UInt8), (chunks n p b).length ≤ n := by
  intro n
  induction n with
  | zero => intro p b; simp [chunks]
  | succ n ih =>
    intro p b
    unfold chunks
    split
    · simp
    · have := ih (p + min (64 - p % 64) b.length) (b.drop (min (64 - p % 64) b.length))
      simp; omega
/-- Small enough. -/
def Dk.small (d : Dk) : Prop := ∀ x ∈ d.fs, x.now.length ≤ 2 ^ 40 ∧ x.safe.length ≤ 2 ^ 40 ∧ x.chg.length ≤ 2 ^ 40
theorem LX.small {d : Dk} (fs : LX d) (h : d.small) {i : Nat} (hi : i < 8) : (fs.1[i]'(fs.len hi)).now.2.2.length ≤ 2 ^ 40 ∧ (fs.1[i]'(fs.len hi)).safe.2.2.length ≤ 2 ^ 40 ∧ (fs.1[i]'(fs.len hi)).chg.length ≤ 2 ^ 40 := by
  have h1 : (fs.1[i]'(fs.len hi)).abs ∈ fabs fs.1 := List.mem_map_of_mem (List.getElem_mem _)
  rw [fs.2.1] at h1
  have := h _ h1
  simpa [FX.abs] using this

theorem chunks_le : ∀ (n p : Nat) (b : List UInt8), ∀ x ∈ chunks n p b, x.2.length ≤ b.length ∧ p ≤ x.1 ∧ x.1 + x.2.length ≤ p + b.length := by
  intro n
  induction n with
  | zero => intro p b x hx; simp [chunks] at hx
  | succ n ih =>
    intro p b x hx
    unfold chunks at hx
    split at hx
    · simp at hx
    · rw [List.mem_cons] at hx
      rcases hx with rfl | hx
      · simp; omega
      · have := ih _ _ x hx
        simp at this
        omega
/-- A file whose changes are being written. -/
def WrI (b i : Nat) (s n : Value) (l : List Ch) : HP := Any fun q : Option Addr × Nat × List CX => Fact (q.2.2.map CX.abs = l) (Sep [Row b (i * 3) [s, .slice q.1 q.2.2.length q.2.1, n], Sl 3 q.1 q.2.2.length q.2.1 (q.2.2.flatMap CX.cells), Inn (q.2.2.map CX.s)])
theorem St.wri {E : Env} {b i : Nat} {s n : Value} {l : List Ch} {Γ : List HP} {w : World} (st : St E (WrI b i s n l :: Γ) w) :
    ∃ q : { q : Option Addr × Nat × List CX // q.2.2.map CX.abs = l }, St E (Row b (i * 3) [s, .slice q.1.1 q.1.2.2.length q.1.2.1, n] :: Sl 3 q.1.1 q.1.2.2.length q.1.2.1 (q.1.2.2.flatMap CX.cells) :: Inn (q.1.2.2.map CX.s) :: Γ) w := by
  obtain ⟨q, st⟩ := st.ex
  obtain ⟨h, st⟩ := st.fact
  exact ⟨⟨q, h⟩, (Ent.sep_out [_, _, _] Γ).st st⟩
theorem Ent.wri {b i : Nat} {s n : Value} {l : List Ch} {ca : Option Addr} {cc : Nat} {chg : List CX} (h : chg.map CX.abs = l) (Γ : List HP) :
    Ent (Row b (i * 3) [s, .slice ca chg.length cc, n] :: Sl 3 ca chg.length cc (chg.flatMap CX.cells) :: Inn (chg.map CX.s) :: Γ) (WrI b i s n l :: Γ) := by
  refine (Ent.sep_in [_, _, _] Γ).trans ((Ent.fact h Γ).trans ?_)
  exact Ent.ex (A := fun q : Option Addr × Nat × List CX => Fact (q.2.2.map CX.abs = l) (Sep [Row b (i * 3) [s, .slice q.1 q.2.2.length q.2.1, n], Sl 3 q.1 q.2.2.length q.2.1 (q.2.2.flatMap CX.cells), Inn (q.2.2.map CX.s)])) (ca, cc, chg) Γ
theorem Ent.chg_snoc {c : Bool} {p : Nat} {a3 a1 : Option Addr} {c3 c1 : Nat} {chg : List CX} {bs : List UInt8} (Γ : List HP) :
    Ent (Sl 3 a3 (chg.length + 1) c3 (chg.flatMap CX.cells ++ [.bool c, .int .i64 p, .slice a1 bs.length c1]) :: Sl 1 a1 bs.length c1 (bs.map bv) :: Inn (chg.map CX.s) :: Γ)
      (Sl 3 a3 (chg ++ [CX.mk c p (a1, c1, bs)]).length c3 ((chg ++ [CX.mk c p (a1, c1, bs)]).flatMap CX.cells) :: Inn ((chg ++ [CX.mk c p (a1, c1, bs)]).map CX.s) :: Γ) := by
  have e1 : (chg ++ [CX.mk c p (a1, c1, bs)]).length = chg.length + 1 := by simp
  have e2 : (chg ++ [CX.mk c p (a1, c1, bs)]).flatMap CX.cells = chg.flatMap CX.cells ++ [.bool c, .int .i64 p, .slice a1 bs.length c1] := by simp [CX.cells]
  have e3 : (chg ++ [CX.mk c p (a1, c1, bs)]).map CX.s = chg.map CX.s ++ [(a1, c1, bs)] := by simp
  rw [e1, e2, e3]
  exact Ent.cons _ (Ent.inn_snoc (a1, c1, bs) (chg.map CX.s) Γ)
theorem step_eta (d : Dk) : (⟨d.fs, d.step.off, d.step.uo, d.step.ub⟩ : Dk) = d.step := by
  obtain ⟨_, _, _, s4⟩ := step_flags d
  cases hd : d.step
  rw [hd] at s4
  simp at s4
  rw [s4]
theorem write_spec {A : HP} (b : Nat) (d : Dk) (f at' : Int) {a : Option Addr} {cap : Nat} {bs : List UInt8} (R : Reads A 1 a bs.length (bs.map bv)) (hcap : bs.length ≤ cap) (hs : d.small) :
    Spec Try.prog 31 [dp b, .int .i64 f, .int .i64 at', .slice a bs.length cap] [DiskI b d, A] (fun v B => v = .int .i64 (d.write f at' bs).2 ∧ B = [DiskI b (d.write f at' bs).1, A]) := by
  refine Spec.of_ex Try.func31 rfl Try.ntmps31 rfl fun E cs Γ => ?_
  (simp only [argRho, Nat.reduceAdd, List.cons_append, List.nil_append])
  refine x_open (fun E w s => s.disk) fun fs => ?_
  obtain ⟨s1, s2, s3, s4⟩ := step_flags d
  have hle := step_le fs.2.2.2
  (refine x_seq (x_region ?_); refine r_op (o_assign rfl rfl ?_); refine r_nil ?_; refine x_seq ?_; refine x_seq (x_region ?_); refine r_op (o_move rfl rfl ?_); refine r_op (o_move rfl rfl ?_))
  (refine r_op ?_)
  refine o_call rfl (counts_spec b d.off d.uo d.ub f fs.2.2.2.1 fs.2.2.2.2) rfl ?_
  rintro v B ⟨rfl, rfl⟩
  (simp only [List.cons_append, List.nil_append])
  rw [counts_flags, s1, s2, s3]
  have hd0 : ∀ Θ, Ent (Flags b d.step.off d.step.uo d.step.ub :: FilesX b fs.1 :: Θ) (DiskI b d.step :: Θ) := fun Θ => by
    have := Ent.diskF (b := b) (o := d.step.off) fs hle.1 hle.2 Θ
    rw [step_eta] at this; exact this
  by_cases h : d.counts f = 0
  · obtain ⟨h0, i, rfl, hi⟩ := counts_nz h
    rw [h]
    (refine r_op (o_assign rfl rfl ?_); refine r_nil ?_; refine x_seq (x_region ?_); refine r_op (o_move rfl rfl ?_); refine r_op (o_neq_f rfl rfl (by omega) rfl ?_); refine r_nil ?_; refine x_false rfl ?_; refine x_skip ?_; refine x_seq (x_region ?_); refine r_op (o_move rfl rfl ?_); refine r_op (o_move rfl rfl ?_); refine r_op (o_nilCheck rfl rfl ?_); refine r_op (o_fieldAddr rfl rfl ?_))
    refine r_mem (Ent.open fs hi _ (A :: Γ)) ?_
    have hg := fs.get hi
    have hsm := fs.small hs hi
    have hshut := fun Θ => Ent.shut (b := b) (o := d.step.off) fs hi hle.1 hle.2 Θ
    have hclose := fun y Θ => Ent.close (b := b) (o := d.step.off) fs hi y hle.1 hle.2 Θ
    obtain ⟨x, hx⟩ : ∃ x, (fs.1[i]'(fs.len hi)) = x := ⟨_, rfl⟩
    have hnow : (d.file i).now = x.now.2.2 := by rw [hg, hx]; rfl
    rw [hx] at hshut hsm ⊢
    (refine r_op ?_)
    refine o_indexA rfl rfl (j := i) rfl hi rfl ?_
    (refine r_op ?_)
    refine o_alloc rfl (fun px => ?_)
    (refine r_do ?_)
    ((refine o_store rfl rfl rfl rfl (by simp) ?_; try dsimp only [Nat.reduceSub, Nat.reduceAdd, List.set]))
    (refine r_nil ?_; refine x_seq ?_; refine x_block ?_; refine x_seq (x_region ?_); refine r_op (o_move rfl rfl ?_))
    have hr1 : ∀ e : Int, (d.write i at' bs) = (d.step, e) → Ent (Row px 0 [.pointer (some ⟨b, 0 + 0 + i * 3, none⟩)] :: Row b (i * 3) x.cells :: sp x.safe :: sp x.now :: Sl 3 x.ca x.chg.length x.cc (List.flatMap CX.cells x.chg) :: Inn (List.map CX.s x.chg) :: Hole (FileI b) fs.val i :: Hid (Flags b d.step.off d.step.uo d.step.ub) :: A :: Γ) (DiskI b (d.write i at' bs).1 :: A :: Γ) := by
      intro e he
      rw [he]
      have := hshut (A :: Γ)
      rw [step_eta] at this
      exact (Ent.drop _ _).trans this
    by_cases h1 : at' < 0
    · (refine r_op (o_lss_t rfl rfl (by omega) rfl ?_); refine r_op (o_move rfl rfl ?_); refine r_skip rfl rfl rfl ?_; refine r_skip rfl rfl rfl ?_; refine r_skip rfl rfl rfl ?_; refine r_skip rfl rfl rfl ?_; refine r_skip rfl rfl rfl ?_; refine r_skip rfl rfl rfl ?_; refine r_skip rfl rfl rfl ?_; refine r_op (o_pick_t rfl rfl rfl ?_); refine r_op (o_assign rfl rfl ?_); refine r_nil ?_; refine x_true rfl ?_; refine x_seq (x_region ?_); refine r_op (o_assign rfl rfl ?_); refine r_nil ?_)
      have e : d.write i at' bs = (d.step, 1) := by unfold Dk.write; rw [if_neg (by simpa using h), if_pos (.inl h1)]
      exact x_ret rfl [DiskI b (d.write i at' bs).1, A] ⟨by rw [e]; rfl, rfl⟩ ((hr1 _ e).trans Sub.h)
    · by_cases h2 : (x.now.2.2.length : Int) < at'
      · (refine r_op (o_lss_f rfl rfl (by omega) rfl ?_); refine r_op (o_move rfl rfl ?_); refine r_guard rfl (o_move rfl rfl ?_); refine r_guard rfl (o_load rfl rfl rfl rfl ?_); refine r_guard rfl (o_nilCheck rfl rfl ?_); refine r_guard rfl (o_fieldAddr rfl rfl ?_); refine r_guard rfl (o_loadI (i := 2) rfl (by omega) rfl rfl ?_); refine r_guard rfl (o_lenS rfl rfl ?_); refine r_guard rfl (o_gtr_t rfl rfl (by omega) rfl ?_); refine r_op (o_pick_f rfl rfl rfl ?_); refine r_op (o_assign rfl rfl ?_); refine r_nil ?_; refine x_true rfl ?_; refine x_seq (x_region ?_); refine r_op (o_assign rfl rfl ?_); refine r_nil ?_)
        have e : d.write i at' bs = (d.step, 1) := by unfold Dk.write; rw [if_neg (by simpa using h), if_pos (.inr (by rw [hnow]; exact h2))]
        exact x_ret rfl [DiskI b (d.write i at' bs).1, A] ⟨by rw [e]; rfl, rfl⟩ ((hr1 _ e).trans Sub.h)
      · by_cases h3 : 131072 - at' < (bs.length : Int)
        · (refine r_op (o_lss_f rfl rfl (by omega) rfl ?_); refine r_op (o_move rfl rfl ?_); refine r_guard rfl (o_move rfl rfl ?_); refine r_guard rfl (o_load rfl rfl rfl rfl ?_); refine r_guard rfl (o_nilCheck rfl rfl ?_); refine r_guard rfl (o_fieldAddr rfl rfl ?_); refine r_guard rfl (o_loadI (i := 2) rfl (by omega) rfl rfl ?_); refine r_guard rfl (o_lenS rfl rfl ?_); refine r_guard rfl (o_gtr_f rfl rfl (by omega) rfl ?_); refine r_op (o_pick_f rfl rfl rfl ?_); refine r_op (o_assign rfl rfl ?_); refine r_nil ?_; refine x_false rfl ?_; refine x_seq (x_region ?_); refine r_op (o_move rfl rfl ?_); refine r_op (o_lenS rfl rfl ?_); refine r_op (o_move rfl rfl ?_); refine r_op (o_sub rfl rfl (sub_i64 (by omega)) rfl ?_); refine r_op (o_gtr_t rfl rfl (by omega) rfl ?_); refine r_op (o_assign rfl rfl ?_); refine r_nil ?_; refine x_true rfl ?_; refine x_seq (x_region ?_); refine r_op (o_assign rfl rfl ?_); refine r_nil ?_)
          have e : d.write i at' bs = (d.step, 5) := by unfold Dk.write; rw [if_neg (by simpa using h), if_neg (by rw [hnow]; omega), if_pos h3]
          exact x_ret rfl [DiskI b (d.write i at' bs).1, A] ⟨by rw [e]; rfl, rfl⟩ ((hr1 _ e).trans Sub.h)
        · obtain ⟨p, rfl⟩ : ∃ p : Nat, at' = p := ⟨at'.toNat, by omega⟩
          have e : d.write i p bs = ({ d.step with fs := d.fs.set i (x.abs.write p bs) }, 0) := by
            unfold Dk.write; rw [if_neg (by simpa using h), if_neg (by rw [hnow]; omega), if_neg h3]; rw [hg, hx]; simp
          have hbl : bs.length ≤ 131072 := by omega
          have hpl : p ≤ 2 ^ 40 := by omega
          have hck := chunks_length bs.length p bs
          obtain ⟨hpc, hpg⟩ := pcs_get bs.length p bs a cap R hcap
          (refine r_op (o_lss_f rfl rfl (by omega) rfl ?_); refine r_op (o_move rfl rfl ?_); refine r_guard rfl (o_move rfl rfl ?_); refine r_guard rfl (o_load rfl rfl rfl rfl ?_); refine r_guard rfl (o_nilCheck rfl rfl ?_); refine r_guard rfl (o_fieldAddr rfl rfl ?_); refine r_guard rfl (o_loadI (i := 2) rfl (by omega) rfl rfl ?_); refine r_guard rfl (o_lenS rfl rfl ?_); refine r_guard rfl (o_gtr_f rfl rfl (by omega) rfl ?_); refine r_op (o_pick_f rfl rfl rfl ?_); refine r_op (o_assign rfl rfl ?_); refine r_nil ?_; refine x_false rfl ?_; refine x_seq (x_region ?_); refine r_op (o_move rfl rfl ?_); refine r_op (o_lenS rfl rfl ?_); refine r_op (o_move rfl rfl ?_); refine r_op (o_sub rfl rfl (sub_i64 (by omega)) rfl ?_); refine r_op (o_gtr_f rfl rfl (by omega) rfl ?_); refine r_op (o_assign rfl rfl ?_); refine r_nil ?_; refine x_false rfl ?_; refine x_skip ?_; refine x_inBlock ?_; refine x_seq ?_; refine x_seq (x_region ?_); refine r_op (o_move rfl rfl ?_); refine r_op (o_move rfl rfl ?_))
          (refine r_op ?_)
          refine o_call rfl (pieces_spec p a bs.length cap) rfl ?_
          rintro v B ⟨pb, pa, rfl, rfl⟩
          (simp only [List.cons_append, List.nil_append])
          (refine r_nil ?_; refine x_block ?_)
          refine x_mem (Ent.marks0 _) ?_
          refine x_range (Ds := []) rfl rfl (pieces_iter pb pa p bs a cap hcap (by omega))
            (fun j => [WrI b i (sv x.safe) (sv x.now) (x.chg.map CX.abs ++ (newChg p bs).take j), A, Row px 0 [.pointer (some ⟨b, 0 + i * 3, none⟩)]])
            (fun _ _ => [Fact False Emp]) (Δ2 := sp x.safe :: sp x.now :: Hole (FileI b) fs.val i :: Hid (Flags b d.step.off d.step.uo d.step.ub) :: Γ) ?_ (by rfl) ?_ ?_ ?_ ?_
          · refine (Sub.h (Δ := Row b (i * 3) [sv x.safe, .slice x.ca x.chg.length x.cc, sv x.now] :: Sl 3 x.ca x.chg.length x.cc (x.chg.flatMap CX.cells) :: Inn (x.chg.map CX.s) :: A :: Row px 0 [.pointer (some ⟨b, 0 + i * 3, none⟩)] :: sp x.safe :: sp x.now :: Hole (FileI b) fs.val i :: Hid (Flags b d.step.off d.step.uo d.step.ub) :: Γ)).trans ?_
            exact (Ent.wri (l := x.chg.map CX.abs ++ (newChg p bs).take 0) (by simp) _).trans Sub.h
          · intro j vs hj
            obtain ⟨y, a', c', _, rfl, _⟩ := hpg j vs hj
            rfl
          · intro j vs hj
            obtain ⟨y, a', c', hy, rfl, R', hc'⟩ := hpg j vs hj
            intro Y l r Θ hfn hro hend hexit hret
            (refine x_seq (x_region ?_); refine r_op (o_assign rfl rfl ?_); refine r_nil ?_; refine x_region ?_; refine r_op (o_assign rfl rfl ?_); refine r_nil ?_)
            refine x_beginRound (r := r) hro ?_
            refine x_mem (Γ' := WrI b i (sv x.safe) (sv x.now) (x.chg.map CX.abs ++ (newChg p bs).take j) :: Rec l r .busy none :: A :: Row px 0 [.pointer (some ⟨b, 0 + i * 3, none⟩)] :: Θ) (by (simp only [List.cons_append, List.nil_append]); exact Sub.h) ?_
            refine x_open (fun E w s => s.wri) ?_
            rintro ⟨⟨ca, cc, chg⟩, hchg⟩
            dsimp only at hchg ⊢
            have hlc : chg.length ≤ 2 ^ 40 + 131072 := by
              have := congrArg List.length hchg
              simp [newChg] at this
              omega
            have hjl : j < (chunks bs.length p bs).length := (List.getElem?_eq_some_iff.1 hy).1
            have hyl : y.2.length ≤ 2 ^ 45 := by
              have := chunks_le bs.length p bs y (List.mem_of_getElem? hy)
              omega
            (refine x_block ?_)
            refine x_script 13 [(0,false),(1,false),(2,false),(3,false),(4,false),(5,false),(6,false),(11,false),(12,false),(7,true),(8,false),(9,true),(10,true),(13,true)] [Row b (i * 3) [sv x.safe, .slice ca chg.length cc, sv x.now], Row px 0 [.pointer (some ⟨b, 0 + i * 3, none⟩)]] mixed (by kernel_rfl) permF ?_
            (refine s_v rfl (v_load rfl rfl rfl) ?_)
            (refine s_v rfl (v_load rfl rfl rfl) ?_)
            (refine s_v rfl (v_nilCheck rfl) ?_)
            (refine s_v rfl (v_fieldAddr rfl) ?_)
            refine s_v rfl (v_loadI (i := 1) rfl (by omega) rfl) ?_
            (refine s_v rfl (v_move rfl) ?_)
            (refine s_v rfl (v_move rfl) ?_)
            (refine s_v rfl (v_nilCheck rfl) ?_)
            (refine s_v rfl (v_fieldAddr rfl) ?_)
            refine s_x rfl (o_call rfl (clone_spec R' hyl) rfl ?_)
            rintro v B ⟨a1, c1, rfl, rfl⟩
            refine ⟨permF, ?_⟩
            (simp only [List.cons_append, List.nil_append])
            refine s_v rfl (v_build rfl (by rfl)) ?_
            refine s_x rfl (o_buildSlice rfl (by rfl) (by rfl) (by rfl) (by rfl) rfl (fun a2 => ?_))
            refine ⟨permF, ?_⟩
            refine s_x rfl (o_appendT rfl rfl (by rfl) (by rfl) (by rfl) (by omega) rfl (fun a3 c3 hc => ?_))
            refine ⟨permF, ?_⟩
            refine s_xt rfl rfl ?_
            refine o_storeI (i := 1) rfl rfl rfl (by omega) rfl ?_
            dsimp only [List.set]
            refine s_end rfl ?_
            (refine x_inBlock ?_)
            refine x_mem ?_ (hend _)
            refine (Sub.h (Δ := Sl 3 a3 (chg.length + 1) c3 (chg.flatMap CX.cells ++ [.bool false, .int .i64 y.1, .slice a1 y.2.length c1]) :: Sl 1 a1 y.2.length c1 (y.2.map bv) :: Inn (chg.map CX.s) :: Row b (i * 3) [sv x.safe, .slice a3 (chg.length + 1) c3, sv x.now] :: Rec l r .busy none :: A :: Row px 0 [.pointer (some ⟨b, 0 + i * 3, none⟩)] :: Θ)).trans ?_
            refine (Ent.chg_snoc _).trans ?_
            have e1 : chg.length + 1 = (chg ++ [CX.mk false y.1 (a1, c1, y.2)]).length := by simp
            rw [e1]
            refine (Sub.h (Δ := Row b (i * 3) [sv x.safe, .slice a3 (chg ++ [CX.mk false y.1 (a1, c1, y.2)]).length c3, sv x.now] :: Sl 3 a3 (chg ++ [CX.mk false y.1 (a1, c1, y.2)]).length c3 ((chg ++ [CX.mk false y.1 (a1, c1, y.2)]).flatMap CX.cells) :: Inn ((chg ++ [CX.mk false y.1 (a1, c1, y.2)]).map CX.s) :: Rec l r .busy none :: A :: Row px 0 [.pointer (some ⟨b, 0 + i * 3, none⟩)] :: Θ)).trans ?_
            refine (Ent.wri (l := x.chg.map CX.abs ++ (newChg p bs).take (j + 1)) ?_ _).trans (by (simp only [List.cons_append, List.nil_append]); exact Sub.h)
            have hnj : (newChg p bs)[j]? = some ⟨false, y.1, y.2⟩ := by unfold newChg; rw [List.getElem?_map, hy]; rfl
            rw [List.map_append, hchg, List.take_add_one, hnj]
            simp [CX.abs]
          · intro D
            (refine x_inBlock ?_; refine x_seq ?_)
            refine x_mem (Γ' := WrI b i (sv x.safe) (sv x.now) (x.chg.map CX.abs ++ (newChg p bs).take (pcs bs.length p bs a cap).length) :: Marks [D] :: A :: Row px 0 [.pointer (some ⟨b, 0 + i * 3, none⟩)] :: sp x.safe :: sp x.now :: Hole (FileI b) fs.val i :: Hid (Flags b d.step.off d.step.uo d.step.ub) :: Γ) (by (simp only [List.cons_append, List.nil_append]); exact Sub.h) ?_
            refine x_open (fun E w s => s.wri) ?_
            rintro ⟨⟨ca, cc, chg⟩, hchg⟩
            dsimp only at hchg ⊢
            refine x_script 10 [(0,false),(1,false),(2,false),(3,false),(4,false),(5,false),(6,false),(8,false),(9,false),(7,true),(10,true)] [Row b (i * 3) [sv x.safe, .slice ca chg.length cc, sv x.now], Row px 0 [.pointer (some ⟨b, 0 + i * 3, none⟩)]] mixed (by kernel_rfl) permF ?_
            (refine s_v rfl (v_load rfl rfl rfl) ?_)
            (refine s_v rfl (v_load rfl rfl rfl) ?_)
            (refine s_v rfl (v_nilCheck rfl) ?_)
            (refine s_v rfl (v_fieldAddr rfl) ?_)
            refine s_v rfl (v_loadI (i := 2) rfl (by omega) rfl) ?_
            (refine s_v rfl (v_move rfl) ?_)
            (refine s_v rfl (v_move rfl) ?_)
            (refine s_v rfl (v_nilCheck rfl) ?_)
            (refine s_v rfl (v_fieldAddr rfl) ?_)
            refine s_x rfl (o_call rfl (laid_spec R hsm.1 hpl (by omega) hcap) rfl ?_)
            rintro v B ⟨a1, c1, rfl, rfl⟩
            refine ⟨permF, ?_⟩
            (simp only [List.cons_append, List.nil_append])
            refine s_xt rfl rfl ?_
            refine o_storeI (i := 2) rfl rfl rfl (by omega) rfl ?_
            dsimp only [List.set]
            refine s_end rfl ?_
            (refine x_seq (x_region ?_); refine r_op (o_assign rfl rfl ?_); refine r_nil ?_)
            refine x_retM rfl [DiskI b (d.write i p bs).1, A] ⟨by rw [e]; rfl, rfl⟩ ?_
            refine (Sub.h (Δ := Row b (i * 3) [sv x.safe, .slice ca chg.length cc, sv (a1, c1, over x.now.2.2 p bs)] :: sp x.safe :: sp (a1, c1, over x.now.2.2 p bs) :: Sl 3 ca chg.length cc (chg.flatMap CX.cells) :: Inn (chg.map CX.s) :: Hole (FileI b) fs.val i :: Hid (Flags b d.step.off d.step.uo d.step.ub) :: A :: Γ)).trans ?_
            have := hclose ⟨x.safe, ca, cc, chg, (a1, c1, over x.now.2.2 p bs)⟩ (A :: Γ)
            refine this.trans ?_
            have e2 : FX.abs ⟨x.safe, ca, cc, chg, (a1, c1, over x.now.2.2 p bs)⟩ = x.abs.write p bs := by
              unfold FX.abs Fl.write
              rw [hchg, hpc, List.take_of_length_le (by simp [newChg])]
            rw [e2, e]
            exact Sub.h
          · intro D c j
            refine x_mem (Ent.perm (.swap _ _ _)) ?_
            refine x_fact (p := False) (fun E w s => s.fact.1) fun h => h.elim
  · (refine r_op (o_assign rfl rfl ?_); refine r_nil ?_; refine x_seq (x_region ?_); refine r_op (o_move rfl rfl ?_); refine r_op (o_neq_t rfl rfl (by omega) rfl ?_); refine r_nil ?_; refine x_true rfl ?_; refine x_seq (x_region ?_); refine r_op (o_move rfl rfl ?_); refine r_op (o_assign rfl rfl ?_); refine r_nil ?_)
    refine x_ret rfl [DiskI b d.step, A] ⟨by simp [retV, Dk.write, h], by simp [Dk.write, h]⟩ ((hd0 _).trans Sub.h)
end Go.Proofs.Ythneebbmodkjiaa

namespace Go.Proofs.Ythneebbmodkjiaa
open Go.Proofs

def Fl.cut (x : Fl) (n : Nat) : Fl := ⟨x.safe, x.chg ++ [⟨true, n, []⟩], x.now.take n⟩
def Dk.cut (d : Dk) (f n : Int) : Dk × Int :=
  if d.counts f ≠ 0 then (d.step, d.counts f) else if n < 0 ∨ ((d.file f).now.length : Int) < n then (d.step, 1)
  else ({ d.step with fs := d.fs.set f.toNat ((d.file f).cut n.toNat) }, 0)

theorem cut_spec (b : Nat) (d : Dk) (f n : Int) (hs : d.small) :
    Spec Try.prog 38 [dp b, .int .i64 f, .int .i64 n] [DiskI b d] (fun v B => v = .int .i64 (d.cut f n).2 ∧ B = [DiskI b (d.cut f n).1]) := by
  refine Spec.of_ex Try.func38 rfl Try.ntmps38 rfl fun E cs Γ => ?_
  (simp only [argRho, Nat.reduceAdd, List.cons_append, List.nil_append])
  refine x_open (fun E w s => s.disk) fun fs => ?_
  obtain ⟨s1, s2, s3, s4⟩ := step_flags d
  have hle := step_le fs.2.2.2
  (refine x_seq (x_region ?_); refine r_op (o_assign rfl rfl ?_); refine r_nil ?_; refine x_seq ?_; refine x_seq (x_region ?_); refine r_op (o_move rfl rfl ?_); refine r_op (o_move rfl rfl ?_))
  (refine r_op ?_)
  refine o_call rfl (counts_spec b d.off d.uo d.ub f fs.2.2.2.1 fs.2.2.2.2) rfl ?_
  rintro v B ⟨rfl, rfl⟩
  (simp only [List.cons_append, List.nil_append])
  rw [counts_flags, s1, s2, s3]
  have hd0 : ∀ Θ, Ent (Flags b d.step.off d.step.uo d.step.ub :: FilesX b fs.1 :: Θ) (DiskI b d.step :: Θ) := fun Θ => by
    have := Ent.diskF (b := b) (o := d.step.off) fs hle.1 hle.2 Θ
    rw [step_eta] at this; exact this
  by_cases h : d.counts f = 0
  · obtain ⟨h0, i, rfl, hi⟩ := counts_nz h
    rw [h]
    (refine r_op (o_assign rfl rfl ?_); refine r_nil ?_; refine x_seq (x_region ?_); refine r_op (o_move rfl rfl ?_); refine r_op (o_neq_f rfl rfl (by omega) rfl ?_); refine r_nil ?_; refine x_false rfl ?_; refine x_skip ?_; refine x_seq (x_region ?_); refine r_op (o_move rfl rfl ?_); refine r_op (o_move rfl rfl ?_); refine r_op (o_nilCheck rfl rfl ?_); refine r_op (o_fieldAddr rfl rfl ?_))
    refine r_mem (Ent.open fs hi _ Γ) ?_
    have hg := fs.get hi
    have hsm := fs.small hs hi
    have hshut := fun Θ => Ent.shut (b := b) (o := d.step.off) fs hi hle.1 hle.2 Θ
    have hclose := fun y Θ => Ent.close (b := b) (o := d.step.off) fs hi y hle.1 hle.2 Θ
    obtain ⟨x, hx⟩ : ∃ x, (fs.1[i]'(fs.len hi)) = x := ⟨_, rfl⟩
    have hnow : (d.file i).now = x.now.2.2 := by rw [hg, hx]; rfl
    rw [hx] at hshut hsm ⊢
    (refine r_op ?_)
    refine o_indexA rfl rfl (j := i) rfl hi rfl ?_
    (refine r_op (o_assign rfl rfl ?_); refine r_nil ?_; refine x_seq ?_; refine x_seq (x_region ?_); refine r_op (o_move rfl rfl ?_))
    have hr1 : ∀ e : Int, (d.cut i n) = (d.step, e) → Ent (Row b (i * 3) x.cells :: sp x.safe :: sp x.now :: Sl 3 x.ca x.chg.length x.cc (List.flatMap CX.cells x.chg) :: Inn (List.map CX.s x.chg) :: Hole (FileI b) fs.val i :: Hid (Flags b d.step.off d.step.uo d.step.ub) :: Γ) (DiskI b (d.cut i n).1 :: Γ) := by
      intro e he
      rw [he]
      have := hshut Γ
      rw [step_eta] at this
      exact this
    by_cases h1 : n < 0
    · (refine r_op (o_lss_t rfl rfl (by omega) rfl ?_); refine r_op (o_move rfl rfl ?_); refine r_skip rfl rfl rfl ?_; refine r_skip rfl rfl rfl ?_; refine r_skip rfl rfl rfl ?_; refine r_skip rfl rfl rfl ?_; refine r_skip rfl rfl rfl ?_; refine r_skip rfl rfl rfl ?_; refine r_skip rfl rfl rfl ?_; refine r_op (o_pick_t rfl rfl rfl ?_); refine r_nil ?_; refine x_true rfl ?_; refine x_seq (x_region ?_); refine r_op (o_assign rfl rfl ?_); refine r_nil ?_)
      have e : d.cut i n = (d.step, 1) := by unfold Dk.cut; rw [if_neg (by simpa using h), if_pos (.inl h1)]
      exact x_ret rfl [DiskI b (d.cut i n).1] ⟨by rw [e]; rfl, rfl⟩ ((hr1 _ e).trans Sub.h)
    · by_cases h2 : (x.now.2.2.length : Int) < n
      · (refine r_op (o_lss_f rfl rfl (by omega) rfl ?_); refine r_op (o_move rfl rfl ?_); refine r_guard rfl (o_move rfl rfl ?_); refine r_guard rfl (o_move rfl rfl ?_); refine r_guard rfl (o_nilCheck rfl rfl ?_); refine r_guard rfl (o_fieldAddr rfl rfl ?_); refine r_guard rfl (o_loadI (i := 2) rfl (by omega) rfl rfl ?_); refine r_guard rfl (o_lenS rfl rfl ?_); refine r_guard rfl (o_gtr_t rfl rfl (by omega) rfl ?_); refine r_op (o_pick_f rfl rfl rfl ?_); refine r_nil ?_; refine x_true rfl ?_; refine x_seq (x_region ?_); refine r_op (o_assign rfl rfl ?_); refine r_nil ?_)
        have e : d.cut i n = (d.step, 1) := by unfold Dk.cut; rw [if_neg (by simpa using h), if_pos (.inr (by rw [hnow]; exact h2))]
        exact x_ret rfl [DiskI b (d.cut i n).1] ⟨by rw [e]; rfl, rfl⟩ ((hr1 _ e).trans Sub.h)
      · obtain ⟨p, rfl⟩ : ∃ p : Nat, n = p := ⟨n.toNat, by omega⟩
        have e : d.cut i p = ({ d.step with fs := d.fs.set i (x.abs.cut p) }, 0) := by
          unfold Dk.cut; rw [if_neg (by simpa using h), if_neg (by rw [hnow]; omega)]; rw [hg, hx]; simp
        (refine r_op (o_lss_f rfl rfl (by omega) rfl ?_); refine r_op (o_move rfl rfl ?_); refine r_guard rfl (o_move rfl rfl ?_); refine r_guard rfl (o_move rfl rfl ?_); refine r_guard rfl (o_nilCheck rfl rfl ?_); refine r_guard rfl (o_fieldAddr rfl rfl ?_); refine r_guard rfl (o_loadI (i := 2) rfl (by omega) rfl rfl ?_); refine r_guard rfl (o_lenS rfl rfl ?_); refine r_guard rfl (o_gtr_f rfl rfl (by omega) rfl ?_); refine r_op (o_pick_f rfl rfl rfl ?_); refine r_nil ?_; refine x_false rfl ?_; refine x_skip ?_; refine x_seq (x_region ?_); refine r_op (o_move rfl rfl ?_); refine r_op (o_move rfl rfl ?_); refine r_op (o_nilCheck rfl rfl ?_); refine r_op (o_fieldAddr rfl rfl ?_); refine r_op (o_loadI (i := 1) rfl (by omega) rfl rfl ?_); refine r_op (o_move rfl rfl ?_))
        (refine r_op ?_)
        refine o_build rfl rfl rfl ?_
        (refine r_op ?_)
        refine o_buildSlice rfl (by rfl) (by rfl) (by rfl) (by rfl) rfl (fun a2 => ?_)
        (refine r_op ?_)
        refine o_appendT rfl rfl (by rfl) (by rfl) (by rfl) (by omega) rfl (fun a3 c3 hc => ?_)
        (refine r_op (o_nilCheck rfl rfl ?_); refine r_op (o_fieldAddr rfl rfl ?_); refine r_do (o_storeI (i := 1) rfl rfl rfl (by omega) rfl ?_); (try dsimp only [List.set]); refine r_nil ?_; refine x_seq (x_region ?_); refine r_op (o_move rfl rfl ?_); refine r_op (o_move rfl rfl ?_); refine r_op (o_nilCheck rfl rfl ?_); refine r_op (o_fieldAddr rfl rfl ?_); refine r_op (o_loadI (i := 2) rfl (by omega) rfl rfl ?_); refine r_op (o_move rfl rfl ?_))
        refine r_sl x.now.1 fun _ hcap => ?_
        (refine r_op ?_)
        refine o_sliceHi rfl rfl (jh := p) rfl (by omega) rfl ?_
        have R := (Sl.reads 1 x.now.1 x.now.2.2.length x.now.2.1 (x.now.2.2.map bv) (by simp)).firstN p (by omega)
        have e1 : ((x.now.2.2.map bv).take (p * 1)) = (x.now.2.2.take p).map bv := by simp [List.map_take]
        rw [e1] at R
        (refine r_op ?_)
        refine o_call rfl (clone_spec R (by omega)) rfl ?_
        rintro v B ⟨a', cap', rfl, rfl⟩
        (simp only [List.cons_append, List.nil_append])
        (refine r_op (o_nilCheck rfl rfl ?_); refine r_op (o_fieldAddr rfl rfl ?_); refine r_do (o_storeI (i := 2) rfl rfl rfl (by omega) rfl ?_); (try dsimp only [List.set]); refine r_nil ?_; refine x_seq (x_region ?_); refine r_op (o_assign rfl rfl ?_); refine r_nil ?_)
        refine x_ret rfl [DiskI b (d.cut i p).1] ⟨by rw [e]; rfl, rfl⟩ ?_
        have el : (x.now.2.2.take p).length = p := by simp; omega
        refine (Ent.nilSl 1 _).trans ?_
        refine (Sub.h (Δ := Sl 3 a3 (x.chg.length + 1) c3 (x.chg.flatMap CX.cells ++ [.bool true, .int .i64 p, .slice none 0 0]) :: Sl 1 none 0 0 [] :: Inn (x.chg.map CX.s) :: Row b (i * 3) [sv x.safe, .slice a3 (x.chg.length + 1) c3, .slice a' p cap'] :: Sl 1 a' p cap' ((x.now.2.2.take p).map bv) :: sp x.safe :: Hole (FileI b) fs.val i :: Hid (Flags b d.step.off d.step.uo d.step.ub) :: Γ)).trans ?_
        refine (Ent.chg_snoc (bs := []) (c1 := 0) (a1 := none) _).trans ?_
        have e2 : x.chg.length + 1 = (x.chg ++ [CX.mk true p (none, 0, [])]).length := by simp
        have e3 : .slice a' p cap' = sv (a', cap', x.now.2.2.take p) := by simp [sv, el]
        have e4 : Sl 1 a' p cap' ((x.now.2.2.take p).map bv) = sp (a', cap', x.now.2.2.take p) := by simp [sp, el]
        rw [e2, e3, e4]
        refine Ent.trans ?_ ((hclose ⟨x.safe, a3, c3, x.chg ++ [CX.mk true p (none, 0, [])], (a', cap', x.now.2.2.take p)⟩ Γ).trans ?_)
        · exact Sub.h
        · rw [e]
          have e5 : FX.abs ⟨x.safe, a3, c3, x.chg ++ [CX.mk true p (none, 0, [])], (a', cap', x.now.2.2.take p)⟩ = x.abs.cut p := by
            simp [FX.abs, Fl.cut, CX.abs]
          rw [e5]
          exact Sub.h
  · (refine r_op (o_assign rfl rfl ?_); refine r_nil ?_; refine x_seq (x_region ?_); refine r_op (o_move rfl rfl ?_); refine r_op (o_neq_t rfl rfl (by omega) rfl ?_); refine r_nil ?_; refine x_true rfl ?_; refine x_seq (x_region ?_); refine r_op (o_move rfl rfl ?_); refine r_op (o_assign rfl rfl ?_); refine r_nil ?_)
    refine x_ret rfl [DiskI b d.step] ⟨by simp [retV, Dk.cut, h], by simp [Dk.cut, h]⟩ ((hd0 _).trans Sub.h)

def Fl.sync (x : Fl) : Fl := ⟨x.now, [], x.now⟩
def Dk.sync (d : Dk) (f : Int) : Dk × Int :=
  if d.counts f ≠ 0 then (d.step, d.counts f) else ({ d.step with fs := d.fs.set f.toNat (d.file f).sync }, 0)
theorem sync_spec (b : Nat) (d : Dk) (f : Int) (hs : d.small) :
    Spec Try.prog 32 [dp b, .int .i64 f] [DiskI b d] (fun v B => v = .int .i64 (d.sync f).2 ∧ B = [DiskI b (d.sync f).1]) := by
  refine Spec.of_ex Try.func32 rfl Try.ntmps32 rfl fun E cs Γ => ?_
  (simp only [argRho, Nat.reduceAdd, List.cons_append, List.nil_append])
  refine x_open (fun E w s => s.disk) fun fs => ?_
  obtain ⟨s1, s2, s3, s4⟩ := step_flags d
  have hle := step_le fs.2.2.2
  (refine x_seq (x_region ?_); refine r_op (o_assign rfl rfl ?_); refine r_nil ?_; refine x_seq ?_; refine x_seq (x_region ?_); refine r_op (o_move rfl rfl ?_); refine r_op (o_move rfl rfl ?_))
  (refine r_op ?_)
  refine o_call rfl (counts_spec b d.off d.uo d.ub f fs.2.2.2.1 fs.2.2.2.2) rfl ?_
  rintro v B ⟨rfl, rfl⟩
  (simp only [List.cons_append, List.nil_append])
  rw [counts_flags, s1, s2, s3]
  have hd0 : ∀ Θ, Ent (Flags b d.step.off d.step.uo d.step.ub :: FilesX b fs.1 :: Θ) (DiskI b d.step :: Θ) := fun Θ => by
    have := Ent.diskF (b := b) (o := d.step.off) fs hle.1 hle.2 Θ
    rw [step_eta] at this; exact this
  by_cases h : d.counts f = 0
  · obtain ⟨h0, i, rfl, hi⟩ := counts_nz h
    rw [h]
    (refine r_op (o_assign rfl rfl ?_); refine r_nil ?_; refine x_seq (x_region ?_); refine r_op (o_move rfl rfl ?_); refine r_op (o_neq_f rfl rfl (by omega) rfl ?_); refine r_nil ?_; refine x_false rfl ?_; refine x_skip ?_; refine x_seq (x_region ?_); refine r_op (o_move rfl rfl ?_); refine r_op (o_move rfl rfl ?_); refine r_op (o_nilCheck rfl rfl ?_); refine r_op (o_fieldAddr rfl rfl ?_))
    refine r_mem (Ent.open fs hi _ Γ) ?_
    have hg := fs.get hi
    have hsm := fs.small hs hi
    have hclose := fun y Θ => Ent.close (b := b) (o := d.step.off) fs hi y hle.1 hle.2 Θ
    obtain ⟨x, hx⟩ : ∃ x, (fs.1[i]'(fs.len hi)) = x := ⟨_, rfl⟩
    rw [hx] at hsm ⊢
    (refine r_op ?_)
    refine o_indexA rfl rfl (j := i) rfl hi rfl ?_
    (refine r_op (o_assign rfl rfl ?_); refine r_nil ?_; refine x_seq (x_region ?_); refine r_op (o_move rfl rfl ?_); refine r_op (o_move rfl rfl ?_); refine r_op (o_move rfl rfl ?_); refine r_op (o_nilCheck rfl rfl ?_); refine r_op (o_fieldAddr rfl rfl ?_); refine r_op (o_loadI (i := 2) rfl (by omega) rfl rfl ?_))
    have R := (Sl.reads 1 x.now.1 x.now.2.2.length x.now.2.1 (x.now.2.2.map bv) (by simp))
    have e : d.sync i = ({ d.step with fs := d.fs.set i x.abs.sync }, 0) := by
      unfold Dk.sync; rw [if_neg (by simpa using h)]; rw [hg, hx]; simp
    (refine r_op ?_)
    refine o_call rfl (clone_spec R (by omega)) rfl ?_
    rintro v B ⟨a', cap', rfl, rfl⟩
    (simp only [List.cons_append, List.nil_append])
    (refine r_op (o_nilCheck rfl rfl ?_); refine r_op (o_fieldAddr rfl rfl ?_); refine r_do (o_storeI (i := 0) rfl rfl rfl (by omega) rfl ?_); (try dsimp only [List.set]); refine r_op (o_nilCheck rfl rfl ?_); refine r_op (o_fieldAddr rfl rfl ?_); refine r_do (o_storeI (i := 1) rfl rfl rfl (by omega) rfl ?_); (try dsimp only [List.set]); refine r_nil ?_; refine x_seq (x_region ?_); refine r_op (o_assign rfl rfl ?_); refine r_nil ?_)
    refine x_ret rfl [DiskI b (d.sync i).1] ⟨by rw [e]; rfl, rfl⟩ ?_
    refine ((Ent.nilSl 3 _).trans (Ent.inn_nil _)).trans ?_
    refine Ent.trans ?_ ((hclose ⟨(a', cap', x.now.2.2), none, 0, [], x.now⟩ Γ).trans ?_)
    · exact (Sub.h (Δ := Row b (i * 3) [.slice a' x.now.2.2.length cap', .slice none 0 0, sv x.now] :: Sl 1 a' x.now.2.2.length cap' (x.now.2.2.map bv) :: sp x.now :: Sl 3 none 0 0 [] :: Inn [] :: Hole (FileI b) fs.val i :: Hid (Flags b d.step.off d.step.uo d.step.ub) :: Γ))
    · rw [e]
      exact Ent.refl (DiskI b ⟨d.fs.set i x.abs.sync, d.step.off, d.step.uo, d.step.ub⟩ :: Γ)
  · (refine r_op (o_assign rfl rfl ?_); refine r_nil ?_; refine x_seq (x_region ?_); refine r_op (o_move rfl rfl ?_); refine r_op (o_neq_t rfl rfl (by omega) rfl ?_); refine r_nil ?_; refine x_true rfl ?_; refine x_seq (x_region ?_); refine r_op (o_move rfl rfl ?_); refine r_op (o_assign rfl rfl ?_); refine r_nil ?_)
    refine x_ret rfl [DiskI b d.step] ⟨by simp [retV, Dk.sync, h], by simp [Dk.sync, h]⟩ ((hd0 _).trans Sub.h)
end Go.Proofs.Ythneebbmodkjiaa
