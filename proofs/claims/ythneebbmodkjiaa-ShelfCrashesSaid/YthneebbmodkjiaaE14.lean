/- Part of a proof over the seat Ythneebbmodkjiaa: module E14. Its claim's last module says what is proved. -/
import Derived.Test.YthneebbmodkjiaaE13
namespace Go.Proofs.Ythneebbmodkjiaa
open Go.Proofs

abbrev tv (t : Tx) : Value := .string (bstr t)
/-- The texts. -/
def Sh.texts (s : Sh) : List Tx := (live 0 s.es).map Prod.snd
set_option maxHeartbeats 800000 in
theorem texts_spec (ps b : Nat) (s : Sh) (hl : s.es.length ≤ 1000) :
    Spec Try.prog 66 [dp ps] [ShelfI ps b s] (fun v B => ∃ a c, v = .slice a s.texts.length c ∧ B = [ShelfI ps b s, Sl 1 a s.texts.length c (s.texts.map tv)]) := by
  have hll := live_len s.es 0
  refine Spec.of_ex Try.func66 rfl Try.ntmps66 rfl fun E cs Γ => ?_
  (simp only [argRho, List.cons_append, List.nil_append])
  (refine x_seq (x_region ?_); refine r_op (o_assign rfl rfl ?_); refine r_nil ?_; refine x_seq (x_region ?_); refine r_op (o_move rfl rfl ?_))
  (refine r_op ?_)
  refine o_call rfl (entries_spec ps b 1000 s (by omega) (by decide)) rfl ?_
  rintro v B ⟨a, c, rfl, rfl⟩
  obtain ⟨L, hL⟩ : ∃ L, live 0 s.es = L := ⟨_, rfl⟩
  rw [hL] at hll ⊢
  rw [List.take_of_length_le (by omega)]
  have ht : s.texts = L.map Prod.snd := by unfold Sh.texts; rw [hL]
  rw [ht]
  have R := Sl.reads 2 a L.length c (L.flatMap yv) (flen yv_cl L)
  (simp only [List.cons_append, List.nil_append])
  (refine r_op (o_assign rfl rfl ?_); refine r_nil ?_; refine x_seq (x_region ?_); refine r_op (o_assign rfl rfl ?_); refine r_nil ?_; refine x_seq ?_; refine x_seq (x_region ?_); refine r_op (o_assign rfl rfl ?_); refine r_nil ?_; refine x_block ?_)
  refine x_mem (Γ' := Sl 1 none 0 0 ([] : List Value) :: Sl 2 a L.length c (L.flatMap yv) :: ShelfI ps b s :: Γ) ((Ent.nilSl 1 _).trans Sub.h) ?_
  refine x_loop (α := Nat × Option Addr × Nat) (fun q => q.1 ≤ L.length) (fun q => [(0, dp ps), (3, .slice a L.length c), (4, .slice q.2.1 q.1 q.2.2), (5, .int .i64 q.1)])
    (fun q => Sl 1 q.2.1 q.1 q.2.2 ((L.take q.1).map fun y => tv y.2) :: Sl 2 a L.length c (L.flatMap yv) :: ShelfI ps b s :: Γ) (fun q => L.length - q.1) (0, none, 0) (Nat.zero_le _) ⟨rfl, rfl, rfl, rfl, trivial⟩ (.refl _) ?_
  rintro ⟨i, a4, c4⟩ hi back
  dsimp only at hi ⊢
  (refine x_seq ?_; refine x_seq (x_region ?_); refine r_op (o_move rfl rfl ?_); refine r_op (o_move rfl rfl ?_); refine r_op (o_lenS rfl rfl ?_))
  (refine r_op ?_)
  refine o_lss rfl rfl rfl (fun h => ?_) (fun h => ?_)
  · have hi1 : i < L.length := by omega
    (refine r_nil ?_; refine x_true rfl ?_; refine x_skip ?_; refine x_seq ?_; refine x_block ?_; refine x_region ?_; refine r_op (o_move rfl rfl ?_); refine r_op (o_move rfl rfl ?_); refine r_op (o_move rfl rfl ?_))
    (refine r_op ?_)
    refine o_indexR rfl rfl R (j := i) rfl hi1 rfl (fun b1 off ha => ?_)
    (refine r_op (o_fieldAddr rfl rfl ?_))
    (refine r_op ?_)
    refine o_loadR rfl R ha (i := i * 2 + 1) (by omega) ((fget yv_cl hi1 1 (by decide)).trans rfl) rfl ?_
    (refine r_op ?_)
    refine o_buildSlice rfl (by rfl) (by rfl) (by rfl) (by rfl) rfl (fun a2 => ?_)
    (refine r_op ?_)
    refine o_appendT rfl rfl (by rfl) (by rfl) (by rfl) (by omega) rfl (fun a3 c3 hc => ?_)
    (refine r_op (o_assign rfl rfl ?_); refine r_nil ?_; refine x_inBlock ?_; refine x_region ?_; refine r_op (o_move rfl rfl ?_); refine r_op (o_add rfl rfl (add_i64 (by omega)) rfl ?_); refine r_op (o_assign rfl rfl ?_); refine r_nil ?_)
    refine x_mem (Γ' := Sl 1 a3 (i + 1) c3 ((L.take (i + 1)).map fun y => tv y.2) :: Sl 2 a L.length c (L.flatMap yv) :: ShelfI ps b s :: Γ) (by rw [List.take_succ_eq_append_getElem hi1, List.map_append]; exact .refl _) ?_
    refine x_weak (back (i + 1, a3, c3) (by dsimp only; omega) (by dsimp only; omega)) (by (repeat' (first | exact trivial | refine ⟨rfl, ?_⟩))) Sub.h
  · have e : i = L.length := by omega
    subst e
    rw [List.take_length]
    (refine r_nil ?_; refine x_false rfl ?_; refine x_exit rfl ?_; refine x_seq (x_region ?_); refine r_op (o_move rfl rfl ?_); refine r_op (o_assign rfl rfl ?_); refine r_nil ?_)
    exact x_ret rfl [ShelfI ps b s, Sl 1 a4 (L.map Prod.snd).length c4 ((L.map Prod.snd).map tv)] ⟨a4, c4, by rw [List.length_map]; rfl, rfl⟩ (by
      rw [List.length_map, List.map_map]
      rw [show L.map (tv ∘ Prod.snd) = L.map (fun y => tv y.2) from rfl]
      exact Sub.h)
theorem tget {l : List Tx} {i : Nat} (h : i < l.length) : (l.map tv)[i]? = some (tv l[i]) := by simp [h]
/-- Texts that lie somewhere. -/
theorem eqStr_spec {A B : HP} {a a' : Option Addr} {c c' : Nat} {l m : List Tx} (R : Reads A 1 a l.length (l.map tv)) (R' : Reads B 1 a' m.length (m.map tv)) (hl : l.length ≤ 2 ^ 40) :
    Spec Try.prog 65 [.slice a l.length c, .slice a' m.length c'] [A, B] (fun v B' => v = .bool (decide (l = m)) ∧ B' = [A, B]) := by
  refine Spec.of_ex Try.func65 rfl Try.ntmps65 rfl fun E cs Γ => ?_
  (simp only [argRho, Nat.reduceAdd, List.cons_append, List.nil_append])
  by_cases hlm : l.length = m.length
  · (refine x_seq (x_region ?_); refine r_op (o_assign rfl rfl ?_); refine r_nil ?_; refine x_seq ?_; refine x_seq (x_region ?_); refine r_op (o_move rfl rfl ?_); refine r_op (o_lenS rfl rfl ?_); refine r_op (o_move rfl rfl ?_); refine r_op (o_lenS rfl rfl ?_); refine r_op (o_neq_f rfl rfl (by omega) rfl ?_); refine r_nil ?_; refine x_false rfl ?_; refine x_skip ?_; refine x_seq ?_; refine x_seq (x_region ?_); refine r_op (o_assign rfl rfl ?_); refine r_nil ?_; refine x_block ?_)
    refine x_loop (α := Nat) (fun i => i ≤ l.length ∧ l.take i = m.take i) (fun i => [(0, .slice a l.length c), (1, .slice a' m.length c'), (5, .int .i64 i)]) (fun i => A :: B :: Γ)
      (fun i => l.length - i) 0 ⟨Nat.zero_le _, rfl⟩ ⟨rfl, rfl, rfl, trivial⟩ (.refl _) ?_
    rintro i ⟨hi, hp⟩ back
    (refine x_seq ?_; refine x_seq (x_region ?_); refine r_op (o_move rfl rfl ?_); refine r_op (o_move rfl rfl ?_); refine r_op (o_lenS rfl rfl ?_))
    (refine r_op ?_)
    refine o_lss rfl rfl rfl (fun h => ?_) (fun h => ?_)
    · (refine r_nil ?_; refine x_true rfl ?_; refine x_skip ?_; refine x_seq ?_; refine x_block ?_; refine x_seq ?_)
      refine x_base R (by omega) fun b1 o1 ha => ?_
      refine x_base R' (by omega) fun b2 o2 hb => ?_
      refine x_script 9 [(0,false),(1,false),(2,false),(3,false),(4,false),(5,false),(6,false),(7,false),(8,false)] [A, B] mixed (by kernel_rfl) permF ?_
      (refine s_v rfl (v_move rfl) ?_; refine s_v rfl (v_move rfl) ?_)
      refine s_v rfl (v_indexH rfl rfl ha (j := i) rfl (by omega)) ?_
      refine s_v rfl (v_loadR rfl R ha (i := i) (by omega) (tget (by omega))) ?_
      (refine s_v rfl (v_move rfl) ?_; refine s_v rfl (v_move rfl) ?_)
      refine s_v rfl (v_indexH rfl rfl hb (j := i) rfl (by omega)) ?_
      refine s_v rfl (v_loadR rfl R' hb (i := i) (by omega) (tget (by omega))) ?_
      by_cases hx : l[i]'(by omega) = m[i]'(by omega)
      · refine s_v rfl (v_sneq_f rfl rfl (by rw [hx])) ?_
        refine s_end rfl ?_
        (refine x_false rfl ?_; refine x_skip ?_; refine x_inBlock ?_; refine x_region ?_; refine r_op (o_move rfl rfl ?_); refine r_op (o_add rfl rfl (add_i64 (by omega)) rfl ?_); refine r_op (o_assign rfl rfl ?_); refine r_nil ?_)
        refine x_weak (back (i + 1) ⟨by omega, by rw [List.take_succ_eq_append_getElem (by omega), List.take_succ_eq_append_getElem (by omega), hp, hx]⟩ (by omega)) (by (repeat' (first | exact trivial | refine ⟨rfl, ?_⟩))) Sub.h
      · refine s_v rfl (v_sneq_t rfl rfl (fun h => hx (bstr_inj h))) ?_
        refine s_end rfl ?_
        (refine x_true rfl ?_; refine x_seq (x_region ?_); refine r_op (o_assign rfl rfl ?_); refine r_nil ?_)
        exact x_ret rfl [A, B] ⟨by rw [decide_eq_false (by rintro rfl; exact hx rfl)]; rfl, rfl⟩ Sub.h
    · have e : i = l.length := by omega
      subst e
      rw [List.take_length, hlm, List.take_length] at hp
      (refine r_nil ?_; refine x_false rfl ?_; refine x_exit rfl ?_; refine x_seq (x_region ?_); refine r_op (o_assign rfl rfl ?_); refine r_nil ?_)
      exact x_ret rfl [A, B] ⟨by rw [decide_eq_true hp]; rfl, rfl⟩ Sub.h
  · (refine x_seq (x_region ?_); refine r_op (o_assign rfl rfl ?_); refine r_nil ?_; refine x_seq ?_; refine x_seq (x_region ?_); refine r_op (o_move rfl rfl ?_); refine r_op (o_lenS rfl rfl ?_); refine r_op (o_move rfl rfl ?_); refine r_op (o_lenS rfl rfl ?_); refine r_op (o_neq_t rfl rfl (by omega) rfl ?_); refine r_nil ?_; refine x_true rfl ?_; refine x_seq (x_region ?_); refine r_op (o_assign rfl rfl ?_); refine r_nil ?_)
    exact x_ret rfl [A, B] ⟨by rw [decide_eq_false (by rintro rfl; exact hlm rfl)]; rfl, rfl⟩ Sub.h
end Go.Proofs.Ythneebbmodkjiaa
