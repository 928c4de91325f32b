/- Part of a proof over the seat Ythneebbmodkjiaa: module E5. Its claim's last module says what is proved. -/
import Derived.Test.YthneebbmodkjiaaE4
namespace Go.Proofs.Ythneebbmodkjiaa
open Go.Proofs

def Sh.del (s : Sh) (d : Dk) (slot : Int) : Sh × Dk × Int :=
  if s.failed then (s, d, 14) else if s.txt slot = none then (s, d, 3)
  else if (mark d s.f s.n slot.toNat 0).2 ≠ 0 then ({ s with failed := true }, (mark d s.f s.n slot.toNat 0).1, (mark d s.f s.n slot.toNat 0).2)
  else ({ s with es := s.es.set slot.toNat none }, (mark d s.f s.n slot.toNat 0).1, 0)
set_option maxHeartbeats 1600000 in
theorem del_spec {N : Nat} (ps b : Nat) (s : Sh) (d : Dk) (slot : Int) (hok : d.okn N) (hN : N + 20 ≤ 2 ^ 20) (hn : s.n ≤ 2 ^ 20) (hl : s.es.length ≤ 2 ^ 20) :
    Spec Try.prog 68 [dp ps, .int .i64 slot] [ShelfI ps b s, DiskI b d] (fun v B => v = .int .i64 (s.del d slot).2.2 ∧ B = [ShelfI ps b (s.del d slot).1, DiskI b (s.del d slot).2.1]) := by
  refine Spec.of_ex Try.func68 rfl Try.ntmps68 rfl fun E cs Γ => ?_
  (simp only [argRho, Nat.reduceAdd, List.cons_append, List.nil_append])
  refine x_open (fun E w st => st.shelf) fun ⟨a, c⟩ => ?_
  dsimp only
  have hback := Ent.shelf (ps := ps) (b := b) s (a := a) (c := c) (DiskI b d :: Γ)
  cases hfl : s.failed
  · rw [hfl] at hback
    (refine x_seq (x_region ?_); refine r_op (o_assign rfl rfl ?_); refine r_nil ?_; refine x_seq ?_; refine x_block ?_; refine x_seq (x_region ?_); refine r_op (o_move rfl rfl ?_); refine r_op (o_nilCheck rfl rfl ?_); refine r_op (o_fieldAddr rfl rfl ?_); refine r_op (o_load rfl rfl rfl rfl ?_); refine r_op (o_assign rfl rfl ?_); refine r_nil ?_; refine x_false rfl ?_; refine x_seq (x_region ?_); refine r_op (o_move rfl rfl ?_); refine r_op (o_move rfl rfl ?_))
    refine r_mem (Γ' := ShelfI ps b s :: DiskI b d :: Γ) ?_ ?_
    · exact hback
    (refine r_op ?_)
    refine o_call rfl (is_spec ps b s slot (by omega)) rfl ?_
    rintro v B ⟨rfl, rfl⟩
    (simp only [List.cons_append, List.nil_append])
    cases ht : s.txt slot with
    | none =>
      have e : s.del d slot = (s, d, 3) := by unfold Sh.del; rw [hfl, if_neg (by simp), if_pos ht]
      rw [e, show (none : Option Tx).isSome = false from rfl]
      (refine r_op (o_not rfl rfl ?_); refine r_op (o_assign rfl rfl ?_); refine r_nil ?_; refine x_true rfl ?_; refine x_seq (x_region ?_); refine r_op (o_assign rfl rfl ?_); refine r_nil ?_)
      exact x_ret rfl [ShelfI ps b s, DiskI b d] ⟨rfl, rfl⟩ Sub.h
    | some t =>
      rw [show (some t : Option Tx).isSome = true from rfl]
      have hi : 0 ≤ slot ∧ slot < s.es.length := by
        apply Classical.byContradiction; intro hn
        rw [Sh.txt_out (by omega)] at ht; cases ht
      obtain ⟨i, rfl⟩ : ∃ i : Nat, slot = i := ⟨slot.toNat, by omega⟩
      have hi1 : i < s.es.length := by omega
      obtain ⟨d', e', hde⟩ : ∃ d' e', mark d s.f s.n i 0 = (d', e') := ⟨_, _, rfl⟩
      (refine r_op (o_not rfl rfl ?_); refine r_op (o_assign rfl rfl ?_); refine r_nil ?_)
      refine x_open (fun E w st => st.shelf) fun ⟨a, c⟩ => ?_
      dsimp only
      rw [hfl]
      have R := sl2_reads a c s.es
      (refine x_false rfl ?_; refine x_skip ?_; refine x_inBlock ?_; refine x_seq ?_; refine x_seq (x_region ?_); refine r_op (o_move rfl rfl ?_); refine r_op (o_move rfl rfl ?_))
      (refine r_op ?_)
      refine o_call rfl (mark_spec ps b s.f s.n (.slice a s.es.length c) false d i 0 hok (by omega) hn (by omega)) rfl ?_
      rintro v B ⟨rfl, rfl⟩
      (simp only [List.cons_append, List.nil_append])
      rw [hde]
      dsimp only
      by_cases h3 : e' = 0
      · have e : s.del d i = ({ s with es := s.es.set i none }, d', 0) := by
          unfold Sh.del; rw [hfl, if_neg (by simp), if_neg (by rw [ht]; simp), Int.toNat_natCast, hde, if_neg (by simpa using h3)]
        rw [h3, e]
        dsimp only
        (refine r_op (o_assign rfl rfl ?_); refine r_nil ?_; refine x_seq (x_region ?_); refine r_op (o_move rfl rfl ?_); refine r_op (o_neq_f rfl rfl (by omega) rfl ?_); refine r_nil ?_; refine x_false rfl ?_; refine x_skip ?_; refine x_seq (x_region ?_); refine r_op (o_move rfl rfl ?_); refine r_op (o_nilCheck rfl rfl ?_); refine r_op (o_fieldAddr rfl rfl ?_); refine r_op (o_load rfl rfl rfl rfl ?_); refine r_op (o_move rfl rfl ?_))
        (refine r_op ?_)
        refine o_build rfl (by rfl) rfl ?_
        (refine r_op ?_)
        refine o_indexR rfl rfl R (j := i) rfl hi1 rfl (fun b1 off ha => ?_)
        (refine r_do ?_)
        refine o_storeSA rfl rfl rfl rfl ha (i := i * 2) (by omega) (by rw [flen enV_cl]; simp; omega) ?_
        have hsf : (s.es.flatMap enV).take (i * 2) ++ [.bool false, .string ⟨#[]⟩] ++ (s.es.flatMap enV).drop (i * 2 + ([.bool false, .string ⟨#[]⟩] : List Value).length) = (s.es.set i none).flatMap enV := set_flat s.es i hi1 none
        refine r_mem (Γ' := Row ps 0 (shRow b s.f s.n (.slice a s.es.length c) false) :: Sl 2 a s.es.length c ((s.es.set i none).flatMap enV) :: DiskI b d' :: Γ) (by rw [← hsf]; exact Sub.h) ?_
        have hb2 := Ent.shelf (ps := ps) (b := b) { s with es := s.es.set i none } (a := a) (c := c) (DiskI b d' :: Γ)
        rw [show ({ s with es := s.es.set i none } : Sh).failed = false from hfl] at hb2
        simp only [List.length_set] at hb2
        (refine r_nil ?_; refine x_seq (x_region ?_); refine r_op (o_assign rfl rfl ?_); refine r_nil ?_)
        refine x_ret rfl [ShelfI ps b { s with es := s.es.set i none }, DiskI b d'] ⟨rfl, rfl⟩ ?_
        rw [show ({ s with es := s.es.set i none } : Sh) = { f := s.f, n := s.n, es := s.es.set i none, failed := false } by rw [← hfl]]
        exact hb2.trans Sub.h
      · have e : s.del d i = ({ s with failed := true }, d', e') := by
          unfold Sh.del; rw [hfl, if_neg (by simp), if_neg (by rw [ht]; simp), Int.toNat_natCast, hde, if_pos (by simpa using h3)]
        have hb2 := Ent.shelf (ps := ps) (b := b) { s with failed := true } (a := a) (c := c) (DiskI b d' :: Γ)
        rw [e]
        dsimp only
        (refine r_op (o_assign rfl rfl ?_); refine r_nil ?_; refine x_seq (x_region ?_); refine r_op (o_move rfl rfl ?_); refine r_op (o_neq_t rfl rfl (by omega) rfl ?_); refine r_nil ?_; refine x_true rfl ?_; refine x_seq (x_region ?_); refine r_op (o_move rfl rfl ?_); refine r_op (o_nilCheck rfl rfl ?_); refine r_op (o_fieldAddr rfl rfl ?_); refine r_do (o_store rfl rfl rfl rfl (by simp) ?_); try dsimp only [Nat.reduceSub, Nat.reduceAdd, List.set]; refine r_nil ?_; refine x_seq (x_region ?_); refine r_op (o_move rfl rfl ?_); refine r_op (o_assign rfl rfl ?_); refine r_nil ?_)
        exact x_ret rfl [ShelfI ps b { s with failed := true }, DiskI b d'] ⟨rfl, rfl⟩ ((Sub.h (Δ := Row ps 0 (shRow b s.f s.n (.slice a s.es.length c) true) :: Sl 2 a s.es.length c (s.es.flatMap enV) :: DiskI b d' :: Γ)).trans (hb2.trans Sub.h))
  · have e : s.del d slot = (s, d, 14) := by unfold Sh.del; rw [hfl, if_pos rfl]
    rw [hfl] at hback
    rw [e]
    (refine x_seq (x_region ?_); refine r_op (o_assign rfl rfl ?_); refine r_nil ?_; refine x_seq ?_; refine x_block ?_; refine x_seq (x_region ?_); refine r_op (o_move rfl rfl ?_); refine r_op (o_nilCheck rfl rfl ?_); refine r_op (o_fieldAddr rfl rfl ?_); refine r_op (o_load rfl rfl rfl rfl ?_); refine r_op (o_assign rfl rfl ?_); refine r_nil ?_; refine x_true rfl ?_; refine x_seq (x_region ?_); refine r_op (o_assign rfl rfl ?_); refine r_nil ?_)
    exact x_ret rfl [ShelfI ps b s, DiskI b d] ⟨rfl, rfl⟩ (hback.trans Sub.h)
end Go.Proofs.Ythneebbmodkjiaa
