/- Part of a proof over the seat Ythneebbmodkjiaa: module E13. Its claim's last module says what is proved. -/
import Derived.Test.YthneebbmodkjiaaE12
namespace Go.Proofs.Ythneebbmodkjiaa
open Go.Proofs

theorem yv_cl (p : Nat × Tx) : (yv p).length = 2 := rfl
theorem yv_one (l : List (Nat × Tx)) : (l.flatMap yv).all Value.oneCell' = true := by
  rw [List.all_flatMap, List.all_eq_true]; intro e _; rfl
/-- Entries that are being gathered. -/
def EnI (p5 : Nat) (l : List (Nat × Tx)) : HP := Any fun q : Option Addr × Nat => Sep [Row p5 0 [.slice q.1 l.length q.2], Sl 2 q.1 l.length q.2 (l.flatMap yv)]
theorem St.eni {E : Env} {p5 : Nat} {l : List (Nat × Tx)} {Γ : List HP} {w : World} (st : St E (EnI p5 l :: Γ) w) : ∃ q : Option Addr × Nat, St E (Row p5 0 [.slice q.1 l.length q.2] :: Sl 2 q.1 l.length q.2 (l.flatMap yv) :: Γ) w := by
  obtain ⟨q, st⟩ := st.ex
  exact ⟨q, (Ent.sep_out [_, _] Γ).st st⟩
theorem Ent.eni {p5 : Nat} (l : List (Nat × Tx)) {a : Option Addr} {c : Nat} (Γ : List HP) : Ent (Row p5 0 [.slice a l.length c] :: Sl 2 a l.length c (l.flatMap yv) :: Γ) (EnI p5 l :: Γ) :=
  (Ent.sep_in [_, _] Γ).trans (Ent.ex (A := fun q : Option Addr × Nat => Sep [Row p5 0 [.slice q.1 l.length q.2], Sl 2 q.1 l.length q.2 (l.flatMap yv)]) (a, c) Γ)
set_option maxHeartbeats 1600000 in
theorem entries_spec (ps b n : Nat) (s : Sh) (hl : s.es.length ≤ 2 ^ 20) (hn : n ≤ 2 ^ 40) :
    Spec Try.prog 73 [dp ps, .int .i64 n] [ShelfI ps b s] (fun v B => ∃ a c, v = .slice a ((live 0 s.es).take n).length c ∧ B = [ShelfI ps b s, Sl 2 a ((live 0 s.es).take n).length c (((live 0 s.es).take n).flatMap yv)]) := by
  have hll := live_len s.es 0
  refine Spec.of_ex Try.func73 rfl Try.ntmps73 rfl fun E cs Γ => ?_
  (simp only [argRho, Nat.reduceAdd, List.cons_append, List.nil_append])
  (refine x_seq ?_); (refine x_region ?_)
  (refine r_op ?_)
  refine o_box rfl rfl rfl (fun p3 => ?_)
  (refine r_op (o_assign rfl rfl ?_); refine r_nil ?_; refine x_seq (x_region ?_))
  (refine r_op ?_)
  refine o_alloc rfl (fun p5 => ?_)
  (refine r_nil ?_; refine x_seq (x_region ?_); refine r_op (o_move rfl rfl ?_))
  (refine r_op ?_)
  refine o_call rfl (all_spec ps) rfl ?_
  rintro v B ⟨pc, rfl, rfl⟩
  (simp only [List.cons_append, List.nil_append])
  (refine r_op (o_assign rfl rfl ?_); refine r_nil ?_; refine x_seq ?_; refine x_seq (x_region ?_); refine r_op (o_move rfl rfl ?_))
  (refine r_op ?_)
  refine o_feq (.inl rfl) rfl rfl rfl ?_
  (refine r_nil ?_; refine x_false rfl ?_; refine x_skip ?_; refine x_seq ?_; refine x_seq (x_region ?_); refine r_op (o_move rfl rfl ?_); refine r_nil ?_; refine x_block ?_)
  refine x_mem (Ent.marks0 _) ?_
  refine x_range (Ds := []) rfl rfl (all_iter pc ps b s (by omega)) (fun j => [Fact (j ≤ n) (EnI p5 ((live 0 s.es).take j)), Row p3 0 [.int .i64 n]])
    (fun cd _ => [Fact (cd = .exit 0) (EnI p5 ((live 0 s.es).take n)), Row p3 0 [.int .i64 n]]) (Δ2 := Γ) ?_ (by rfl) ?_ ?_ ?_ ?_
  · refine (Ent.nilSl 2 _).trans ?_
    refine (Sub.h (Δ := Row p5 0 [.slice none 0 0] :: Sl 2 none 0 0 [] :: Row p3 0 [.int .i64 n] :: Γ)).trans ?_
    refine (Ent.eni [] _).trans ?_
    exact Ent.fact (Nat.zero_le n) _
  · intro j vs hj
    rw [List.getElem?_map, Option.map_eq_some_iff] at hj
    obtain ⟨y, _, rfl⟩ := hj
    rfl
  · intro j vs hj
    have hjl : j < (live 0 s.es).length := by have := (List.getElem?_eq_some_iff.1 hj).1; simpa using this
    rw [List.getElem?_map, Option.map_eq_some_iff] at hj
    obtain ⟨y, hy, rfl⟩ := hj
    intro Y l r Θ hfn hro hend hexit hret
    refine x_mem (Γ' := Fact (j ≤ n) (EnI p5 ((live 0 s.es).take j)) :: Row p3 0 [.int .i64 n] :: Rec l r .ready none :: Θ) (by (simp only [List.cons_append, List.nil_append]); exact Sub.h) ?_
    refine x_open (α := { _u : Unit // j ≤ n }) (Γ' := fun _ => EnI p5 ((live 0 s.es).take j) :: Row p3 0 [.int .i64 n] :: Rec l r .ready none :: Θ) (fun E w st => by
      obtain ⟨h, st⟩ := st.fact
      exact ⟨⟨(), h⟩, st⟩) ?_
    rintro ⟨_, hjn⟩
    refine x_open (fun E w st => st.eni) fun ⟨a4, c4⟩ => ?_
    dsimp only
    have hlj : ((live 0 s.es).take j).length = j := by simp; omega
    rw [hlj]
    (refine x_seq (x_region ?_); refine r_op (o_assign rfl rfl ?_); refine r_nil ?_; refine x_region ?_; refine r_op (o_assign rfl rfl ?_); refine r_nil ?_)
    refine x_beginRound (r := r) hro ?_
    by_cases e : j = n
    · subst e
      (refine x_block ?_; refine x_seq ?_; refine x_seq (x_region ?_); refine r_op (o_load rfl rfl rfl rfl ?_); refine r_op (o_lenS rfl rfl ?_); refine r_op (o_load rfl rfl rfl rfl ?_); refine r_op (o_eql_t rfl rfl (by omega) rfl ?_); refine r_nil ?_; refine x_true rfl ?_)
      refine x_mem ?_ (hexit 0 _ _ rfl)
      have h1 := Ent.eni (p5 := p5) ((live 0 s.es).take j) (a := a4) (c := c4) (Row p3 0 [.int .i64 j] :: Rec l r .busy none :: Θ)
      rw [hlj] at h1
      refine (Sub.h (Δ := Row p5 0 [.slice a4 j c4] :: Sl 2 a4 j c4 (((live 0 s.es).take j).flatMap yv) :: Row p3 0 [.int .i64 j] :: Rec l r .busy none :: Θ)).trans (h1.trans ((Ent.fact (p := Code.exit 0 = .exit 0) rfl _).trans ?_))
      (simp only [List.cons_append, List.nil_append])
      exact Sub.h
    · (refine x_block ?_; refine x_seq ?_; refine x_seq (x_region ?_); refine r_op (o_load rfl rfl rfl rfl ?_); refine r_op (o_lenS rfl rfl ?_); refine r_op (o_load rfl rfl rfl rfl ?_); refine r_op (o_eql_f rfl rfl (by omega) rfl ?_); refine r_nil ?_; refine x_false rfl ?_; refine x_skip ?_; refine x_region ?_; refine r_op (o_load rfl rfl rfl rfl ?_); refine r_op (o_move rfl rfl ?_); refine r_op (o_move rfl rfl ?_))
      (refine r_op ?_)
      refine o_build rfl (by rfl) rfl ?_
      (refine r_op ?_)
      refine o_buildSlice rfl (by rfl) (by rfl) (by rfl) (by rfl) rfl (fun a2 => ?_)
      (refine r_op ?_)
      refine o_appendT rfl rfl (by rfl) (by rfl) (by rfl) (by omega) rfl (fun a3 c3 hc => ?_)
      (refine r_do (o_store rfl rfl rfl rfl (by simp) ?_); (try dsimp only [Nat.reduceSub, Nat.reduceAdd, List.set]); refine r_nil ?_; refine x_inBlock ?_)
      refine x_mem ?_ (hend _)
      have h2 : (live 0 s.es).take (j + 1) = (live 0 s.es).take j ++ [y] := by rw [List.take_add_one, hy]; rfl
      have h1 := Ent.eni (p5 := p5) ((live 0 s.es).take (j + 1)) (a := a3) (c := c3) (Row p3 0 [.int .i64 n] :: Rec l r .busy none :: Θ)
      rw [show ((live 0 s.es).take (j + 1)).length = j + 1 by simp; omega] at h1
      refine (Sub.h (Δ := Row p5 0 [.slice a3 (j + 1) c3] :: Sl 2 a3 (j + 1) c3 (((live 0 s.es).take j).flatMap yv ++ [.int .i64 y.1, .string (bstr y.2)]) :: Row p3 0 [.int .i64 n] :: Rec l r .busy none :: Θ)).trans ?_
      rw [show ((live 0 s.es).take j).flatMap yv ++ [.int .i64 y.1, .string (bstr y.2)] = ((live 0 s.es).take (j + 1)).flatMap yv by rw [h2, List.flatMap_append]; simp [yv]]
      refine h1.trans ((Ent.fact (p := j + 1 ≤ n) (by omega) _).trans ?_)
      (simp only [List.cons_append, List.nil_append])
      exact Sub.h
  · intro D
    refine x_open (α := { _u : Unit // (live 0 s.es).length ≤ n }) (Γ' := fun _ => EnI p5 (live 0 s.es) :: Marks [D] :: ShelfI ps b s :: Γ) (fun E w st => by
      rw [List.length_map, List.take_length] at st
      simp only [List.cons_append, List.nil_append] at st
      have st := (Sub.h (Δ := Fact ((live 0 s.es).length ≤ n) (EnI p5 (live 0 s.es)) :: Marks [D] :: ShelfI ps b s :: Γ)).st st
      obtain ⟨h, st⟩ := st.fact
      exact ⟨⟨(), h⟩, st⟩) ?_
    rintro ⟨_, hle⟩
    rw [List.take_of_length_le hle]
    refine x_open (fun E w st => st.eni) fun ⟨a4, c4⟩ => ?_
    dsimp only
    (refine x_inBlock ?_; refine x_seq (x_region ?_); refine r_op (o_load rfl rfl rfl rfl ?_); refine r_op (o_assign rfl rfl ?_); refine r_nil ?_)
    exact x_retM rfl [ShelfI ps b s, Sl 2 a4 (live 0 s.es).length c4 ((live 0 s.es).flatMap yv)] ⟨a4, c4, rfl, rfl⟩ Sub.h
  · intro D c j
    refine x_open (α := { _u : Unit // c = .exit 0 }) (Γ' := fun _ => EnI p5 ((live 0 s.es).take n) :: Marks [D] :: ShelfI ps b s :: Γ) (fun E w st => by
      simp only [List.cons_append, List.nil_append] at st
      have st := (Sub.h (Δ := Fact (c = .exit 0) (EnI p5 ((live 0 s.es).take n)) :: Marks [D] :: ShelfI ps b s :: Γ)).st st
      obtain ⟨h, st⟩ := st.fact
      exact ⟨⟨(), h⟩, st⟩) ?_
    rintro ⟨_, rfl⟩
    refine x_open (fun E w st => st.eni) fun ⟨a4, c4⟩ => ?_
    dsimp only
    (refine x_exit rfl ?_; refine x_seq (x_region ?_); refine r_op (o_load rfl rfl rfl rfl ?_); refine r_op (o_assign rfl rfl ?_); refine r_nil ?_)
    exact x_retM rfl [ShelfI ps b s, Sl 2 a4 ((live 0 s.es).take n).length c4 (((live 0 s.es).take n).flatMap yv)] ⟨a4, c4, rfl, rfl⟩ Sub.h
end Go.Proofs.Ythneebbmodkjiaa
