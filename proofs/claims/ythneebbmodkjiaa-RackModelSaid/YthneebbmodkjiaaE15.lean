/- Part of a proof over the seat Ythneebbmodkjiaa: module E13. Its claim's last module says what is proved. -/
import Derived.Test.YthneebbmodkjiaaE12
namespace Go.Proofs.Ythneebbmodkjiaa
open Go.Proofs

theorem yv_cl (p : Nat × Tx) : (yv p).length = 2 := rfl
theorem yv_one (l : List (Nat × Tx)) : (l.flatMap yv).all Value.oneCell' = true := by
  rw [List.all_flatMap, List.all_eq_true]; intro e _; rfl
/-- Entries that are being gathered. -/
def EnI (p5 : Nat) (l : List (Nat × Tx)) : HP := Any fun q : Option Addr × Nat => Sep [Row p5 0 [.slice q.1 l.length q.2], Sl 2 q.1 l.length q.2 (l.flatMap yv)]
theorem St.eni {E : Env} {p5 : Nat} {l : List (Nat × Tx)} {Γ : List HP} {w : World} (st : St E (EnI p5 l :: Γ) w) : ∃ q : Option Addr × Nat, St E (Row p5 0 [.slice q.1 l.length q.2] :: Sl 2 q.1 l.length q.2 (l.flatMap yv) :: Γ) w := by
  obtain ⟨q, st⟩ := st.ex
  exact ⟨q, (Ent.sep_out [_, _] Γ).st st⟩
theorem Ent.eni {p5 : Nat} (l : List (Nat × Tx)) {a : Option Addr} {c : Nat} (Γ : List HP) : Ent (Row p5 0 [.slice a l.length c] :: Sl 2 a l.length c (l.flatMap yv) :: Γ) (EnI p5 l :: Γ) :=
  (Ent.sep_in [_, _] Γ).trans (Ent.ex (A := fun q : Option Addr × Nat => Sep [Row p5 0 [.slice q.1 l.length q.2], Sl 2 q.1 l.length q.2 (l.flatMap yv)]) (a, c) Γ)
set_option maxHeartbeats 1600000 in
theorem entries_spec (ps b n : Nat) (s : Sh) (hl : s.es.length ≤ 2 ^ 20) (hn : n ≤ 2 ^ 40) :
    Spec Try.prog 73 [dp ps, .int .i64 n] [ShelfI ps b s] (fun v B => ∃ a c, v = .slice a ((live 0 s.es).take n).length c ∧ B = [ShelfI ps b s, Sl 2 a ((live 0 s.es).take n).length c (((live 0 s.es).take n).flatMap yv)]) := by
  have hll := live_len s.es 0
  refine Spec.of_ex Try.func73 rfl Try.ntmps73 rfl fun E cs Γ => ?_
  (simp only [argRho, Nat.reduceAdd, List.cons_append, List.nil_append])
  (refine x_seq ?_); (refine x_region ?_)
  (refine r_op ?_)
  refine o_box rfl rfl rfl (fun p3 => ?_)
  (refine r_op (o_assign rfl rfl ?_); refine r_nil ?_; refine x_seq (x_region ?_))
  (refine r_op ?_)
  refine o_alloc rfl (fun p5 => ?_)
  (refine r_nil ?_; refine x_seq (x_region ?_); refine r_op (o_move rfl rfl ?_))
  (refine r_op ?_)
  refine o_call rfl (all_spec ps) rfl ?_
  rintro v B ⟨pc, rfl, rfl⟩
  (simp only [List.cons_append, List.nil_append])
  (refine r_op (o_assign rfl rfl ?_); refine r_nil ?_; refine x_seq ?_; refine x_seq (x_region ?_); refine r_op (o_move rfl rfl ?_))
  (refine r_op ?_)
  refine o_feq (.inl rfl) rfl rfl rfl ?_
  (refine r_nil ?_; refine x_false rfl ?_; refine x_skip ?_; refine x_seq ?_; refine x_seq (x_region ?_); refine r_op (o_move rfl rfl ?_); refine r_nil ?_; refine x_block ?_)
  refine x_mem (Ent.marks0 _) ?_
  refine x_range (Ds := []) rfl rfl (all_iter pc ps b s (by omega)) (fun j => [Fact (j ≤ n) (EnI p5 ((live 0 s.es).take j)), Row p3 0 [.int .i64 n]])
    (fun cd _ => [Fact (cd = .exit 0) (EnI p5 ((live 0 s.es).take n)), Row p3 0 [.int .i64 n]]) (Δ2 := Γ) ?_ (by rfl) ?_ ?_ ?_ ?_
  · refine (Ent.nilSl 2 _).trans ?_
    refine (Sub.h (Δ := Row p5 0 [.slice none 0 0] :: Sl 2 none 0 0 [] :: Row p3 0 [.int .i64 n] :: Γ)).trans ?_
    refine (Ent.eni [] _).trans ?_
    exact Ent.fact (Nat.zero_le n) _
  · intro j vs hj
    rw [List.getElem?_map, Option.map_eq_some_iff] at hj
    obtain ⟨y, _, rfl⟩ := hj
    rfl
  · intro j vs hj
    have hjl : j < (live 0 s.es).length := by have := (List.getElem?_eq_some_iff.1 hj).1; simpa using this
    rw [List.getElem?_map, Option.map_eq_some_iff] at hj
    obtain ⟨y, hy, rfl⟩ := hj
    intro Y l r Θ hfn hro hend hexit hret
    refine x_mem (Γ' := Fact (j ≤ n) (EnI p5 ((live 0 s.es).take j)) :: Row p3 0 [.int .i64 n] :: Rec l r .ready none :: Θ) (by (simp only [List.cons_append, List.nil_append]); exact Sub.h) ?_
    refine x_open (α := { _u : Unit // j ≤ n }) (Γ' := fun _ => EnI p5 ((live 0 s.es).take j) :: Row p3 0 [.int .i64 n] :: Rec l r .ready none :: Θ) (fun E w st => by
      obtain ⟨h, st⟩ := st.fact
      exact ⟨⟨(), h⟩, st⟩) ?_
    rintro ⟨_, hjn⟩
    refine x_open (fun E w st => st.eni) fun ⟨a4, c4⟩ => ?_
    dsimp only
    have hlj : ((live 0 s.es).take j).length = j := by simp; omega
    rw [hlj]
    (refine x_seq (x_region ?_); refine r_op (o_assign rfl rfl ?_); refine r_nil ?_; refine x_region ?_; refine r_op (o_assign rfl rfl ?_); refine r_nil ?_)
    refine x_beginRound (r := r) hro ?_
    by_cases e : j = n
    · subst e
      (refine x_block ?_; refine x_seq ?_; refine x_seq (x_region ?_); refine r_op (o_load rfl rfl rfl rfl ?_); refine r_op (o_lenS rfl rfl ?_); refine r_op (o_load rfl rfl rfl rfl ?_); refine r_op (o_eql_t rfl rfl (by omega) rfl ?_); refine r_nil ?_; refine x_true rfl ?_)
      refine x_mem ?_ (hexit 0 _ _ rfl)
      have h1 := Ent.eni (p5 := p5) ((live 0 s.es).take j) (a := a4) (c := c4) (Row p3 0 [.int .i64 j] :: Rec l r .busy none :: Θ)
      rw [hlj] at h1
      refine (Sub.h (Δ := Row p5 0 [.slice a4 j c4] :: Sl 2 a4 j c4 (((live 0 s.es).take j).flatMap yv) :: Row p3 0 [.int .i64 j] :: Rec l r .busy none :: Θ)).trans (h1.trans ((Ent.fact (p := Code.exit 0 = .exit 0) rfl _).trans ?_))
      (simp only [List.cons_append, List.nil_append])
      exact Sub.h
    · (refine x_block ?_; refine x_seq ?_; refine x_seq (x_region ?_); refine r_op (o_load rfl rfl rfl rfl ?_); refine r_op (o_lenS rfl rfl ?_); refine r_op (o_load rfl rfl rfl rfl ?_); refine r_op (o_eql_f rfl rfl (by omega) rfl ?_); refine r_nil ?_; refine x_false rfl ?_; refine x_skip ?_; refine x_region ?_; refine r_op (o_load rfl rfl rfl rfl ?_); refine r_op (o_move rfl rfl ?_); refine r_op (o_move rfl rfl ?_))
      (refine r_op ?_)
      refine o_build rfl (by rfl) rfl ?_
      (refine r_op ?_)
      refine o_buildSlice rfl (by rfl) (by rfl) (by rfl) (by rfl) rfl (fun a2 => ?_)
      (refine r_op ?_)
      refine o_appendT rfl rfl (by rfl) (by rfl) (by rfl) (by omega) rfl (fun a3 c3 hc => ?_)
      (refine r_do (o_store rfl rfl rfl rfl (by simp) ?_); (try dsimp only [Nat.reduceSub, Nat.reduceAdd, List.set]); refine r_nil ?_; refine x_inBlock ?_)
      refine x_mem ?_ (hend _)
      have h2 : (live 0 s.es).take (j + 1) = (live 0 s.es).take j ++ [y] := by rw [List.take_add_one, hy]; rfl
      have h1 := Ent.eni (p5 := p5) ((live 0 s.es).take (j + 1)) (a := a3) (c := c3) (Row p3 0 [.int .i64 n] :: Rec l r .busy none :: Θ)
      rw [show ((live 0 s.es).take (j + 1)).length = j + 1 by simp; omega] at h1
      refine (Sub.h (Δ := Row p5 0 [.slice a3 (j + 1) c3] :: Sl 2 a3 (j + 1) c3 (((live 0 s.es).take j).flatMap yv ++ [.int .i64 y.1, .string (bstr y.2)]) :: Row p3 0 [.int .i64 n] :: Rec l r .busy none :: Θ)).trans ?_
      rw [show ((live 0 s.es).take j).flatMap yv ++ [.int .i64 y.1, .string (bstr y.2)] = ((live 0 s.es).take (j + 1)).flatMap yv by rw [h2, List.flatMap_append]; simp [yv]]
      refine h1.trans ((Ent.fact (p := j + 1 ≤ n) (by omega) _).trans ?_)
      (simp only [List.cons_append, List.nil_append])
      exact Sub.h
  · intro D
    refine x_open (α := { _u : Unit // (live 0 s.es).length ≤ n }) (Γ' := fun _ => EnI p5 (live 0 s.es) :: Marks [D] :: ShelfI ps b s :: Γ) (fun E w st => by
      rw [List.length_map, List.take_length] at st
      simp only [List.cons_append, List.nil_append] at st
      have st := (Sub.h (Δ := Fact ((live 0 s.es).length ≤ n) (EnI p5 (live 0 s.es)) :: Marks [D] :: ShelfI ps b s :: Γ)).st st
      obtain ⟨h, st⟩ := st.fact
      exact ⟨⟨(), h⟩, st⟩) ?_
    rintro ⟨_, hle⟩
    rw [List.take_of_length_le hle]
    refine x_open (fun E w st => st.eni) fun ⟨a4, c4⟩ => ?_
    dsimp only
    (refine x_inBlock ?_; refine x_seq (x_region ?_); refine r_op (o_load rfl rfl rfl rfl ?_); refine r_op (o_assign rfl rfl ?_); refine r_nil ?_)
    exact x_retM rfl [ShelfI ps b s, Sl 2 a4 (live 0 s.es).length c4 ((live 0 s.es).flatMap yv)] ⟨a4, c4, rfl, rfl⟩ Sub.h
  · intro D c j
    refine x_open (α := { _u : Unit // c = .exit 0 }) (Γ' := fun _ => EnI p5 ((live 0 s.es).take n) :: Marks [D] :: ShelfI ps b s :: Γ) (fun E w st => by
      simp only [List.cons_append, List.nil_append] at st
      have st := (Sub.h (Δ := Fact (c = .exit 0) (EnI p5 ((live 0 s.es).take n)) :: Marks [D] :: ShelfI ps b s :: Γ)).st st
      obtain ⟨h, st⟩ := st.fact
      exact ⟨⟨(), h⟩, st⟩) ?_
    rintro ⟨_, rfl⟩
    refine x_open (fun E w st => st.eni) fun ⟨a4, c4⟩ => ?_
    dsimp only
    (refine x_exit rfl ?_; refine x_seq (x_region ?_); refine r_op (o_load rfl rfl rfl rfl ?_); refine r_op (o_assign rfl rfl ?_); refine r_nil ?_)
    exact x_retM rfl [ShelfI ps b s, Sl 2 a4 ((live 0 s.es).take n).length c4 (((live 0 s.es).take n).flatMap yv)] ⟨a4, c4, rfl, rfl⟩ Sub.h
end Go.Proofs.Ythneebbmodkjiaa

namespace Go.Proofs.Ythneebbmodkjiaa
open Go.Proofs

abbrev tv (t : Tx) : Value := .string (bstr t)
/-- The texts. -/
def Sh.texts (s : Sh) : List Tx := (live 0 s.es).map Prod.snd
set_option maxHeartbeats 800000 in
theorem texts_spec (ps b : Nat) (s : Sh) (hl : s.es.length ≤ 1000) :
    Spec Try.prog 66 [dp ps] [ShelfI ps b s] (fun v B => ∃ a c, v = .slice a s.texts.length c ∧ B = [ShelfI ps b s, Sl 1 a s.texts.length c (s.texts.map tv)]) := by
  have hll := live_len s.es 0
  refine Spec.of_ex Try.func66 rfl Try.ntmps66 rfl fun E cs Γ => ?_
  (simp only [argRho, List.cons_append, List.nil_append])
  (refine x_seq (x_region ?_); refine r_op (o_assign rfl rfl ?_); refine r_nil ?_; refine x_seq (x_region ?_); refine r_op (o_move rfl rfl ?_))
  (refine r_op ?_)
  refine o_call rfl (entries_spec ps b 1000 s (by omega) (by decide)) rfl ?_
  rintro v B ⟨a, c, rfl, rfl⟩
  obtain ⟨L, hL⟩ : ∃ L, live 0 s.es = L := ⟨_, rfl⟩
  rw [hL] at hll ⊢
  rw [List.take_of_length_le (by omega)]
  have ht : s.texts = L.map Prod.snd := by unfold Sh.texts; rw [hL]
  rw [ht]
  have R := Sl.reads 2 a L.length c (L.flatMap yv) (flen yv_cl L)
  (simp only [List.cons_append, List.nil_append])
  (refine r_op (o_assign rfl rfl ?_); refine r_nil ?_; refine x_seq (x_region ?_); refine r_op (o_assign rfl rfl ?_); refine r_nil ?_; refine x_seq ?_; refine x_seq (x_region ?_); refine r_op (o_assign rfl rfl ?_); refine r_nil ?_; refine x_block ?_)
  refine x_mem (Γ' := Sl 1 none 0 0 ([] : List Value) :: Sl 2 a L.length c (L.flatMap yv) :: ShelfI ps b s :: Γ) ((Ent.nilSl 1 _).trans Sub.h) ?_
  refine x_loop (α := Nat × Option Addr × Nat) (fun q => q.1 ≤ L.length) (fun q => [(0, dp ps), (3, .slice a L.length c), (4, .slice q.2.1 q.1 q.2.2), (5, .int .i64 q.1)])
    (fun q => Sl 1 q.2.1 q.1 q.2.2 ((L.take q.1).map fun y => tv y.2) :: Sl 2 a L.length c (L.flatMap yv) :: ShelfI ps b s :: Γ) (fun q => L.length - q.1) (0, none, 0) (Nat.zero_le _) ⟨rfl, rfl, rfl, rfl, trivial⟩ (.refl _) ?_
  rintro ⟨i, a4, c4⟩ hi back
  dsimp only at hi ⊢
  (refine x_seq ?_; refine x_seq (x_region ?_); refine r_op (o_move rfl rfl ?_); refine r_op (o_move rfl rfl ?_); refine r_op (o_lenS rfl rfl ?_))
  (refine r_op ?_)
  refine o_lss rfl rfl rfl (fun h => ?_) (fun h => ?_)
  · have hi1 : i < L.length := by omega
    (refine r_nil ?_; refine x_true rfl ?_; refine x_skip ?_; refine x_seq ?_; refine x_block ?_; refine x_region ?_; refine r_op (o_move rfl rfl ?_); refine r_op (o_move rfl rfl ?_); refine r_op (o_move rfl rfl ?_))
    (refine r_op ?_)
    refine o_indexR rfl rfl R (j := i) rfl hi1 rfl (fun b1 off ha => ?_)
    (refine r_op (o_fieldAddr rfl rfl ?_))
    (refine r_op ?_)
    refine o_loadR rfl R ha (i := i * 2 + 1) (by omega) ((fget yv_cl hi1 1 (by decide)).trans rfl) rfl ?_
    (refine r_op ?_)
    refine o_buildSlice rfl (by rfl) (by rfl) (by rfl) (by rfl) rfl (fun a2 => ?_)
    (refine r_op ?_)
    refine o_appendT rfl rfl (by rfl) (by rfl) (by rfl) (by omega) rfl (fun a3 c3 hc => ?_)
    (refine r_op (o_assign rfl rfl ?_); refine r_nil ?_; refine x_inBlock ?_; refine x_region ?_; refine r_op (o_move rfl rfl ?_); refine r_op (o_add rfl rfl (add_i64 (by omega)) rfl ?_); refine r_op (o_assign rfl rfl ?_); refine r_nil ?_)
    refine x_mem (Γ' := Sl 1 a3 (i + 1) c3 ((L.take (i + 1)).map fun y => tv y.2) :: Sl 2 a L.length c (L.flatMap yv) :: ShelfI ps b s :: Γ) (by rw [List.take_succ_eq_append_getElem hi1, List.map_append]; exact .refl _) ?_
    refine x_weak (back (i + 1, a3, c3) (by dsimp only; omega) (by dsimp only; omega)) (by (repeat' (first | exact trivial | refine ⟨rfl, ?_⟩))) Sub.h
  · have e : i = L.length := by omega
    subst e
    rw [List.take_length]
    (refine r_nil ?_; refine x_false rfl ?_; refine x_exit rfl ?_; refine x_seq (x_region ?_); refine r_op (o_move rfl rfl ?_); refine r_op (o_assign rfl rfl ?_); refine r_nil ?_)
    exact x_ret rfl [ShelfI ps b s, Sl 1 a4 (L.map Prod.snd).length c4 ((L.map Prod.snd).map tv)] ⟨a4, c4, by rw [List.length_map]; rfl, rfl⟩ (by
      rw [List.length_map, List.map_map]
      rw [show L.map (tv ∘ Prod.snd) = L.map (fun y => tv y.2) from rfl]
      exact Sub.h)
theorem tget {l : List Tx} {i : Nat} (h : i < l.length) : (l.map tv)[i]? = some (tv l[i]) := by simp [h]
/-- Texts that lie somewhere. -/
theorem eqStr_spec {A B : HP} {a a' : Option Addr} {c c' : Nat} {l m : List Tx} (R : Reads A 1 a l.length (l.map tv)) (R' : Reads B 1 a' m.length (m.map tv)) (hl : l.length ≤ 2 ^ 40) :
    Spec Try.prog 65 [.slice a l.length c, .slice a' m.length c'] [A, B] (fun v B' => v = .bool (decide (l = m)) ∧ B' = [A, B]) := by
  refine Spec.of_ex Try.func65 rfl Try.ntmps65 rfl fun E cs Γ => ?_
  (simp only [argRho, Nat.reduceAdd, List.cons_append, List.nil_append])
  by_cases hlm : l.length = m.length
  · (refine x_seq (x_region ?_); refine r_op (o_assign rfl rfl ?_); refine r_nil ?_; refine x_seq ?_; refine x_seq (x_region ?_); refine r_op (o_move rfl rfl ?_); refine r_op (o_lenS rfl rfl ?_); refine r_op (o_move rfl rfl ?_); refine r_op (o_lenS rfl rfl ?_); refine r_op (o_neq_f rfl rfl (by omega) rfl ?_); refine r_nil ?_; refine x_false rfl ?_; refine x_skip ?_; refine x_seq ?_; refine x_seq (x_region ?_); refine r_op (o_assign rfl rfl ?_); refine r_nil ?_; refine x_block ?_)
    refine x_loop (α := Nat) (fun i => i ≤ l.length ∧ l.take i = m.take i) (fun i => [(0, .slice a l.length c), (1, .slice a' m.length c'), (5, .int .i64 i)]) (fun i => A :: B :: Γ)
      (fun i => l.length - i) 0 ⟨Nat.zero_le _, rfl⟩ ⟨rfl, rfl, rfl, trivial⟩ (.refl _) ?_
    rintro i ⟨hi, hp⟩ back
    (refine x_seq ?_; refine x_seq (x_region ?_); refine r_op (o_move rfl rfl ?_); refine r_op (o_move rfl rfl ?_); refine r_op (o_lenS rfl rfl ?_))
    (refine r_op ?_)
    refine o_lss rfl rfl rfl (fun h => ?_) (fun h => ?_)
    · (refine r_nil ?_; refine x_true rfl ?_; refine x_skip ?_; refine x_seq ?_; refine x_block ?_; refine x_seq ?_)
      refine x_base R (by omega) fun b1 o1 ha => ?_
      refine x_base R' (by omega) fun b2 o2 hb => ?_
      refine x_script 9 [(0,false),(1,false),(2,false),(3,false),(4,false),(5,false),(6,false),(7,false),(8,false)] [A, B] mixed (by kernel_rfl) permF ?_
      (refine s_v rfl (v_move rfl) ?_; refine s_v rfl (v_move rfl) ?_)
      refine s_v rfl (v_indexH rfl rfl ha (j := i) rfl (by omega)) ?_
      refine s_v rfl (v_loadR rfl R ha (i := i) (by omega) (tget (by omega))) ?_
      (refine s_v rfl (v_move rfl) ?_; refine s_v rfl (v_move rfl) ?_)
      refine s_v rfl (v_indexH rfl rfl hb (j := i) rfl (by omega)) ?_
      refine s_v rfl (v_loadR rfl R' hb (i := i) (by omega) (tget (by omega))) ?_
      by_cases hx : l[i]'(by omega) = m[i]'(by omega)
      · refine s_v rfl (v_sneq_f rfl rfl (by rw [hx])) ?_
        refine s_end rfl ?_
        (refine x_false rfl ?_; refine x_skip ?_; refine x_inBlock ?_; refine x_region ?_; refine r_op (o_move rfl rfl ?_); refine r_op (o_add rfl rfl (add_i64 (by omega)) rfl ?_); refine r_op (o_assign rfl rfl ?_); refine r_nil ?_)
        refine x_weak (back (i + 1) ⟨by omega, by rw [List.take_succ_eq_append_getElem (by omega), List.take_succ_eq_append_getElem (by omega), hp, hx]⟩ (by omega)) (by (repeat' (first | exact trivial | refine ⟨rfl, ?_⟩))) Sub.h
      · refine s_v rfl (v_sneq_t rfl rfl (fun h => hx (bstr_inj h))) ?_
        refine s_end rfl ?_
        (refine x_true rfl ?_; refine x_seq (x_region ?_); refine r_op (o_assign rfl rfl ?_); refine r_nil ?_)
        exact x_ret rfl [A, B] ⟨by rw [decide_eq_false (by rintro rfl; exact hx rfl)]; rfl, rfl⟩ Sub.h
    · have e : i = l.length := by omega
      subst e
      rw [List.take_length, hlm, List.take_length] at hp
      (refine r_nil ?_; refine x_false rfl ?_; refine x_exit rfl ?_; refine x_seq (x_region ?_); refine r_op (o_assign rfl rfl ?_); refine r_nil ?_)
      exact x_ret rfl [A, B] ⟨by rw [decide_eq_true hp]; rfl, rfl⟩ Sub.h
  · (refine x_seq (x_region ?_); refine r_op (o_assign rfl rfl ?_); refine r_nil ?_; refine x_seq ?_; refine x_seq (x_region ?_); refine r_op (o_move rfl rfl ?_); refine r_op (o_lenS rfl rfl ?_); refine r_op (o_move rfl rfl ?_); refine r_op (o_lenS rfl rfl ?_); refine r_op (o_neq_t rfl rfl (by omega) rfl ?_); refine r_nil ?_; refine x_true rfl ?_; refine x_seq (x_region ?_); refine r_op (o_assign rfl rfl ?_); refine r_nil ?_)
    exact x_ret rfl [A, B] ⟨by rw [decide_eq_false (by rintro rfl; exact hlm rfl)]; rfl, rfl⟩ Sub.h
end Go.Proofs.Ythneebbmodkjiaa

namespace Go.Proofs.Ythneebbmodkjiaa
open Go.Proofs

/-! ### The scripts of the shelf's chapter -/
structure BX where
  k : Int
  n : Int
  s : Tx
  pa : Option Addr
  pc : Nat
  ps : List Int
def BX.cells (x : BX) : List Value := [.int .i64 x.k, .int .i64 x.n, tv x.s, .slice x.pa x.ps.length x.pc]
theorem BX.cl (x : BX) : x.cells.length = 4 := rfl
def RdB (A : HP) (a : Option Addr) (l : List BX) : Prop := Reads A 4 a l.length (l.flatMap BX.cells) ∧ ∀ x ∈ l, Reads A 1 x.pa x.ps.length (x.ps.map iv)
theorem bx_get {l : List BX} {i : Nat} (h : i < l.length) (j : Nat) (hj : j < 4) : (l.flatMap BX.cells)[i * 4 + j]? = (l[i].cells)[j]? := fget BX.cl h j hj
structure TV where
  k : Int
  f : Int
  la : Option Addr
  lc : Nat
  l : List BX
  oa : Option Addr
  oc : Nat
  o : List Int
abbrev TV.cells (p : TV) : List Value := [.int .i64 p.k, .int .i64 p.f, .slice p.la p.l.length p.lc, .slice p.oa p.o.length p.oc]
def TV.val (p : TV) : Value := .agg p.cells.toArray
structure TV.Rd (A : HP) (p : TV) : Prop where
  l : RdB A p.la p.l
  o : Reads A 1 p.oa p.o.length (p.o.map iv)
  lb : p.l.length ≤ 2 ^ 47
  ob : p.o.length ≤ 2 ^ 47
  sb : ∀ x ∈ p.l, x.s.length ≤ 2 ^ 47 ∧ x.ps.length ≤ 2 ^ 47
/-- Numbers that are numbers. -/
def N64 (z : Int) : Prop := -9223372036854775808 ≤ z ∧ z ≤ 9223372036854775807
structure TV.Fi (p : TV) : Prop where
  k : N64 p.k
  f : N64 p.f
  l : ∀ x ∈ p.l, N64 x.k ∧ N64 x.n ∧ ∀ z ∈ x.ps, N64 z
  o : ∀ z ∈ p.o, N64 z
set_option maxHeartbeats 800000 in
theorem heavy10_spec {A : HP} {p : TV} (R : TV.Rd A p) : Spec Try.prog 60 [p.val] [A] (fun v B => (∃ b, v = .bool b ∧ (b = false → p.l.length ≤ 60)) ∧ B = [A]) := by
  refine Spec.of_ex Try.func60 rfl Try.ntmps60 rfl fun E cs Γ => ?_
  (simp only [argRho, List.cons_append, List.nil_append])
  (refine x_seq ?_); (refine x_region ?_)
  (refine r_op ?_)
  refine o_boxA (vs := p.cells) rfl rfl (fun b0 => ?_)
  have lb := R.lb
  have ob := R.ob
  (refine r_op (o_assign rfl rfl ?_); refine r_nil ?_; refine x_seq (x_region ?_); refine r_op (o_fieldAddr rfl rfl ?_); refine r_op (o_load rfl rfl rfl rfl ?_); refine r_op (o_lenS rfl rfl ?_); refine r_op (o_assign rfl rfl ?_); refine r_nil ?_; refine x_seq ?_; refine x_seq (x_region ?_); refine r_op (o_assign rfl rfl ?_); refine r_nil ?_; refine x_block ?_)
  refine x_loop (α := Nat × Int) (fun q => q.1 ≤ p.l.length ∧ 0 ≤ q.2 ∧ q.2 ≤ 2 ^ 50) (fun q => [(1, dp b0), (3, .int .i64 q.2), (4, .int .i64 q.1)]) (fun q => A :: Row b0 0 p.cells :: Γ)
    (fun q => p.l.length - q.1) (0, (p.o.length : Int)) ⟨Nat.zero_le _, by omega, by dsimp only; omega⟩ ⟨rfl, rfl, rfl, trivial⟩ Sub.h ?_
  rintro ⟨i, n⟩ ⟨hi, hn0, hn⟩ back
  dsimp only at hi hn0 hn back ⊢
  have hfin : ∀ n : Int, ∀ b, (b = (decide (6000 < n) || decide (60 < p.l.length))) → (b = false → p.l.length ≤ 60) := by
    rintro n b rfl h; simp at h; omega
  (refine x_seq ?_; refine x_seq (x_region ?_); refine r_op (o_move rfl rfl ?_); refine r_op (o_fieldAddr rfl rfl ?_); refine r_op (o_load rfl rfl rfl rfl ?_); refine r_op (o_lenS rfl rfl ?_))
  (refine r_op ?_)
  refine o_lss rfl rfl rfl (fun h => ?_) (fun h => ?_)
  · have hi1 : i < p.l.length := by omega
    (refine r_op (o_move rfl rfl ?_); refine r_guard rfl (o_move rfl rfl ?_))
    (refine r_guard rfl ?_)
    refine o_lss rfl rfl rfl (fun h2 => ?_) (fun h2 => ?_)
    · (refine r_op (o_pick_t rfl rfl rfl ?_); refine r_nil ?_; refine x_true rfl ?_; refine x_skip ?_; refine x_seq ?_; refine x_block ?_)
      have hs := R.sb _ (List.getElem_mem hi1)
      refine x_base R.l.1 (by omega) fun b off ha => ?_
      refine x_script 18 [(0,false),(1,false),(2,false),(3,false),(4,false),(5,false),(6,false),(7,false),(8,false),(9,false),(10,false),(11,false),(12,false),(13,false),(14,false),(15,false),(16,false),(17,false),(18,false)] [A, Row b0 0 p.cells] mixed (by kernel_rfl) permF ?_
      (refine s_v rfl (v_move rfl) ?_)
      refine s_v rfl (v_add rfl rfl (add_i64 (by omega))) ?_
      (refine s_v rfl (v_fieldAddr rfl) ?_; refine s_v rfl (v_load rfl rfl rfl) ?_; refine s_v rfl (v_move rfl) ?_)
      refine s_v rfl (v_indexH rfl rfl ha (j := i) rfl (by omega)) ?_
      (refine s_v rfl (v_fieldAddr rfl) ?_)
      refine s_v rfl (v_loadR rfl R.l.1 ha (i := i * 4 + 2) (by omega) ((bx_get hi1 2 (by decide)).trans rfl)) ?_
      refine s_v rfl (v_lenStr rfl) ?_
      rw [bstr_size]
      refine s_v rfl (v_add rfl rfl (add_i64 (by omega))) ?_
      (refine s_v rfl (v_fieldAddr rfl) ?_; refine s_v rfl (v_load rfl rfl rfl) ?_; refine s_v rfl (v_move rfl) ?_)
      refine s_v rfl (v_indexH rfl rfl ha (j := i) rfl (by omega)) ?_
      (refine s_v rfl (v_fieldAddr rfl) ?_)
      refine s_v rfl (v_loadR rfl R.l.1 ha (i := i * 4 + 3) (by omega) ((bx_get hi1 3 (by decide)).trans rfl)) ?_
      (refine s_v rfl (v_lenS rfl) ?_)
      refine s_v rfl (v_add rfl rfl (add_i64 (by omega))) ?_
      (refine s_v rfl (v_assign rfl) ?_)
      refine s_end rfl ?_
      (refine x_inBlock ?_; refine x_region ?_; refine r_op (o_move rfl rfl ?_); refine r_op (o_add rfl rfl (add_i64 (by omega)) rfl ?_); refine r_op (o_assign rfl rfl ?_); refine r_nil ?_)
      refine x_weak (back (i + 1, n + 1 + p.l[i].s.length + p.l[i].ps.length) ⟨by dsimp only; omega, by dsimp only; omega, by dsimp only; omega⟩ (by dsimp only; omega)) (by (repeat' (first | exact trivial | refine ⟨rfl, ?_⟩))) Sub.h
    · (refine r_op (o_pick_t rfl rfl rfl ?_); refine r_nil ?_; refine x_false rfl ?_; refine x_exit rfl ?_; refine x_seq (x_region ?_); refine r_op (o_move rfl rfl ?_); refine r_op (o_gtr_t rfl rfl (by omega) rfl ?_); refine r_op (o_move rfl rfl ?_); refine r_skip rfl rfl rfl ?_; refine r_skip rfl rfl rfl ?_; refine r_skip rfl rfl rfl ?_; refine r_skip rfl rfl rfl ?_; refine r_op (o_pick_t rfl rfl rfl ?_); refine r_op (o_assign rfl rfl ?_); refine r_nil ?_)
      exact x_ret rfl [A] ⟨⟨true, rfl, fun h => by cases h⟩, rfl⟩ Sub.h
  · (refine r_op (o_move rfl rfl ?_); refine r_skip rfl rfl rfl ?_; refine r_skip rfl rfl rfl ?_; refine r_op (o_pick_f rfl rfl rfl ?_); refine r_nil ?_; refine x_false rfl ?_; refine x_exit rfl ?_; refine x_seq (x_region ?_); refine r_op (o_move rfl rfl ?_))
    (refine r_op ?_)
    refine o_gtr rfl rfl rfl (fun h2 => ?_) (fun h2 => ?_)
    · (refine r_op (o_move rfl rfl ?_); refine r_skip rfl rfl rfl ?_; refine r_skip rfl rfl rfl ?_; refine r_skip rfl rfl rfl ?_; refine r_skip rfl rfl rfl ?_; refine r_op (o_pick_t rfl rfl rfl ?_); refine r_op (o_assign rfl rfl ?_); refine r_nil ?_)
      exact x_ret rfl [A] ⟨⟨true, rfl, fun h => by cases h⟩, rfl⟩ Sub.h
    · by_cases h3 : 60 < p.l.length
      · (refine r_op (o_move rfl rfl ?_); refine r_guard rfl (o_fieldAddr rfl rfl ?_); refine r_guard rfl (o_load rfl rfl rfl rfl ?_); refine r_guard rfl (o_lenS rfl rfl ?_); refine r_guard rfl (o_gtr_t rfl rfl (by omega) rfl ?_); refine r_op (o_pick_f rfl rfl rfl ?_); refine r_op (o_assign rfl rfl ?_); refine r_nil ?_)
        exact x_ret rfl [A] ⟨⟨true, rfl, fun h => by cases h⟩, rfl⟩ Sub.h
      · (refine r_op (o_move rfl rfl ?_); refine r_guard rfl (o_fieldAddr rfl rfl ?_); refine r_guard rfl (o_load rfl rfl rfl rfl ?_); refine r_guard rfl (o_lenS rfl rfl ?_); refine r_guard rfl (o_gtr_f rfl rfl (by omega) rfl ?_); refine r_op (o_pick_f rfl rfl rfl ?_); refine r_op (o_assign rfl rfl ?_); refine r_nil ?_)
        exact x_ret rfl [A] ⟨⟨false, rfl, fun _ => by omega⟩, rfl⟩ Sub.h
end Go.Proofs.Ythneebbmodkjiaa
