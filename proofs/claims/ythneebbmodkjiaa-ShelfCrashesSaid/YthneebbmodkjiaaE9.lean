/- Part of a proof over the seat Ythneebbmodkjiaa: module E9. Its claim's last module says what is proved. -/
import Derived.Test.YthneebbmodkjiaaE8
namespace Go.Proofs.Ythneebbmodkjiaa
open Go.Proofs

/-! ### Entries laid anew, in order -/
def movedP (f n : Nat) : Dk → Nat → List En → List En → Dk × List En × Int
  | d, _, [], acc => (d, acc, 0)
  | d, i, none :: r, acc => movedP f n d (i + 1) r acc
  | d, i, some t :: r, acc =>
    if acc.length = i then movedP f n d (i + 1) r (acc ++ [some t])
    else if (layS d f n acc.length t).2 ≠ 0 then ((layS d f n acc.length t).1, acc ++ [some t], (layS d f n acc.length t).2)
    else if (mark (layS d f n acc.length t).1 f n i 0).2 ≠ 0 then ((mark (layS d f n acc.length t).1 f n i 0).1, acc ++ [some t], (mark (layS d f n acc.length t).1 f n i 0).2)
    else movedP f n (mark (layS d f n acc.length t).1 f n i 0).1 (i + 1) r (acc ++ [some t])
theorem okn_movedP (f n : Nat) : ∀ (r : List En) (d : Dk) (i : Nat) (acc : List En) (N : Nat), d.okn N → (movedP f n d i r acc).1.okn (N + 6 * r.length)
  | [], d, i, acc, N, h => h
  | none :: r, d, i, acc, N, h => (okn_movedP f n r d (i + 1) acc N h).mono (by simp; omega)
  | some t :: r, d, i, acc, N, h => by
    unfold movedP
    have h1 := okn_layS h f n acc.length t
    have h2 := okn_mark h1 f n i 0
    split
    · exact (okn_movedP f n r d (i + 1) _ N h).mono (by simp; omega)
    · split
      · exact h1.mono (by simp; omega)
      · split
        · exact h2.mono (by simp; omega)
        · exact (okn_movedP f n r _ (i + 1) _ _ h2).mono (by simp; omega)
theorem movedP_some (f n : Nat) (d : Dk) (i : Nat) (t : Tx) (r acc : List En) : movedP f n d i (some t :: r) acc =
    if acc.length = i then movedP f n d (i + 1) r (acc ++ [some t])
    else if (layS d f n acc.length t).2 ≠ 0 then ((layS d f n acc.length t).1, acc ++ [some t], (layS d f n acc.length t).2)
    else if (mark (layS d f n acc.length t).1 f n i 0).2 ≠ 0 then ((mark (layS d f n acc.length t).1 f n i 0).1, acc ++ [some t], (mark (layS d f n acc.length t).1 f n i 0).2)
    else movedP f n (mark (layS d f n acc.length t).1 f n i 0).1 (i + 1) r (acc ++ [some t]) := by rw [movedP]
set_option maxHeartbeats 1600000 in
theorem moved_spec {N : Nat} {A : HP} (ps b : Nat) (s : Sh) (d : Dk) (es : List En) (a : Option Addr) (c : Nat) (R : Reads A 2 a es.length (es.flatMap enV)) (hs : s.es = []) (hok : d.okn N) (hl : es.length ≤ 128) (hN : N + 800 ≤ 2 ^ 20) (hn : 16 ≤ s.n ∧ s.n ≤ 2 ^ 20) (_hcl : es.length ≤ c)
    (ht : ∀ t, some t ∈ es → t.length + 16 ≤ s.n) :
    Spec Try.prog 108 [dp ps, .slice a es.length c] [ShelfI ps b s, DiskI b d, A] (fun v B => v = .int .i64 (movedP s.f s.n d 0 es []).2.2 ∧ B = [ShelfI ps b { s with es := (movedP s.f s.n d 0 es []).2.1 }, DiskI b (movedP s.f s.n d 0 es []).1, A]) := by
  refine Spec.of_ex Try.func108 rfl Try.ntmps108 rfl fun E cs Γ => ?_
  (simp only [argRho, Nat.reduceAdd, List.cons_append, List.nil_append])
  (refine x_seq (x_region ?_); refine r_op (o_assign rfl rfl ?_); refine r_nil ?_; refine x_scope ?_; refine x_seq ?_; refine x_label ?_; refine x_seq ?_; refine x_seq (x_region ?_); refine r_op (o_move rfl rfl ?_); refine r_op (o_lenS rfl rfl ?_); refine r_op (o_move rfl rfl ?_); refine r_nil ?_; refine x_block ?_)
  refine x_loop (α := Dk × Nat × List En) (fun q => q.2.1 ≤ es.length ∧ q.2.2.length ≤ q.2.1 ∧ q.1.okn (N + 6 * q.2.1) ∧ movedP s.f s.n d 0 es [] = movedP s.f s.n q.1 q.2.1 (es.drop q.2.1) q.2.2)
    (fun q => [(0, dp ps), (1, .slice a es.length c), (10, .slice a es.length c), (11, .int .i64 es.length), (12, .int .i64 q.2.1)])
    (fun q => ShelfI ps b { s with es := q.2.2 } :: DiskI b q.1 :: A :: Γ) (fun q => es.length - q.2.1) (d, 0, []) ⟨by simp, by simp, by simpa using hok, by simp⟩ ⟨rfl, rfl, rfl, rfl, rfl, trivial⟩ ?_ ?_
  · dsimp only
    rw [← hs]
    exact Sub.h
  rintro ⟨d', i, acc⟩ ⟨hi, ha, hok', he⟩ back
  dsimp only at hi ha hok' he ⊢
  (refine x_seq (x_region ?_))
  (refine r_op ?_)
  refine o_lss rfl rfl rfl (fun h => ?_) (fun h => ?_)
  · have hi1 : i < es.length := by omega
    (refine r_nil ?_; refine x_seq ?_; refine x_true rfl ?_; refine x_skip ?_; refine x_seq ?_)
    refine x_open (fun E w st => st.shelf) fun ⟨a2, c2⟩ => ?_
    dsimp only
    (refine x_block ?_; refine x_seq (x_region ?_); refine r_op (o_move rfl rfl ?_))
    (refine r_op ?_)
    refine o_indexR rfl rfl R (j := i) rfl hi1 rfl (fun b1 off ha1 => ?_)
    (refine r_op ?_)
    refine o_loadAR rfl R ha1 (i := i * 2) (us := enV es[i]) (by omega) (enV_cl _) (fun jj v hv => ?_) rfl ?_
    · have hjj : jj < 2 := by have := (List.getElem?_eq_some_iff.1 hv).1; rwa [enV_cl] at this
      rw [en_get hi1 jj hjj, hv]
    rw [enV_eq]
    (refine r_op ?_)
    refine o_alloc rfl (fun px => ?_)
    (refine r_op (o_assign rfl rfl ?_))
    (refine r_do ?_)
    refine o_storeA rfl rfl rfl rfl rfl (Nat.le_refl 2) ?_
    refine r_mem (Γ' := Row px 0 [.bool es[i].isSome, .string (bstr (Tx.of es[i]))] :: Row ps 0 (shRow b s.f s.n (.slice a2 acc.length c2) s.failed) :: Sl 2 a2 acc.length c2 (acc.flatMap enV) :: DiskI b d' :: A :: Γ) (Ent.row_eq rfl _) ?_
    have hdr : es.drop i = es[i] :: es.drop (i + 1) := (List.drop_eq_getElem_cons hi1)
    cases hei : es[i] with
    | none =>
      rw [show (none : En).isSome = false from rfl]
      rw [hdr, hei] at he
      (refine r_nil ?_; refine x_seq (x_region ?_); refine r_op (o_move rfl rfl ?_); refine r_op (o_nilCheck rfl rfl ?_); refine r_op (o_fieldAddr rfl rfl ?_); refine r_op (o_load rfl rfl rfl rfl ?_); refine r_op (o_lenS rfl rfl ?_); refine r_op (o_assign rfl rfl ?_); refine r_nil ?_; refine x_seq ?_; refine x_seq (x_region ?_); refine r_op (o_fieldAddr rfl rfl ?_); refine r_op (o_load rfl rfl rfl rfl ?_); refine r_nil ?_; refine x_false rfl ?_; refine x_skip ?_; refine x_seq ?_; refine x_seq (x_region ?_); refine r_op (o_fieldAddr rfl rfl ?_); refine r_op (o_load rfl rfl rfl rfl ?_); refine r_op (o_not rfl rfl ?_); refine r_op (o_move rfl rfl ?_); refine r_skip rfl rfl rfl ?_; refine r_skip rfl rfl rfl ?_; refine r_skip rfl rfl rfl ?_; refine r_op (o_pick_t rfl rfl rfl ?_); refine r_nil ?_; refine x_true rfl ?_; refine x_exit rfl ?_; refine x_region ?_; refine r_op (o_add rfl rfl (add_i64 (by omega)) rfl ?_); refine r_op (o_move rfl rfl ?_); refine r_nil ?_)
      refine x_mem (Γ' := ShelfI ps b { s with es := acc } :: DiskI b d' :: A :: Γ) ((Sub.h (Δ := Row ps 0 (shRow b s.f s.n (Value.slice a2 acc.length c2) s.failed) :: Sl 2 a2 acc.length c2 (List.flatMap enV acc) :: DiskI b d' :: A :: Γ)).trans (Ent.shelf { s with es := acc } _)) ?_
      refine x_weak (back (d', i + 1, acc) ⟨by dsimp only; omega, by dsimp only; omega, hok'.mono (by dsimp only; omega), by dsimp only; rw [he]; simp only [movedP]⟩ (by dsimp only; omega)) (by (repeat' (first | exact trivial | refine ⟨rfl, ?_⟩))) Sub.h
    | some t =>
      rw [show (some t : En).isSome = true from rfl]
      rw [hdr, hei] at he
      have htl := ht t (by rw [← hei]; exact List.getElem_mem _)
      (refine r_nil ?_; refine x_seq (x_region ?_); refine r_op (o_move rfl rfl ?_); refine r_op (o_nilCheck rfl rfl ?_); refine r_op (o_fieldAddr rfl rfl ?_); refine r_op (o_load rfl rfl rfl rfl ?_); refine r_op (o_lenS rfl rfl ?_); refine r_op (o_assign rfl rfl ?_); refine r_nil ?_; refine x_seq ?_; refine x_seq (x_region ?_); refine r_op (o_fieldAddr rfl rfl ?_); refine r_op (o_load rfl rfl rfl rfl ?_); refine r_nil ?_; refine x_true rfl ?_)
      refine x_script 10 [(0,false),(1,false),(2,false),(3,false),(4,false),(5,false),(8,false),(9,false),(6,true),(7,true),(10,true)] [Row ps 0 (shRow b s.f s.n (Value.slice a2 acc.length c2) s.failed), Row px 0 [Value.bool true, Value.string (bstr (Tx.of (some t)))]] mixed (by kernel_rfl) permF ?_
      (refine s_v rfl (v_move rfl) ?_; refine s_v rfl (v_move rfl) ?_; refine s_v rfl (v_nilCheck rfl) ?_; refine s_v rfl (v_fieldAddr rfl) ?_; refine s_v rfl (v_load rfl rfl rfl) ?_)
      refine s_v rfl (v_loadA (us := [.bool true, .string (bstr t)]) rfl rfl rfl rfl) ?_
      (refine s_v rfl (v_nilCheck rfl) ?_; refine s_v rfl (v_fieldAddr rfl) ?_)
      refine s_x rfl (o_buildSlice rfl (by rfl) (by rfl) (by rfl) (by rfl) rfl (fun a4 => ?_))
      refine ⟨permF, ?_⟩
      refine s_x rfl (o_appendT rfl rfl (by rfl) (by rfl) (by rfl) (by omega) rfl (fun a3 c3 hc => ?_))
      refine ⟨permF, ?_⟩
      refine s_xt rfl rfl ?_
      refine o_store rfl rfl rfl rfl (show 3 < 5 by decide) ?_
      refine s_end rfl ?_
      refine x_mem (Γ' := Row ps 0 (shRow b s.f s.n (Value.slice a3 (acc.length + 1) c3) s.failed) :: Sl 2 a3 (acc.length + 1) c3 (acc.flatMap enV ++ enV (some t)) :: Row px 0 [Value.bool true, Value.string (bstr t)] :: DiskI b d' :: A :: Γ) ?_ ?_
      · show Ent (Sl 2 a3 (acc.length + 1) c3 (List.flatMap enV acc ++ enV (some t)) :: Row px 0 [Value.bool true, Value.string (bstr t)] :: Row ps 0 (shRow b s.f s.n (Value.slice a3 (acc.length + 1) c3) s.failed) :: _) _
        exact Sub.h
      have hel : (acc ++ [some t]).length = acc.length + 1 := by simp
      have hef : (acc ++ [some t]).flatMap enV = acc.flatMap enV ++ enV (some t) := by simp
      have hback : ∀ Γ', Ent (Row ps 0 (shRow b s.f s.n (Value.slice a3 (acc.length + 1) c3) s.failed) :: Sl 2 a3 (acc.length + 1) c3 (acc.flatMap enV ++ enV (some t)) :: Γ') (ShelfI ps b { s with es := acc ++ [some t] } :: Γ') := fun Γ' => by
        have := Ent.shelf (ps := ps) (b := b) { s with es := acc ++ [some t] } (a := a3) (c := c3) Γ'
        dsimp only at this
        rwa [hel, hef] at this
      by_cases hai : acc.length = i
      · rw [movedP_some, if_pos hai] at he
        (refine x_seq ?_; refine x_seq (x_region ?_); refine r_op (o_fieldAddr rfl rfl ?_); refine r_op (o_load rfl rfl rfl rfl ?_); refine r_op (o_not rfl rfl ?_); refine r_op (o_move rfl rfl ?_); refine r_guard rfl (o_move rfl rfl ?_); refine r_guard rfl (o_move rfl rfl ?_); refine r_guard rfl (o_eql_t rfl rfl (by omega) rfl ?_); refine r_op (o_pick_f rfl rfl rfl ?_); refine r_nil ?_; refine x_true rfl ?_; refine x_exit rfl ?_; refine x_region ?_; refine r_op (o_add rfl rfl (add_i64 (by omega)) rfl ?_); refine r_op (o_move rfl rfl ?_); refine r_nil ?_)
        refine x_mem ((hback _).trans (Sub.h (Δ := ShelfI ps b { s with es := acc ++ [some t] } :: DiskI b d' :: A :: Γ))) ?_
        refine x_weak (back (d', i + 1, acc ++ [some t]) ⟨by dsimp only; omega, by dsimp only; omega, hok'.mono (by dsimp only; omega), he⟩ (by dsimp only; omega)) (by (repeat' (first | exact trivial | refine ⟨rfl, ?_⟩))) Sub.h
      · rw [movedP_some, if_neg hai] at he
        (refine x_seq ?_; refine x_seq (x_region ?_); refine r_op (o_fieldAddr rfl rfl ?_); refine r_op (o_load rfl rfl rfl rfl ?_); refine r_op (o_not rfl rfl ?_); refine r_op (o_move rfl rfl ?_); refine r_guard rfl (o_move rfl rfl ?_); refine r_guard rfl (o_move rfl rfl ?_); refine r_guard rfl (o_eql_f rfl rfl (by omega) rfl ?_); refine r_op (o_pick_f rfl rfl rfl ?_); refine r_nil ?_; refine x_false rfl ?_; refine x_skip ?_; refine x_seq ?_; refine x_seq (x_region ?_); refine r_op (o_move rfl rfl ?_); refine r_op (o_move rfl rfl ?_); refine r_op (o_fieldAddr rfl rfl ?_); refine r_op (o_load rfl rfl rfl rfl ?_))
        (refine r_op ?_)
        refine o_call rfl (lay_spec ps b s.f s.n (.slice a3 (acc.length + 1) c3) s.failed d' acc.length t hok' (by omega) hn.2 (by omega) htl) rfl ?_
        rintro v B ⟨rfl, rfl⟩
        (simp only [List.cons_append, List.nil_append])
        have hk1 := okn_layS hok' s.f s.n acc.length t
        obtain ⟨d1, e1, hd1⟩ : ∃ x y, layS d' s.f s.n acc.length t = (x, y) := ⟨_, _, rfl⟩
        rw [hd1] at hk1 he ⊢
        dsimp only at hk1 he ⊢
        by_cases h1 : e1 = 0
        · subst h1
          rw [if_neg (by simp)] at he
          (refine r_op (o_assign rfl rfl ?_); refine r_nil ?_; refine x_seq (x_region ?_); refine r_op (o_move rfl rfl ?_); refine r_op (o_neq_f rfl rfl (by omega) rfl ?_); refine r_nil ?_; refine x_false rfl ?_; refine x_skip ?_; refine x_seq (x_region ?_); refine r_op (o_move rfl rfl ?_); refine r_op (o_move rfl rfl ?_))
          (refine r_op ?_)
          refine o_call rfl (mark_spec ps b s.f s.n (.slice a3 (acc.length + 1) c3) s.failed d1 i 0 hk1 (by omega) hn.2 (by omega)) rfl ?_
          rintro v B ⟨rfl, rfl⟩
          (simp only [List.cons_append, List.nil_append])
          have hk2 := okn_mark hk1 s.f s.n i 0
          obtain ⟨d2, e2, hd2⟩ : ∃ d' e', mark d1 s.f s.n i 0 = (d', e') := ⟨_, _, rfl⟩
          rw [hd2] at hk2 he ⊢
          dsimp only at hk2 he ⊢
          by_cases h2 : e2 = 0
          · subst h2
            rw [if_neg (by simp)] at he
            (refine r_op (o_assign rfl rfl ?_); refine r_nil ?_; refine x_seq (x_region ?_); refine r_op (o_move rfl rfl ?_); refine r_op (o_neq_f rfl rfl (by omega) rfl ?_); refine r_nil ?_; refine x_false rfl ?_; refine x_skip ?_; refine x_inBlock ?_; refine x_region ?_; refine r_op (o_add rfl rfl (add_i64 (by omega)) rfl ?_); refine r_op (o_move rfl rfl ?_); refine r_nil ?_)
            refine x_mem ((Sub.h (Δ := Row ps 0 (shRow b s.f s.n (Value.slice a3 (acc.length + 1) c3) s.failed) :: Sl 2 a3 (acc.length + 1) c3 (acc.flatMap enV ++ enV (some t)) :: DiskI b d2 :: A :: Γ)).trans (hback _)) ?_
            refine x_weak (back (d2, i + 1, acc ++ [some t]) ⟨by dsimp only; omega, by dsimp only; omega, hk2.mono (by dsimp only; omega), he⟩ (by dsimp only; omega)) (by (repeat' (first | exact trivial | refine ⟨rfl, ?_⟩))) Sub.h
          · rw [if_pos h2] at he
            (refine r_op (o_assign rfl rfl ?_); refine r_nil ?_; refine x_seq (x_region ?_); refine r_op (o_move rfl rfl ?_); refine r_op (o_neq_t rfl rfl (by omega) rfl ?_); refine r_nil ?_; refine x_true rfl ?_; refine x_seq (x_region ?_); refine r_op (o_move rfl rfl ?_); refine r_op (o_assign rfl rfl ?_); refine r_nil ?_)
            exact x_ret rfl [ShelfI ps b { s with es := (movedP s.f s.n d 0 es []).2.1 }, DiskI b (movedP s.f s.n d 0 es []).1, A] ⟨by rw [he]; rfl, rfl⟩ (by rw [he]; exact (Sub.h (Δ := Row ps 0 (shRow b s.f s.n (Value.slice a3 (acc.length + 1) c3) s.failed) :: Sl 2 a3 (acc.length + 1) c3 (acc.flatMap enV ++ enV (some t)) :: DiskI b d2 :: A :: Γ)).trans ((hback _).trans Sub.h))
        · rw [if_pos h1] at he
          (refine r_op (o_assign rfl rfl ?_); refine r_nil ?_; refine x_seq (x_region ?_); refine r_op (o_move rfl rfl ?_); refine r_op (o_neq_t rfl rfl (by omega) rfl ?_); refine r_nil ?_; refine x_true rfl ?_; refine x_seq (x_region ?_); refine r_op (o_move rfl rfl ?_); refine r_op (o_assign rfl rfl ?_); refine r_nil ?_)
          exact x_ret rfl [ShelfI ps b { s with es := (movedP s.f s.n d 0 es []).2.1 }, DiskI b (movedP s.f s.n d 0 es []).1, A] ⟨by rw [he]; rfl, rfl⟩ (by rw [he]; exact (Sub.h (Δ := Row ps 0 (shRow b s.f s.n (Value.slice a3 (acc.length + 1) c3) s.failed) :: Sl 2 a3 (acc.length + 1) c3 (acc.flatMap enV ++ enV (some t)) :: DiskI b d1 :: A :: Γ)).trans ((hback _).trans Sub.h))
  · have e : i = es.length := by omega
    subst e
    rw [List.drop_length, show movedP s.f s.n d' es.length [] acc = (d', acc, 0) by simp [movedP]] at he
    (refine r_nil ?_; refine x_seq ?_; refine x_false rfl ?_; refine x_exit rfl ?_; refine x_seq (x_region ?_); refine r_op (o_assign rfl rfl ?_); refine r_nil ?_)
    exact x_ret rfl [ShelfI ps b { s with es := (movedP s.f s.n d 0 es []).2.1 }, DiskI b (movedP s.f s.n d 0 es []).1, A] ⟨by rw [he]; rfl, rfl⟩ (by rw [he]; exact Sub.h)
end Go.Proofs.Ythneebbmodkjiaa
