/- Part of a proof over the seat Ythneebbmodkjiaa: module E4. Its claim's last module says what is proved. -/
import Derived.Test.YthneebbmodkjiaaE3
namespace Go.Proofs.Ythneebbmodkjiaa
open Go.Proofs

section
variable {P : Program} {X : Cx} {n : Nat} {ds : List Deferred} {ρ : Rho} {Γ : List HP} {Nx : Value → List HP → Prop} {ty : TypeId}
/-- A struct stored into an owned slice. -/
theorem o_storeSA {t s : Nat} {x y : Operand} {a : Option Addr} {b off o i s' len cap : Nat} {xs us : List Value} {K : HP → List HP} [T : TyAgg P t s] (hx : ev ρ x = some (.pointer (some ⟨b, o, none⟩))) (hy : ev ρ y = some (.agg us.toArray)) (hs' : us.length = s) (h1 : us.all Value.oneCell' = true)
    (ha : a = some ⟨b, off, none⟩) [H : UpdSl Γ a s' len cap xs K] (ho : o = off + i) (hi : i + us.length ≤ xs.length) (h : Nx undef (K (Sl s' a len cap (xs.take i ++ us ++ xs.drop (i + us.length))))) :
    ExO P X n ds none (.store t x y) ty Nx ρ Γ :=
  o_skip (by simp) fun e oo w hop hty he hs => by
    obtain ⟨inf, hinf, hsz⟩ := TyAgg.size (P := P) (t := t)
    obtain ⟨Δ, p, q⟩ := H.h
    have st := hs.perm p
    obtain ⟨g1, g2, hcase⟩ := st.sl_split
    subst ho
    rcases hcase with ⟨h0, _⟩ | ⟨b', off', junk, ha', q2, st0⟩
    · rw [ha] at h0; cases h0
    · rw [ha] at ha'; cases ha'
      obtain ⟨w', hr, s1⟩ := storeCells_run (P := P) (off := off) us i w (fun B => B :: Δ) (xs ++ junk) X.E _ (UpdRow.here Δ b off _) st0 (by simp; omega) (fun v hv => List.all_eq_true.1 h1 v hv) (off + i) 0 (by omega)
      have e1 : (xs ++ junk).take i ++ us ++ (xs ++ junk).drop (i + us.length) = (xs.take i ++ us ++ xs.drop (i + us.length)) ++ junk := by
        rw [List.take_append_of_le_length (by omega), List.drop_append_of_le_length (by omega)]
        simp
      rw [e1] at s1
      have s2 := St.sl_join (s := s') (len := len) (cap := cap) (by simp; omega) (by simp at q2 ⊢; omega) g2 s1
      refine ⟨w', _, ?_, ?_, h⟩
      · simp [execOp, hop, he x _ hx, he y _ hy, Instr.storeAt, Instr.sureAddr, storeVar, Value.cells, sizeOf_run hinf, hsz, hs', hr]
      · rw [ha]; exact s2.perm (by rw [← ha]; exact q _)
end
/-- The lowest slot that is free. -/
def ff : List En → Nat
  | [] => 0
  | none :: _ => 0
  | some _ :: es => ff es + 1
theorem ff_le : ∀ es : List En, ff es ≤ es.length := by
  intro es
  induction es with
  | nil => exact Nat.le_refl _
  | cons e es ih => cases e with
    | none => exact Nat.zero_le _
    | some t => simpa [ff] using ih
theorem ff_lt : ∀ {es : List En} {i : Nat} (h : i < es.length), i < ff es → (es[i]).isSome = true := by
  intro es
  induction es with
  | nil => intro i h; simp at h
  | cons e es ih =>
    intro i h hi
    cases e with
    | none => simp [ff] at hi
    | some t => cases i with
      | zero => rfl
      | succ i => exact ih (by simpa using h) (by simpa [ff] using hi)
theorem ff_free : ∀ {es : List En} (h : ff es < es.length), es[ff es] = none := by
  intro es
  induction es with
  | nil => intro h; simp at h
  | cons e es ih =>
    intro h
    cases e with
    | none => rfl
    | some t => exact ih (by simpa [ff] using h)
/-- A text in a slot. -/
def putAt (es : List En) (i : Nat) (t : Tx) : List En := if i = es.length then es ++ [some t] else es.set i (some t)
def Sh.put (s : Sh) (d : Dk) (t : Tx) : Sh × Dk × Int × Int :=
  if s.failed then (s, d, 0, 14) else if s.n < t.length + 16 then (s, d, 0, 2) else if 128 ≤ ff s.es then (s, d, 0, 5)
  else if (layS d s.f s.n (ff s.es) t).2 ≠ 0 then ({ s with failed := true }, (layS d s.f s.n (ff s.es) t).1, 0, (layS d s.f s.n (ff s.es) t).2)
  else ({ s with es := putAt s.es (ff s.es) t }, (layS d s.f s.n (ff s.es) t).1, (ff s.es : Nat), 0)
theorem set_flat (es : List En) (i : Nat) (h : i < es.length) (e : En) : (es.flatMap enV).take (i * 2) ++ enV e ++ (es.flatMap enV).drop (i * 2 + 2) = (es.set i e).flatMap enV := by
  induction es generalizing i with
  | nil => simp at h
  | cons x es ih =>
    cases i with
    | zero =>
      simp only [List.flatMap_cons, List.set_cons_zero, Nat.zero_mul, List.take_zero, List.nil_append, Nat.zero_add]
      rw [List.drop_left' (enV_cl x)]
    | succ i =>
      have := ih i (by simpa using h)
      simp only [List.flatMap_cons, List.set_cons_succ]
      rw [← this, List.take_append, List.drop_append, enV_cl, List.take_of_length_le (by rw [enV_cl]; omega), List.drop_eq_nil_of_le (by rw [enV_cl]; omega)]
      rw [show (i + 1) * 2 - 2 = i * 2 by omega, show (i + 1) * 2 + 2 - 2 = i * 2 + 2 by omega]
      simp
set_option maxHeartbeats 1600000 in
theorem put_spec {N : Nat} (ps b : Nat) (s : Sh) (d : Dk) (t : Tx) (hok : d.okn N) (hN : N + 20 ≤ 2 ^ 20) (hn : 16 ≤ s.n ∧ s.n ≤ 2 ^ 20) (hl : s.es.length ≤ 2 ^ 20) (_ht : t.length ≤ 2 ^ 62) :
    Spec Try.prog 64 [dp ps, .string (bstr t)] [ShelfI ps b s, DiskI b d] (fun v B => v = .tuple #[.int .i64 (s.put d t).2.2.1, .int .i64 (s.put d t).2.2.2] ∧ B = [ShelfI ps b (s.put d t).1, DiskI b (s.put d t).2.1]) := by
  have hff := ff_le s.es
  refine Spec.of_ex Try.func64 rfl Try.ntmps64 rfl fun E cs Γ => ?_
  (simp only [argRho, Nat.reduceAdd, List.cons_append, List.nil_append])
  refine x_open (fun E w st => st.shelf) fun ⟨a, c⟩ => ?_
  dsimp only
  have R := sl2_reads a c s.es
  have hback := Ent.shelf (ps := ps) (b := b) s (a := a) (c := c) (DiskI b d :: Γ)
  (refine x_seq (x_region ?_); refine r_op (o_assign rfl rfl ?_); refine r_op (o_assign rfl rfl ?_); refine r_nil ?_; refine x_seq (x_region ?_); refine r_op (o_assign rfl rfl ?_); refine r_nil ?_; refine x_seq ?_)
  refine x_cutK (α := Unit) (fun _ => True) (fun _ => [(6, .int .i64 (ff s.es : Nat)), (0, dp ps), (1, .string (bstr t))]) (fun _ => Row ps 0 (shRow b s.f s.n (.slice a s.es.length c) s.failed) :: Sl 2 a s.es.length c (s.es.flatMap enV) :: DiskI b d :: Γ) ?_ ?_
  · rintro - -
    cases hfl : s.failed
    · by_cases h1 : s.n < t.length + 16
      · have e : s.put d t = (s, d, 0, 2) := by unfold Sh.put; rw [hfl, if_neg (by simp), if_pos h1]
        rw [hfl] at hback
        (refine x_seq ?_; refine x_block ?_; refine x_seq (x_region ?_); refine r_op (o_move rfl rfl ?_); refine r_op (o_nilCheck rfl rfl ?_); refine r_op (o_fieldAddr rfl rfl ?_); refine r_op (o_load rfl rfl rfl rfl ?_); refine r_op (o_assign rfl rfl ?_); refine r_nil ?_; refine x_false rfl ?_; refine x_seq (x_region ?_); refine r_op (o_move rfl rfl ?_); refine r_op (o_lenStr rfl rfl ?_); refine r_op (o_move rfl rfl ?_); refine r_op (o_nilCheck rfl rfl ?_); refine r_op (o_fieldAddr rfl rfl ?_); refine r_op (o_load rfl rfl rfl rfl ?_); refine r_op (o_sub rfl rfl (sub_i64 (by omega)) rfl ?_))
        rw [bstr_size]
        (refine r_op (o_gtr_t rfl rfl (by omega) rfl ?_); refine r_op (o_assign rfl rfl ?_); refine r_nil ?_; refine x_true rfl ?_; refine x_seq (x_region ?_); refine r_op (o_assign rfl rfl ?_); refine r_op (o_assign rfl rfl ?_); refine r_nil ?_)
        exact x_ret rfl [ShelfI ps b (s.put d t).1, DiskI b (s.put d t).2.1] ⟨by rw [e]; rfl, rfl⟩ (by rw [e]; exact hback.trans Sub.h)
      · (refine x_seq ?_; refine x_block ?_; refine x_seq (x_region ?_); refine r_op (o_move rfl rfl ?_); refine r_op (o_nilCheck rfl rfl ?_); refine r_op (o_fieldAddr rfl rfl ?_); refine r_op (o_load rfl rfl rfl rfl ?_); refine r_op (o_assign rfl rfl ?_); refine r_nil ?_; refine x_false rfl ?_; refine x_seq (x_region ?_); refine r_op (o_move rfl rfl ?_); refine r_op (o_lenStr rfl rfl ?_); refine r_op (o_move rfl rfl ?_); refine r_op (o_nilCheck rfl rfl ?_); refine r_op (o_fieldAddr rfl rfl ?_); refine r_op (o_load rfl rfl rfl rfl ?_); refine r_op (o_sub rfl rfl (sub_i64 (by omega)) rfl ?_))
        rw [bstr_size]
        (refine r_op (o_gtr_f rfl rfl (by omega) rfl ?_); refine r_op (o_assign rfl rfl ?_); refine r_nil ?_; refine x_false rfl ?_; refine x_seq (x_region ?_); refine r_op (o_move rfl rfl ?_))
        by_cases h2 : 128 ≤ ff s.es
        · have e : s.put d t = (s, d, 0, 5) := by unfold Sh.put; rw [hfl, if_neg (by simp), if_neg h1, if_pos h2]
          rw [hfl] at hback
          (refine r_op (o_geq_t rfl rfl (by omega) rfl ?_); refine r_op (o_assign rfl rfl ?_); refine r_nil ?_; refine x_true rfl ?_; refine x_seq (x_region ?_); refine r_op (o_assign rfl rfl ?_); refine r_op (o_assign rfl rfl ?_); refine r_nil ?_)
          exact x_ret rfl [ShelfI ps b (s.put d t).1, DiskI b (s.put d t).2.1] ⟨by rw [e]; rfl, rfl⟩ (by rw [e]; exact hback.trans Sub.h)
        · (refine r_op (o_geq_f rfl rfl (by omega) rfl ?_); refine r_op (o_assign rfl rfl ?_); refine r_nil ?_; refine x_false rfl ?_; refine x_skip ?_; refine x_inBlock ?_; refine x_seq ?_; refine x_seq (x_region ?_); refine r_op (o_move rfl rfl ?_); refine r_op (o_move rfl rfl ?_); refine r_op (o_move rfl rfl ?_))
          (refine r_op ?_)
          refine o_call rfl (lay_spec ps b s.f s.n (.slice a s.es.length c) false d (ff s.es) t hok hN hn.2 (by omega) (by omega)) rfl ?_
          rintro v B ⟨rfl, rfl⟩
          (simp only [List.cons_append, List.nil_append])
          obtain ⟨d', e', hde⟩ : ∃ d' e', layS d s.f s.n (ff s.es) t = (d', e') := ⟨_, _, rfl⟩
          rw [hde]
          dsimp only
          by_cases h3 : e' = 0
          · have e : s.put d t = ({ s with es := putAt s.es (ff s.es) t }, d', ((ff s.es : Nat) : Int), 0) := by
              unfold Sh.put; rw [hfl, if_neg (by simp), if_neg h1, if_neg h2, hde, if_neg (by simpa using h3)]
            rw [h3, e]
            dsimp only
            by_cases h4 : ff s.es = s.es.length
            · have hp : putAt s.es (ff s.es) t = s.es ++ [some t] := by unfold putAt; rw [if_pos h4]
              (refine r_op (o_assign rfl rfl ?_); refine r_nil ?_; refine x_seq (x_region ?_); refine r_op (o_move rfl rfl ?_); refine r_op (o_neq_f rfl rfl (by omega) rfl ?_); refine r_nil ?_; refine x_false rfl ?_; refine x_skip ?_; refine x_seq ?_; refine x_seq (x_region ?_); refine r_op (o_move rfl rfl ?_); refine r_op (o_move rfl rfl ?_); refine r_op (o_nilCheck rfl rfl ?_); refine r_op (o_fieldAddr rfl rfl ?_); refine r_op (o_load rfl rfl rfl rfl ?_); refine r_op (o_lenS rfl rfl ?_); refine r_op (o_eql_t rfl rfl (by omega) rfl ?_); refine r_nil ?_; refine x_true rfl ?_; refine x_region ?_; refine r_op (o_move rfl rfl ?_); refine r_op (o_move rfl rfl ?_); refine r_op (o_nilCheck rfl rfl ?_); refine r_op (o_fieldAddr rfl rfl ?_); refine r_op (o_load rfl rfl rfl rfl ?_))
              (refine r_op ?_)
              refine o_build rfl (by rfl) rfl ?_
              (refine r_op ?_)
              refine o_buildSlice rfl (by rfl) (by rfl) (by rfl) (by rfl) rfl (fun a2 => ?_)
              (refine r_op ?_)
              refine o_appendT rfl rfl (by rfl) (by rfl) (by rfl) (by omega) rfl (fun a3 c3 hc => ?_)
              have R3 : Reads (Sl 2 a3 (s.es.length + 1) c3 (s.es.flatMap enV ++ [.bool false, .string ⟨#[]⟩])) 2 a3 (s.es.length + 1) (s.es.flatMap enV ++ [.bool false, .string ⟨#[]⟩]) := Sl.reads 2 a3 _ c3 _ (by rw [List.length_append, flen enV_cl]; simp; omega)
              (refine r_op (o_nilCheck rfl rfl ?_); refine r_op (o_fieldAddr rfl rfl ?_); refine r_do (o_store rfl rfl rfl rfl (by simp) ?_); (try dsimp only [Nat.reduceSub, Nat.reduceAdd, List.set]); refine r_nil ?_; refine x_seq (x_region ?_); refine r_op (o_move rfl rfl ?_); refine r_op (o_nilCheck rfl rfl ?_); refine r_op (o_fieldAddr rfl rfl ?_); refine r_op (o_load rfl rfl rfl rfl ?_); refine r_op (o_move rfl rfl ?_); refine r_op (o_move rfl rfl ?_))
              (refine r_op ?_)
              refine o_build rfl (by rfl) rfl ?_
              (refine r_op ?_)
              refine o_indexR rfl rfl R3 (j := ff s.es) rfl (by omega) rfl (fun b1 off ha => ?_)
              (refine r_do ?_)
              refine o_storeSA rfl rfl rfl rfl ha (i := ff s.es * 2) (by omega) (by rw [List.length_append, flen enV_cl]; simp; omega) ?_
              have hsf : (s.es.flatMap enV ++ ([.bool false, .string ⟨#[]⟩] : List Value)).take (ff s.es * 2) ++ [.bool true, .string (bstr t)] ++ (s.es.flatMap enV ++ ([.bool false, .string ⟨#[]⟩] : List Value)).drop (ff s.es * 2 + ([.bool true, .string (bstr t)] : List Value).length) = (s.es ++ [some t]).flatMap enV := by
                rw [h4, List.take_left' (flen enV_cl s.es), List.drop_eq_nil_of_le (by rw [List.length_append, flen enV_cl]; simp)]
                simp [enV, bstr]
              rw [hp]
              refine r_mem (Γ' := Row ps 0 (shRow b s.f s.n (.slice a3 (s.es.length + 1) c3) false) :: Sl 2 a3 (s.es.length + 1) c3 ((s.es ++ [some t]).flatMap enV) :: DiskI b d' :: Γ) (by rw [← hsf]; exact Sub.h) ?_
              have hb2 := Ent.shelf (ps := ps) (b := b) { s with es := s.es ++ [some t] } (a := a3) (c := c3) (DiskI b d' :: Γ)
              rw [show ({ s with es := s.es ++ [some t] } : Sh).failed = false from hfl] at hb2
              simp only [List.length_append, List.length_cons, List.length_nil, Nat.zero_add] at hb2
              (refine r_nil ?_; refine x_seq (x_region ?_); refine r_op (o_move rfl rfl ?_); refine r_op (o_assign rfl rfl ?_); refine r_op (o_assign rfl rfl ?_); refine r_nil ?_)
              refine x_ret rfl [ShelfI ps b { s with es := s.es ++ [some t] }, DiskI b d'] ⟨rfl, rfl⟩ ?_
              rw [show ({ s with es := s.es ++ [some t] } : Sh) = { f := s.f, n := s.n, es := s.es ++ [some t], failed := false } by rw [← hfl]]
              exact hb2.trans Sub.h
            · have hlt : ff s.es < s.es.length := by omega
              have hp : putAt s.es (ff s.es) t = s.es.set (ff s.es) (some t) := by unfold putAt; rw [if_neg h4]
              (refine r_op (o_assign rfl rfl ?_); refine r_nil ?_; refine x_seq (x_region ?_); refine r_op (o_move rfl rfl ?_); refine r_op (o_neq_f rfl rfl (by omega) rfl ?_); refine r_nil ?_; refine x_false rfl ?_; refine x_skip ?_; refine x_seq ?_; refine x_seq (x_region ?_); refine r_op (o_move rfl rfl ?_); refine r_op (o_move rfl rfl ?_); refine r_op (o_nilCheck rfl rfl ?_); refine r_op (o_fieldAddr rfl rfl ?_); refine r_op (o_load rfl rfl rfl rfl ?_); refine r_op (o_lenS rfl rfl ?_); refine r_op (o_eql_f rfl rfl (by omega) rfl ?_); refine r_nil ?_; refine x_false rfl ?_; refine x_skip ?_; refine x_seq (x_region ?_); refine r_op (o_move rfl rfl ?_); refine r_op (o_nilCheck rfl rfl ?_); refine r_op (o_fieldAddr rfl rfl ?_); refine r_op (o_load rfl rfl rfl rfl ?_); refine r_op (o_move rfl rfl ?_); refine r_op (o_move rfl rfl ?_))
              (refine r_op ?_)
              refine o_build rfl (by rfl) rfl ?_
              (refine r_op ?_)
              refine o_indexR rfl rfl R (j := ff s.es) rfl hlt rfl (fun b1 off ha => ?_)
              (refine r_do ?_)
              refine o_storeSA rfl rfl rfl rfl ha (i := ff s.es * 2) (by omega) (by rw [flen enV_cl]; simp; omega) ?_
              have hsf : (s.es.flatMap enV).take (ff s.es * 2) ++ [.bool true, .string (bstr t)] ++ (s.es.flatMap enV).drop (ff s.es * 2 + ([.bool true, .string (bstr t)] : List Value).length) = (s.es.set (ff s.es) (some t)).flatMap enV := set_flat s.es (ff s.es) hlt (some t)
              rw [hp]
              refine r_mem (Γ' := Row ps 0 (shRow b s.f s.n (.slice a s.es.length c) false) :: Sl 2 a s.es.length c ((s.es.set (ff s.es) (some t)).flatMap enV) :: DiskI b d' :: Γ) (by rw [← hsf]; exact Sub.h) ?_
              have hb2 := Ent.shelf (ps := ps) (b := b) { s with es := s.es.set (ff s.es) (some t) } (a := a) (c := c) (DiskI b d' :: Γ)
              rw [show ({ s with es := s.es.set (ff s.es) (some t) } : Sh).failed = false from hfl] at hb2
              simp only [List.length_set] at hb2
              (refine r_nil ?_; refine x_seq (x_region ?_); refine r_op (o_move rfl rfl ?_); refine r_op (o_assign rfl rfl ?_); refine r_op (o_assign rfl rfl ?_); refine r_nil ?_)
              refine x_ret rfl [ShelfI ps b { s with es := s.es.set (ff s.es) (some t) }, DiskI b d'] ⟨rfl, rfl⟩ ?_
              rw [show ({ s with es := s.es.set (ff s.es) (some t) } : Sh) = { f := s.f, n := s.n, es := s.es.set (ff s.es) (some t), failed := false } by rw [← hfl]]
              exact hb2.trans Sub.h
          · have e : s.put d t = ({ s with failed := true }, d', 0, e') := by
              unfold Sh.put; rw [hfl, if_neg (by simp), if_neg h1, if_neg h2, hde, if_pos (by simpa using h3)]
            have hb2 := Ent.shelf (ps := ps) (b := b) { s with failed := true } (a := a) (c := c) (DiskI b d' :: Γ)
            rw [e]
            dsimp only
            (refine r_op (o_assign rfl rfl ?_); refine r_nil ?_; refine x_seq (x_region ?_); refine r_op (o_move rfl rfl ?_); refine r_op (o_neq_t rfl rfl (by omega) rfl ?_); refine r_nil ?_; refine x_true rfl ?_; refine x_seq (x_region ?_); refine r_op (o_move rfl rfl ?_); refine r_op (o_nilCheck rfl rfl ?_); refine r_op (o_fieldAddr rfl rfl ?_); refine r_do (o_store rfl rfl rfl rfl (by simp) ?_); (try dsimp only [Nat.reduceSub, Nat.reduceAdd, List.set]); refine r_nil ?_; refine x_seq (x_region ?_); refine r_op (o_move rfl rfl ?_); refine r_op (o_assign rfl rfl ?_); refine r_op (o_assign rfl rfl ?_); refine r_nil ?_)
            exact x_ret rfl [ShelfI ps b { s with failed := true }, DiskI b d'] ⟨rfl, rfl⟩ ((Sub.h (Δ := Row ps 0 (shRow b s.f s.n (.slice a s.es.length c) true) :: Sl 2 a s.es.length c (s.es.flatMap enV) :: DiskI b d' :: Γ)).trans (hb2.trans Sub.h))
    · have e : s.put d t = (s, d, 0, 14) := by unfold Sh.put; rw [hfl, if_pos rfl]
      rw [hfl] at hback
      (refine x_seq ?_; refine x_block ?_; refine x_seq (x_region ?_); refine r_op (o_move rfl rfl ?_); refine r_op (o_nilCheck rfl rfl ?_); refine r_op (o_fieldAddr rfl rfl ?_); refine r_op (o_load rfl rfl rfl rfl ?_); refine r_op (o_assign rfl rfl ?_); refine r_nil ?_; refine x_true rfl ?_; refine x_seq (x_region ?_); refine r_op (o_assign rfl rfl ?_); refine r_op (o_assign rfl rfl ?_); refine r_nil ?_)
      exact x_ret rfl [ShelfI ps b (s.put d t).1, DiskI b (s.put d t).2.1] ⟨by rw [e]; rfl, rfl⟩ (by rw [e]; exact hback.trans Sub.h)
  · intro td back0
    (refine x_block ?_)
    refine x_loop (α := Nat) (fun i => i ≤ ff s.es) (fun i => [(6, .int .i64 i), (0, dp ps), (1, .string (bstr t))]) (fun _ => Row ps 0 (shRow b s.f s.n (.slice a s.es.length c) s.failed) :: Sl 2 a s.es.length c (s.es.flatMap enV) :: DiskI b d :: Γ)
      (fun i => ff s.es - i) 0 (Nat.zero_le _) ⟨rfl, rfl, rfl, trivial⟩ Sub.h ?_
    intro i hi back
    by_cases h1 : i < s.es.length
    · (refine x_seq ?_; refine x_seq (x_region ?_); refine r_op (o_move rfl rfl ?_); refine r_op (o_move rfl rfl ?_); refine r_op (o_nilCheck rfl rfl ?_); refine r_op (o_fieldAddr rfl rfl ?_); refine r_op (o_load rfl rfl rfl rfl ?_); refine r_op (o_lenS rfl rfl ?_); refine r_op (o_lss_t rfl rfl (by omega) rfl ?_); refine r_op (o_move rfl rfl ?_); refine r_guard rfl (o_move rfl rfl ?_); refine r_guard rfl (o_nilCheck rfl rfl ?_); refine r_guard rfl (o_fieldAddr rfl rfl ?_); refine r_guard rfl (o_load rfl rfl rfl rfl ?_); refine r_guard rfl (o_move rfl rfl ?_))
      (refine r_guard rfl ?_)
      refine o_indexR rfl rfl R (j := i) rfl h1 rfl (fun b1 off ha => ?_)
      (refine r_guard rfl (o_fieldAddr rfl rfl ?_))
      (refine r_guard rfl ?_)
      refine o_loadR rfl R ha (i := i * 2 + 0) (by omega) ((en_get h1 0 (by decide)).trans (enV_0 _)) rfl ?_
      by_cases h2 : i < ff s.es
      · rw [ff_lt h1 h2]
        (refine r_op (o_pick_t rfl rfl rfl ?_); refine r_nil ?_; refine x_true rfl ?_; refine x_skip ?_; refine x_block ?_; refine x_region ?_; refine r_op (o_move rfl rfl ?_); refine r_op (o_add rfl rfl (add_i64 (by omega)) rfl ?_); refine r_op (o_assign rfl rfl ?_); refine r_nil ?_; refine x_inBlock ?_)
        refine x_weak (back (i + 1) (by omega) (by omega)) (by (repeat' (first | exact trivial | refine ⟨rfl, ?_⟩))) Sub.h
      · obtain rfl : i = ff s.es := by omega
        rw [ff_free h1]
        (refine r_op (o_pick_t rfl rfl rfl ?_); refine r_nil ?_; refine x_false rfl ?_; refine x_exit rfl ?_)
        refine x_weak (back0 () trivial) (by (repeat' (first | exact trivial | refine ⟨rfl, ?_⟩))) Sub.h
    · obtain rfl : i = ff s.es := by omega
      (refine x_seq ?_; refine x_seq (x_region ?_); refine r_op (o_move rfl rfl ?_); refine r_op (o_move rfl rfl ?_); refine r_op (o_nilCheck rfl rfl ?_); refine r_op (o_fieldAddr rfl rfl ?_); refine r_op (o_load rfl rfl rfl rfl ?_); refine r_op (o_lenS rfl rfl ?_); refine r_op (o_lss_f rfl rfl (by omega) rfl ?_); refine r_op (o_move rfl rfl ?_); refine r_skip rfl rfl rfl ?_; refine r_skip rfl rfl rfl ?_; refine r_skip rfl rfl rfl ?_; refine r_skip rfl rfl rfl ?_; refine r_skip rfl rfl rfl ?_; refine r_skip rfl rfl rfl ?_; refine r_skip rfl rfl rfl ?_; refine r_skip rfl rfl rfl ?_; refine r_op (o_pick_f rfl rfl rfl ?_); refine r_nil ?_; refine x_false rfl ?_; refine x_exit rfl ?_)
      refine x_weak (back0 () trivial) (by (repeat' (first | exact trivial | refine ⟨rfl, ?_⟩))) Sub.h
end Go.Proofs.Ythneebbmodkjiaa

namespace Go.Proofs.Ythneebbmodkjiaa
open Go.Proofs

def Sh.del (s : Sh) (d : Dk) (slot : Int) : Sh × Dk × Int :=
  if s.failed then (s, d, 14) else if s.txt slot = none then (s, d, 3)
  else if (mark d s.f s.n slot.toNat 0).2 ≠ 0 then ({ s with failed := true }, (mark d s.f s.n slot.toNat 0).1, (mark d s.f s.n slot.toNat 0).2)
  else ({ s with es := s.es.set slot.toNat none }, (mark d s.f s.n slot.toNat 0).1, 0)
set_option maxHeartbeats 1600000 in
theorem del_spec {N : Nat} (ps b : Nat) (s : Sh) (d : Dk) (slot : Int) (hok : d.okn N) (hN : N + 20 ≤ 2 ^ 20) (hn : s.n ≤ 2 ^ 20) (hl : s.es.length ≤ 2 ^ 20) :
    Spec Try.prog 68 [dp ps, .int .i64 slot] [ShelfI ps b s, DiskI b d] (fun v B => v = .int .i64 (s.del d slot).2.2 ∧ B = [ShelfI ps b (s.del d slot).1, DiskI b (s.del d slot).2.1]) := by
  refine Spec.of_ex Try.func68 rfl Try.ntmps68 rfl fun E cs Γ => ?_
  (simp only [argRho, Nat.reduceAdd, List.cons_append, List.nil_append])
  refine x_open (fun E w st => st.shelf) fun ⟨a, c⟩ => ?_
  dsimp only
  have hback := Ent.shelf (ps := ps) (b := b) s (a := a) (c := c) (DiskI b d :: Γ)
  cases hfl : s.failed
  · rw [hfl] at hback
    (refine x_seq (x_region ?_); refine r_op (o_assign rfl rfl ?_); refine r_nil ?_; refine x_seq ?_; refine x_block ?_; refine x_seq (x_region ?_); refine r_op (o_move rfl rfl ?_); refine r_op (o_nilCheck rfl rfl ?_); refine r_op (o_fieldAddr rfl rfl ?_); refine r_op (o_load rfl rfl rfl rfl ?_); refine r_op (o_assign rfl rfl ?_); refine r_nil ?_; refine x_false rfl ?_; refine x_seq (x_region ?_); refine r_op (o_move rfl rfl ?_); refine r_op (o_move rfl rfl ?_))
    refine r_mem (Γ' := ShelfI ps b s :: DiskI b d :: Γ) ?_ ?_
    · exact hback
    (refine r_op ?_)
    refine o_call rfl (is_spec ps b s slot (by omega)) rfl ?_
    rintro v B ⟨rfl, rfl⟩
    (simp only [List.cons_append, List.nil_append])
    cases ht : s.txt slot with
    | none =>
      have e : s.del d slot = (s, d, 3) := by unfold Sh.del; rw [hfl, if_neg (by simp), if_pos ht]
      rw [e, show (none : Option Tx).isSome = false from rfl]
      (refine r_op (o_not rfl rfl ?_); refine r_op (o_assign rfl rfl ?_); refine r_nil ?_; refine x_true rfl ?_; refine x_seq (x_region ?_); refine r_op (o_assign rfl rfl ?_); refine r_nil ?_)
      exact x_ret rfl [ShelfI ps b s, DiskI b d] ⟨rfl, rfl⟩ Sub.h
    | some t =>
      rw [show (some t : Option Tx).isSome = true from rfl]
      have hi : 0 ≤ slot ∧ slot < s.es.length := by
        apply Classical.byContradiction; intro hn
        rw [Sh.txt_out (by omega)] at ht; cases ht
      obtain ⟨i, rfl⟩ : ∃ i : Nat, slot = i := ⟨slot.toNat, by omega⟩
      have hi1 : i < s.es.length := by omega
      obtain ⟨d', e', hde⟩ : ∃ d' e', mark d s.f s.n i 0 = (d', e') := ⟨_, _, rfl⟩
      (refine r_op (o_not rfl rfl ?_); refine r_op (o_assign rfl rfl ?_); refine r_nil ?_)
      refine x_open (fun E w st => st.shelf) fun ⟨a, c⟩ => ?_
      dsimp only
      rw [hfl]
      have R := sl2_reads a c s.es
      (refine x_false rfl ?_; refine x_skip ?_; refine x_inBlock ?_; refine x_seq ?_; refine x_seq (x_region ?_); refine r_op (o_move rfl rfl ?_); refine r_op (o_move rfl rfl ?_))
      (refine r_op ?_)
      refine o_call rfl (mark_spec ps b s.f s.n (.slice a s.es.length c) false d i 0 hok (by omega) hn (by omega)) rfl ?_
      rintro v B ⟨rfl, rfl⟩
      (simp only [List.cons_append, List.nil_append])
      rw [hde]
      dsimp only
      by_cases h3 : e' = 0
      · have e : s.del d i = ({ s with es := s.es.set i none }, d', 0) := by
          unfold Sh.del; rw [hfl, if_neg (by simp), if_neg (by rw [ht]; simp), Int.toNat_natCast, hde, if_neg (by simpa using h3)]
        rw [h3, e]
        dsimp only
        (refine r_op (o_assign rfl rfl ?_); refine r_nil ?_; refine x_seq (x_region ?_); refine r_op (o_move rfl rfl ?_); refine r_op (o_neq_f rfl rfl (by omega) rfl ?_); refine r_nil ?_; refine x_false rfl ?_; refine x_skip ?_; refine x_seq (x_region ?_); refine r_op (o_move rfl rfl ?_); refine r_op (o_nilCheck rfl rfl ?_); refine r_op (o_fieldAddr rfl rfl ?_); refine r_op (o_load rfl rfl rfl rfl ?_); refine r_op (o_move rfl rfl ?_))
        (refine r_op ?_)
        refine o_build rfl (by rfl) rfl ?_
        (refine r_op ?_)
        refine o_indexR rfl rfl R (j := i) rfl hi1 rfl (fun b1 off ha => ?_)
        (refine r_do ?_)
        refine o_storeSA rfl rfl rfl rfl ha (i := i * 2) (by omega) (by rw [flen enV_cl]; simp; omega) ?_
        have hsf : (s.es.flatMap enV).take (i * 2) ++ [.bool false, .string ⟨#[]⟩] ++ (s.es.flatMap enV).drop (i * 2 + ([.bool false, .string ⟨#[]⟩] : List Value).length) = (s.es.set i none).flatMap enV := set_flat s.es i hi1 none
        refine r_mem (Γ' := Row ps 0 (shRow b s.f s.n (.slice a s.es.length c) false) :: Sl 2 a s.es.length c ((s.es.set i none).flatMap enV) :: DiskI b d' :: Γ) (by rw [← hsf]; exact Sub.h) ?_
        have hb2 := Ent.shelf (ps := ps) (b := b) { s with es := s.es.set i none } (a := a) (c := c) (DiskI b d' :: Γ)
        rw [show ({ s with es := s.es.set i none } : Sh).failed = false from hfl] at hb2
        simp only [List.length_set] at hb2
        (refine r_nil ?_; refine x_seq (x_region ?_); refine r_op (o_assign rfl rfl ?_); refine r_nil ?_)
        refine x_ret rfl [ShelfI ps b { s with es := s.es.set i none }, DiskI b d'] ⟨rfl, rfl⟩ ?_
        rw [show ({ s with es := s.es.set i none } : Sh) = { f := s.f, n := s.n, es := s.es.set i none, failed := false } by rw [← hfl]]
        exact hb2.trans Sub.h
      · have e : s.del d i = ({ s with failed := true }, d', e') := by
          unfold Sh.del; rw [hfl, if_neg (by simp), if_neg (by rw [ht]; simp), Int.toNat_natCast, hde, if_pos (by simpa using h3)]
        have hb2 := Ent.shelf (ps := ps) (b := b) { s with failed := true } (a := a) (c := c) (DiskI b d' :: Γ)
        rw [e]
        dsimp only
        (refine r_op (o_assign rfl rfl ?_); refine r_nil ?_; refine x_seq (x_region ?_); refine r_op (o_move rfl rfl ?_); refine r_op (o_neq_t rfl rfl (by omega) rfl ?_); refine r_nil ?_; refine x_true rfl ?_; refine x_seq (x_region ?_); refine r_op (o_move rfl rfl ?_); refine r_op (o_nilCheck rfl rfl ?_); refine r_op (o_fieldAddr rfl rfl ?_); refine r_do (o_store rfl rfl rfl rfl (by simp) ?_); (try dsimp only [Nat.reduceSub, Nat.reduceAdd, List.set]); refine r_nil ?_; refine x_seq (x_region ?_); refine r_op (o_move rfl rfl ?_); refine r_op (o_assign rfl rfl ?_); refine r_nil ?_)
        exact x_ret rfl [ShelfI ps b { s with failed := true }, DiskI b d'] ⟨rfl, rfl⟩ ((Sub.h (Δ := Row ps 0 (shRow b s.f s.n (.slice a s.es.length c) true) :: Sl 2 a s.es.length c (s.es.flatMap enV) :: DiskI b d' :: Γ)).trans (hb2.trans Sub.h))
  · have e : s.del d slot = (s, d, 14) := by unfold Sh.del; rw [hfl, if_pos rfl]
    rw [hfl] at hback
    rw [e]
    (refine x_seq (x_region ?_); refine r_op (o_assign rfl rfl ?_); refine r_nil ?_; refine x_seq ?_; refine x_block ?_; refine x_seq (x_region ?_); refine r_op (o_move rfl rfl ?_); refine r_op (o_nilCheck rfl rfl ?_); refine r_op (o_fieldAddr rfl rfl ?_); refine r_op (o_load rfl rfl rfl rfl ?_); refine r_op (o_assign rfl rfl ?_); refine r_nil ?_; refine x_true rfl ?_; refine x_seq (x_region ?_); refine r_op (o_assign rfl rfl ?_); refine r_nil ?_)
    exact x_ret rfl [ShelfI ps b s, DiskI b d] ⟨rfl, rfl⟩ (hback.trans Sub.h)
end Go.Proofs.Ythneebbmodkjiaa

namespace Go.Proofs.Ythneebbmodkjiaa
open Go.Proofs Go.RowKit

/-! ### Results that lie in variables -/
def resV (t : Array Value) : ResultVar → Sem Value
  | .tmp i => pure (t.getD i undef)
  | .cell a ty => do loadVar ty (← asAddr (t.getD a undef))
def RV (P : Program) (Δ : List HP) (ρ : Rho) (r : ResultVar) (v : Value) : Prop := ∀ (E : Env) (t : Array Value) (w : World), Mat ρ t → St E Δ w → (resV t r).run P w = .ok v w
def RVs (P : Program) (Δ : List HP) (ρ : Rho) : List ResultVar → List Value → Prop
  | [], [] => True
  | r :: rs, v :: vs => RV P Δ ρ r v ∧ RVs P Δ ρ rs vs
  | _, _ => False
class FunRetC (P : Program) (f : FuncId) (rs : outParam (List ResultVar)) : Prop where h : ∃ fn, P.funcs[f]? = some fn ∧ fn.results = rs.toArray
theorem results_vars {P : Program} {fn : Func} {rs : List ResultVar} {ρ : Rho} {Δ : List HP} {E : Env} {t : Array Value} {vs : List Value} {w : World} (hr : fn.results = rs.toArray) (hm : Mat ρ t) (hv : RVs P Δ ρ rs vs) (hs : St E Δ w) : (results fn t).run P w = .ok (retV vs) w := by
  have key : ∀ (rs : List ResultVar) (vs : List Value), RVs P Δ ρ rs vs → (rs.mapM (fun
    | .tmp i => pure (t.getD i undef)
    | .cell a ty => do loadVar ty (← asAddr (t.getD a undef)) : ResultVar → Sem Value)).run P w = .ok vs w := by
    intro rs
    induction rs with
    | nil => intro vs h; cases vs with
      | nil => simp
      | cons v vs => exact h.elim
    | cons r rs ih =>
      intro vs h
      cases vs with
      | nil => exact h.elim
      | cons v vs =>
        have h1 := h.1 E t w hm hs
        have h2 := ih vs h.2
        rw [List.mapM_cons]
        cases r with
        | tmp i =>
          unfold resV at h1
          simp only [Sem.run_bind, h1, Sem.run_pure, Result.andThen_ok, h2]
        | cell a ty =>
          unfold resV at h1
          simp only [Sem.run_bind, Sem.run_pure] at h1 h2 ⊢
          rw [h1]
          simp only [Result.andThen_ok, h2]
  have h2 := key rs vs hv
  unfold results
  rw [hr, Array.mapM_eq_mapM_toList]
  simp only [Sem.run_bind, Sem.run_map, Sem.run_pure]
  refine (congrArg (fun (r : Result (List Value)) => ((r.andThen fun a w' => Result.ok a.toArray w').andThen fun a w' => Result.ok (if h : a.size = 1 then a[0] else Value.tuple a) w')) h2).trans ?_
  match vs with
  | [] => rfl
  | [v] => rfl
  | v :: u :: us => rfl
theorem rv_tmp {P : Program} {Δ : List HP} {ρ : Rho} {i : Nat} {v : Value} (h : ev ρ (.tmp i) = some v) : RV P Δ ρ (.tmp i) v := fun E t w hm _ => by
  have := hm.ev [] h
  unfold resV
  simp only [Sem.run_pure]
  rw [show t.getD i undef = v from this]
theorem rv_cell {P : Program} {Δ : List HP} {ρ : Rho} {i ty b o : Nat} {v : Value} [T : TyCell P ty] (h : ev ρ (.tmp i) = some (.pointer (some ⟨b, o, none⟩))) (hc : Cell Δ b o v) : RV P Δ ρ (.cell i ty) v := fun E t w hm hs => by
  have := hm.ev [] h
  have e : t.getD i undef = .pointer (some ⟨b, o, none⟩) := this
  show ((asAddr (t.getD i undef) >>= fun x => loadVar ty x) : Sem Value).run P w = _
  rw [e]
  simp [asAddr, loadVar, TyCell.agg, hc _ _ hs]
theorem rv_agg {P : Program} {Δ : List HP} {ρ : Rho} {i ty b o s : Nat} {us : List Value} [T : TyAgg P ty s] (h : ev ρ (.tmp i) = some (.pointer (some ⟨b, o, none⟩))) (hl : us.length = s) (hc : ∀ j v, us[j]? = some v → Cell Δ b (o + j) v) : RV P Δ ρ (.cell i ty) (.agg us.toArray) := fun E t w hm hs => by
  have := hm.ev [] h
  obtain ⟨inf, hi, hsz⟩ := TyAgg.size (P := P) (t := ty)
  have e : t.getD i undef = .pointer (some ⟨b, o, none⟩) := this
  show ((asAddr (t.getD i undef) >>= fun x => loadVar ty x) : Sem Value).run P w = _
  rw [e]
  simp [asAddr, loadVar, TyAgg.agg, sizeOf_run hi, hsz, loadCells_run (P := P) (w := w) hl (fun j v hj => hc j v hj _ _ hs)]
theorem x_retC {P : Program} {f : FuncId} {E : Env} {cs : List Frame} {R : Value → List HP → Prop} {Γ Δ : List HP} {n : Nat} {k : List Item} {ρ : Rho} {rs : List ResultVar} {vs : List Value} [F : FunRetC P f rs] (hv : RVs P Δ ρ rs vs) (B : List HP) (hR : R (retV vs) B) (hE : Ent Δ (B ++ Γ)) :
    Ex P (retX P f E cs R Γ) n [] (.code .ret :: k) ρ Δ := by
  intro t w htn hm hs
  obtain ⟨fn, hfn, hres⟩ := F.h
  refine .step (stepR_ret rfl) (.now ⟨_, w, retV vs, B, rfl, rfl, ⟨rfl, rfl, rfl, fn, hfn, ?_⟩, hR, hE.st hs⟩)
  exact results_vars hres hm hv hs
theorem x_retCM {P : Program} {f : FuncId} {E : Env} {cs : List Frame} {R : Value → List HP → Prop} {Γ Δ Δ' : List HP} {n : Nat} {k : List Item} {ρ : Rho} {rs : List ResultVar} {Ds : List Nat} {vs : List Value} [F : FunRetC P f rs] [T : Take Δ (Marks Ds) Δ'] (hv : RVs P Δ' ρ rs vs) (B : List HP) (hR : R (retV vs) B) (hE : Ent Δ' (B ++ Γ)) :
    Ex P (retX P f E cs R Γ) n (mks Ds) (.code .ret :: k) ρ Δ := by
  intro t w htn hm hs
  obtain ⟨fn, hfn, hres⟩ := F.h
  obtain ⟨w', h1, h2⟩ := unwinds (P := P) (fr := { (retX P f E cs R Γ).base.atR ⟨t, mks Ds⟩ (.code .ret :: k) with mode := .returning }) (cs := cs) Ds Δ' w rfl rfl (hs.perm T.h)
  refine .step (stepR_ret rfl) (.steps h1 (.now ⟨_, w', retV vs, B, rfl, rfl, ⟨rfl, rfl, rfl, fn, hfn, ?_⟩, hR, hE.st h2⟩))
  exact results_vars hres hm hv h2
end Go.Proofs.Ythneebbmodkjiaa
