/- Part of a proof over the seat Ythneebbmodkjiaa: module D10. Its claim's last module says what is proved. -/
import Derived.Test.YthneebbmodkjiaaD9
namespace Go.Proofs.Ythneebbmodkjiaa
open Go.Proofs

/-- The next pick, and those behind it. -/
def pk : List Int → Int × List Int
  | [] => (1, [])
  | p :: ps => (if p < 0 then 1 else p, ps)
/-- What one pick keeps of a change. -/
def keep1 (b : List UInt8) (c : Ch) (p : Int) : List UInt8 :=
  if p = 1 then b else if c.cut then (if p = 0 ∧ c.at' < b.length then b.take c.at' else b)
  else (let n := if p > 1 then min c.b.length (p - 2).toNat else c.b.length; if n = 0 then b else over b c.at' (c.b.take n))
def keep : List UInt8 → List Ch → List Int → List UInt8 × List Int
  | b, [], ps => (b, ps)
  | b, c :: cs, ps => keep (keep1 b c (pk ps).1) cs (pk ps).2

abbrev PickH (pa pp : Nat) (a : Option Addr) (len cap : Nat) (i : Nat) : HP := Sep [Row pa 0 [.int .i64 i], Row pp 0 [.slice a len cap]]
theorem pick_spec {A : HP} {a : Option Addr} {cap : Nat} {ps : List Int} (pa pp i : Nat) (R : Reads A 1 a ps.length (ps.map iv)) (hi : i ≤ ps.length) (hl : ps.length ≤ 2 ^ 63 - 1) :
    Spec Try.prog 99 [dp pa, dp pp] [Row pa 0 [.int .i64 i], Row pp 0 [.slice a ps.length cap], A]
      (fun v B => ∃ i' : Nat, v = .int .i64 (pk (ps.drop i)).1 ∧ B = [Row pa 0 [.int .i64 i'], Row pp 0 [.slice a ps.length cap], A] ∧ ps.drop i' = (pk (ps.drop i)).2 ∧ i' ≤ ps.length ∧ True) := by
  refine Spec.of_ex Try.func99 rfl Try.ntmps99 rfl fun E cs Γ => ?_
  (simp only [argRho, Nat.reduceAdd, List.cons_append, List.nil_append])
  by_cases h : i = ps.length
  · subst h
    (refine x_seq (x_region ?_); refine r_op (o_assign rfl rfl ?_); refine r_nil ?_; refine x_seq ?_; refine x_seq (x_region ?_); refine r_op (o_load rfl rfl rfl rfl ?_); refine r_op (o_load rfl rfl rfl rfl ?_); refine r_op (o_lenS rfl rfl ?_); refine r_op (o_eql_t rfl rfl (by omega) rfl ?_); refine r_nil ?_; refine x_true rfl ?_; refine x_seq (x_region ?_); refine r_op (o_assign rfl rfl ?_); refine r_nil ?_)
    refine x_ret rfl [Row pa 0 [.int .i64 ps.length], Row pp 0 [.slice a ps.length cap], A] ⟨ps.length, ?_, rfl, ?_, Nat.le_refl _, trivial⟩ Sub.h
    · simp [retV, pk]
    · simp [pk]
  · have hlt : i < ps.length := by omega
    have hd : ps.drop i = ps[i] :: ps.drop (i + 1) := List.drop_eq_getElem_cons hlt
    rw [hd]
    (refine x_seq (x_region ?_); refine r_op (o_assign rfl rfl ?_); refine r_nil ?_; refine x_seq ?_; refine x_seq (x_region ?_); refine r_op (o_load rfl rfl rfl rfl ?_); refine r_op (o_load rfl rfl rfl rfl ?_); refine r_op (o_lenS rfl rfl ?_); refine r_op (o_eql_f rfl rfl (by omega) rfl ?_); refine r_nil ?_; refine x_false rfl ?_; refine x_skip ?_; refine x_seq (x_region ?_); refine r_op (o_load rfl rfl rfl rfl ?_); refine r_op (o_add rfl rfl (add_i64 (by omega)) rfl ?_); refine r_do (o_store rfl rfl rfl rfl (by simp) ?_); (try dsimp only [Nat.reduceSub, Nat.reduceAdd, List.set]); refine r_nil ?_; refine x_seq ?_; refine x_seq (x_region ?_); refine r_op (o_load rfl rfl rfl rfl ?_); refine r_op (o_load rfl rfl rfl rfl ?_); refine r_op (o_sub rfl rfl (sub_i64 (by omega)) rfl ?_))
    (refine r_op ?_)
    refine o_indexR rfl rfl R (j := i) (by omega) hlt rfl (fun b off ha => ?_)
    (refine r_op ?_)
    refine o_loadR rfl R ha (i := i) (by omega) (mget iv hlt) rfl ?_
    by_cases hn : ps[i] < 0
    · (refine r_op (o_lss_t rfl rfl (by omega) rfl ?_); refine r_nil ?_; refine x_true rfl ?_; refine x_seq (x_region ?_); refine r_op (o_assign rfl rfl ?_); refine r_nil ?_)
      refine x_ret rfl [Row pa 0 [.int .i64 ((i : Int) + 1)], Row pp 0 [.slice a ps.length cap], A] ⟨i + 1, ?_, rfl, rfl, hlt, trivial⟩ Sub.h
      simp [retV, pk, hn]
    · (refine r_op (o_lss_f rfl rfl (by omega) rfl ?_); refine r_nil ?_; refine x_false rfl ?_; refine x_skip ?_; refine x_seq (x_region ?_); refine r_op (o_load rfl rfl rfl rfl ?_); refine r_op (o_load rfl rfl rfl rfl ?_); refine r_op (o_sub rfl rfl (sub_i64 (by omega)) rfl ?_))
      (refine r_op ?_)
      refine o_indexR rfl rfl R (j := i) (by omega) hlt rfl (fun b off ha => ?_)
      (refine r_op ?_)
      refine o_loadR rfl R ha (i := i) (by omega) (mget iv hlt) rfl ?_
      (refine r_op (o_assign rfl rfl ?_); refine r_nil ?_)
      refine x_ret rfl [Row pa 0 [.int .i64 ((i : Int) + 1)], Row pp 0 [.slice a ps.length cap], A] ⟨i + 1, ?_, rfl, rfl, hlt, trivial⟩ Sub.h
      simp [retV, pk, hn]

theorem pk_ge (ps : List Int) : 0 ≤ (pk ps).1 := by
  unfold pk
  split
  · decide
  · dsimp only; split <;> omega
theorem pk_le (ps : List Int) (i : Nat) (h : ∀ p ∈ ps, p ≤ 9223372036854775807) : (pk (ps.drop i)).1 ≤ 9223372036854775807 := by
  cases hd : ps.drop i with
  | nil => decide
  | cons p qs =>
    have : p ∈ ps := List.mem_of_mem_drop (i := i) (by rw [hd]; exact List.mem_cons_self ..)
    have := h p this
    show (if p < 0 then (1 : Int) else p) ≤ _
    split <;> omega
theorem keep1_len (b : List UInt8) (c : Ch) (p : Int) (n : Nat) (hb : b.length ≤ n) (hc : c.at' + c.b.length ≤ n) : (keep1 b c p).length ≤ n := by
  unfold keep1
  split
  · exact hb
  · split
    · split
      · simp; omega
      · exact hb
    · dsimp only
      split <;> split
      · exact hb
      · rw [over_length]; simp; omega
      · exact hb
      · rw [over_length]; simp; omega

/-- A file's content beside its own row. -/
def FileC (x : FX) : HP := Sep [sp x.safe, sp x.now, Sl 3 x.ca x.chg.length x.cc (x.chg.flatMap CX.cells), Inn (x.chg.map CX.s)]
/-- What may be read of a file. -/
structure RdF (A : HP) (x : FX) : Prop where
  safe : Reads A 1 x.safe.1 x.safe.2.2.length (x.safe.2.2.map bv)
  chg : Reads A 3 x.ca x.chg.length (x.chg.flatMap CX.cells)
  bs : ∀ c ∈ x.chg, Reads A 1 c.s.1 c.s.2.2.length (c.s.2.2.map bv)
theorem FileC.rd (x : FX) : RdF (FileC x) x := by
  refine ⟨?_, ?_, fun c hc => ?_⟩
  · exact (Sl.reads 1 _ _ _ _ (by simp)).of_ent [sp x.now, Sl 3 x.ca x.chg.length x.cc (x.chg.flatMap CX.cells), Inn (x.chg.map CX.s)] (Ent.sep_out _ [])
  · refine (Sl.reads 3 x.ca _ x.cc _ (flen CX.cl _)).of_ent [sp x.safe, sp x.now, Inn (x.chg.map CX.s)] ((Ent.sep_out _ []).trans (by (simp only [List.cons_append, List.nil_append]); exact Sub.h))
  · refine (Inn.reads (List.mem_map_of_mem hc)).of_ent [sp x.safe, sp x.now, Sl 3 x.ca x.chg.length x.cc (x.chg.flatMap CX.cells)] ((Ent.sep_out _ []).trans (by (simp only [List.cons_append, List.nil_append]); exact Sub.h))

theorem o_storeW {P : Program} {X : Cx} {n : Nat} {ds : List Deferred} {ρ : Rho} {Γ : List HP} {Nx : Value → List HP → Prop} {ty : TypeId} {t s : Nat} {x y : Operand} {b : Nat} {vs us : List Value} {K : HP → List HP} [T : TyAgg P t s] (hx : ev ρ x = some (.pointer (some ⟨b, 0, none⟩))) (hy : ev ρ y = some (.agg us.toArray)) (hs' : us.length = s) (h1 : us.all Value.oneCell' = true)
    [H : UpdRow Γ b 0 vs K] (hl : us.length = vs.length) (h : Nx undef (K (Row b 0 us))) : ExO P X n ds none (.store t x y) ty Nx ρ Γ := by
  refine o_storeA (off := 0) (vs := vs) (K := K) hx hy hs' h1 rfl (by omega) ?_
  have e : vs.take (0 - 0) ++ us ++ vs.drop (0 - 0 + us.length) = us := by
    rw [List.drop_eq_nil_of_le (by omega)]; simp
  rw [e]; exact h
theorem kept_spec {A B : HP} {a : Option Addr} {cap : Nat} {ps : List Int} (x : FX) (pa pp i : Nat) (RF : RdF B x) (R : Reads A 1 a ps.length (ps.map iv)) (hi : i ≤ ps.length) (hl : ps.length ≤ 2 ^ 63 - 1)
    (hb : x.safe.2.2.length ≤ 2 ^ 39) (hc : ∀ c ∈ x.chg, c.at' + c.s.2.2.length ≤ 2 ^ 39 ∧ c.s.2.2.length ≤ c.s.2.1) (hlc : x.chg.length ≤ 2 ^ 40) (hps : ∀ p ∈ ps, p ≤ 9223372036854775807) :
    Spec Try.prog 100 [.agg x.cells.toArray, .func (.func 99) #[] #[dp pa, dp pp]] [Row pa 0 [.int .i64 i], Row pp 0 [.slice a ps.length cap], A, B]
      (fun v C => ∃ (i' : Nat) (a' : Option Addr) (cap' : Nat) (bs : List UInt8), v = .slice a' bs.length cap' ∧ C = [Row pa 0 [.int .i64 i'], Row pp 0 [.slice a ps.length cap], A, B, Sl 1 a' bs.length cap' (bs.map bv)] ∧ (bs, ps.drop i') = keep x.safe.2.2 (x.chg.map CX.abs) (ps.drop i) ∧ i' ≤ ps.length) := by
  refine Spec.of_ex Try.func100 rfl Try.ntmps100 rfl fun E cs Γ => ?_
  (simp only [argRho, Nat.reduceAdd, List.cons_append, List.nil_append])
  (refine x_seq ?_); (refine x_region ?_)
  (refine r_op ?_)
  refine o_boxA (vs := x.cells) rfl rfl (fun px => ?_)
  (refine r_op (o_assign rfl rfl ?_); refine r_nil ?_; refine x_scope ?_; refine x_seq (x_region ?_); refine r_op (o_fieldAddr rfl rfl ?_); refine r_op (o_load rfl rfl rfl rfl ?_))
  (refine r_op ?_)
  refine o_call rfl (clone_spec RF.safe (by omega)) rfl ?_
  rintro v C ⟨a1, c1, rfl, rfl⟩
  (simp only [List.cons_append, List.nil_append])
  (refine r_op (o_assign rfl rfl ?_); refine r_nil ?_; refine x_seq ?_; refine x_label ?_; refine x_seq ?_; refine x_seq (x_region ?_); refine r_op (o_fieldAddr rfl rfl ?_); refine r_op (o_load rfl rfl rfl rfl ?_); refine r_op (o_lenS rfl rfl ?_); refine r_op (o_move rfl rfl ?_); refine r_nil ?_; refine x_block ?_)
  refine x_loop (α := Nat × Nat × List UInt8 × Option Addr × Nat) (fun q => q.1 ≤ x.chg.length ∧ q.2.1 ≤ ps.length ∧ q.2.2.1.length ≤ 2 ^ 39 ∧ keep q.2.2.1 ((x.chg.drop q.1).map CX.abs) (ps.drop q.2.1) = keep x.safe.2.2 (x.chg.map CX.abs) (ps.drop i))
    (fun q => [(1, .func (.func 99) #[] #[dp pa, dp pp]), (5, .slice q.2.2.2.1 q.2.2.1.length q.2.2.2.2), (14, .slice x.ca x.chg.length x.cc), (15, .int .i64 x.chg.length), (16, .int .i64 q.1)])
    (fun q => Row pa 0 [.int .i64 q.2.1] :: Row pp 0 [.slice a ps.length cap] :: A :: B :: Sl 1 q.2.2.2.1 q.2.2.1.length q.2.2.2.2 (q.2.2.1.map bv) :: Γ)
    (fun q => x.chg.length - q.1) (0, i, x.safe.2.2, a1, c1) ⟨Nat.zero_le _, hi, hb, rfl⟩ ⟨rfl, rfl, rfl, rfl, rfl, trivial⟩ Sub.h ?_
  rintro ⟨j, i', bs, a2, c2⟩ ⟨hj, hi', hbs, hk⟩ back
  dsimp only at hj hi' hbs hk back ⊢
  (refine x_seq (x_region ?_))
  (refine r_op ?_)
  refine o_lss rfl rfl rfl (fun h => ?_) (fun h => ?_)
  · have hj1 : j < x.chg.length := by omega
    obtain ⟨⟨cut, cat, cb⟩, hcj⟩ : ∃ c, x.chg[j] = c := ⟨_, rfl⟩
    have hcm : CX.mk cut cat cb ∈ x.chg := hcj ▸ List.getElem_mem hj1
    have hcb := hc _ hcm
    have hRc := RF.bs _ hcm
    dsimp only at hcb hRc
    rw [List.drop_eq_getElem_cons hj1, hcj] at hk
    rw [List.map_cons] at hk
    replace hk : keep (keep1 bs (CX.mk cut cat cb).abs (pk (ps.drop i')).1) ((x.chg.drop (j + 1)).map CX.abs) (pk (ps.drop i')).2 = _ := hk
    have hkl := keep1_len bs (CX.mk cut cat cb).abs (pk (ps.drop i')).1 (2 ^ 39) hbs hcb.1
    (refine r_nil ?_; refine x_seq ?_; refine x_true rfl ?_; refine x_skip ?_; refine x_seq ?_; refine x_block ?_; refine x_seq (x_region ?_))
    (refine r_op ?_)
    refine o_indexR rfl rfl RF.chg (j := j) rfl hj1 rfl (fun b off ha => ?_)
    (refine r_op ?_)
    refine o_loadAR rfl RF.chg ha (i := j * 3) (us := [.bool cut, .int .i64 cat, sv cb]) rfl rfl (fun j' v hv => ?_) rfl ?_
    · have hj' : j' < 3 := (List.getElem?_eq_some_iff.1 hv).1
      rw [fget CX.cl hj1 j' hj', hcj]; exact hv
    (refine r_op ?_)
    refine o_alloc rfl (fun pc => ?_)
    (refine r_do ?_)
    refine o_storeW (us := [.bool cut, .int .i64 cat, sv cb]) rfl rfl rfl (by rfl) (by rfl) ?_
    (refine r_nil ?_; refine x_seq (x_region ?_); refine r_op (o_move rfl rfl ?_))
    (refine r_op ?_)
    refine o_callF rfl rfl (pick_spec (cap := cap) pa pp i' R hi' hl) rfl ?_
    rintro v C ⟨i2, rfl, rfl, hd2, hi2, _⟩
    (simp only [List.cons_append, List.nil_append])
    obtain ⟨p, hp⟩ : ∃ p, (pk (ps.drop i')).1 = p := ⟨_, rfl⟩
    have hp0 := pk_ge (ps.drop i')
    have hpl := pk_le ps i' hps
    rw [hp] at hp0 hpl hk hkl ⊢
    have hback := fun a3 c3 => back (j + 1, i2, keep1 bs (CX.mk cut cat cb).abs p, a3, c3) ⟨by dsimp only; omega, hi2, hkl, by dsimp only; rw [hd2]; exact hk⟩ (by dsimp only; omega)
    dsimp only at hback
    (refine r_op (o_assign rfl rfl ?_); refine r_nil ?_; refine x_seq (x_region ?_); refine r_op (o_fieldAddr rfl rfl ?_); refine r_op (o_load rfl rfl rfl rfl ?_); refine r_op (o_lenS rfl rfl ?_); refine r_op (o_assign rfl rfl ?_); refine r_nil ?_; refine x_seq ?_; refine x_block ?_; refine x_seq (x_region ?_); refine r_op (o_move rfl rfl ?_))
    by_cases h1 : p = 1
    · have e : keep1 bs (CX.mk cut cat cb).abs p = bs := by unfold keep1; rw [if_pos h1]
      rw [e] at hback
      (refine r_op (o_eql_t rfl rfl (by omega) rfl ?_); refine r_op (o_assign rfl rfl ?_); refine r_nil ?_; refine x_true rfl ?_; refine x_exit rfl ?_; refine x_region ?_; refine r_op (o_add rfl rfl (add_i64 (by omega)) rfl ?_); refine r_op (o_move rfl rfl ?_); refine r_nil ?_)
      refine x_weak (hback a2 c2) (by (repeat' (first | exact trivial | refine ⟨rfl, ?_⟩))) Sub.h
    · cases cut
      · have e : keep1 bs (CX.mk false cat cb).abs p = (if (if p > 1 then min cb.2.2.length (p - 2).toNat else cb.2.2.length) = 0 then bs else over bs cat (cb.2.2.take (if p > 1 then min cb.2.2.length (p - 2).toNat else cb.2.2.length))) := by
          unfold keep1; rw [if_neg h1, if_neg (by simp [CX.abs])]; rfl
        by_cases h2 : p > 1
        · rw [if_pos h2] at e
          obtain ⟨n, hn⟩ : ∃ n, min cb.2.2.length (p - 2).toNat = n := ⟨_, rfl⟩
          rw [hn] at e
          (refine r_op (o_eql_f rfl rfl (by omega) rfl ?_); refine r_op (o_assign rfl rfl ?_); refine r_nil ?_; refine x_false rfl ?_; refine x_seq (x_region ?_); refine r_op (o_fieldAddr rfl rfl ?_); refine r_op (o_load rfl rfl rfl rfl ?_); refine r_op (o_assign rfl rfl ?_); refine r_nil ?_; refine x_false rfl ?_; refine x_seq (x_region ?_); refine r_op (o_move rfl rfl ?_); refine r_op (o_gtr_t rfl rfl (by omega) rfl ?_); refine r_op (o_assign rfl rfl ?_); refine r_nil ?_; refine x_true rfl ?_; refine x_region ?_; refine r_op (o_move rfl rfl ?_); refine r_op (o_move rfl rfl ?_); refine r_op (o_sub rfl rfl (sub_i64 (by omega)) rfl ?_); refine r_op (o_min rfl rfl rfl ?_); refine r_op (o_assign rfl rfl ?_); refine r_nil ?_; refine x_inBlock ?_; refine x_seq (x_region ?_); refine r_op (o_move rfl rfl ?_))
          rw [show min (cb.2.2.length : Int) (p - 2) = (n : Int) by omega]
          by_cases h3 : n = 0
          · rw [if_pos h3] at e
            rw [e] at hback
            (refine r_op (o_gtr_f rfl rfl (by omega) rfl ?_); refine r_nil ?_; refine x_false rfl ?_; refine x_skip ?_; refine x_inBlock ?_; refine x_region ?_; refine r_op (o_add rfl rfl (add_i64 (by omega)) rfl ?_); refine r_op (o_move rfl rfl ?_); refine r_nil ?_)
            refine x_weak (hback a2 c2) (by (repeat' (first | exact trivial | refine ⟨rfl, ?_⟩))) Sub.h
          · rw [if_neg h3] at e
            rw [e] at hback
            (refine r_op (o_gtr_t rfl rfl (by omega) rfl ?_); refine r_nil ?_; refine x_true rfl ?_)
            refine x_script 8 [(0,false),(1,false),(2,false),(3,false),(4,false),(5,false),(6,false),(7,true),(8,false)] [Row pc 0 [.bool false, .int .i64 cat, sv cb]] mixed (by kernel_rfl) permF ?_
            (refine s_v rfl (v_move rfl) ?_)
            (refine s_v rfl (v_fieldAddr rfl) ?_)
            (refine s_v rfl (v_load rfl rfl rfl) ?_)
            (refine s_v rfl (v_fieldAddr rfl) ?_)
            (refine s_v rfl (v_load rfl rfl rfl) ?_)
            (refine s_v rfl (v_move rfl) ?_)
            refine s_v rfl (v_sliceHi rfl rfl (jh := n) rfl (by omega)) ?_
            have R2 := hRc.firstN n (by omega)
            have e1 : ((cb.2.2.map bv).take (n * 1)) = (cb.2.2.take n).map bv := by simp [List.map_take]
            rw [e1] at R2
            refine s_x rfl (o_call rfl (laid_spec (cap := c2) R2 (by omega) (by omega) (by omega) (by omega)) rfl ?_)
            rintro v C ⟨a3, c3, rfl, rfl⟩
            refine ⟨permF, ?_⟩
            (simp only [List.cons_append, List.nil_append])
            (refine s_v rfl (v_assign rfl) ?_)
            refine s_end rfl ?_
            (refine x_inBlock ?_; refine x_region ?_; refine r_op (o_add rfl rfl (add_i64 (by omega)) rfl ?_); refine r_op (o_move rfl rfl ?_); refine r_nil ?_)
            refine x_weak (hback a3 c3) (by (repeat' (first | exact trivial | refine ⟨rfl, ?_⟩))) Sub.h
        · rw [if_neg h2] at e
          obtain ⟨n, hn⟩ : ∃ n, cb.2.2.length = n := ⟨_, rfl⟩
          rw [hn] at e
          by_cases h3 : n = 0
          · rw [if_pos h3] at e
            rw [e] at hback
            (refine r_op (o_eql_f rfl rfl (by omega) rfl ?_); refine r_op (o_assign rfl rfl ?_); refine r_nil ?_; refine x_false rfl ?_; refine x_seq (x_region ?_); refine r_op (o_fieldAddr rfl rfl ?_); refine r_op (o_load rfl rfl rfl rfl ?_); refine r_op (o_assign rfl rfl ?_); refine r_nil ?_; refine x_false rfl ?_; refine x_seq (x_region ?_); refine r_op (o_move rfl rfl ?_); refine r_op (o_gtr_f rfl rfl (by omega) rfl ?_); refine r_op (o_assign rfl rfl ?_); refine r_nil ?_; refine x_false rfl ?_; refine x_skip ?_; refine x_inBlock ?_; refine x_seq (x_region ?_); refine r_op (o_move rfl rfl ?_); refine r_op (o_gtr_f rfl rfl (by omega) rfl ?_); refine r_nil ?_; refine x_false rfl ?_; refine x_skip ?_; refine x_inBlock ?_; refine x_region ?_; refine r_op (o_add rfl rfl (add_i64 (by omega)) rfl ?_); refine r_op (o_move rfl rfl ?_); refine r_nil ?_)
            refine x_weak (hback a2 c2) (by (repeat' (first | exact trivial | refine ⟨rfl, ?_⟩))) Sub.h
          · rw [if_neg h3] at e
            rw [e] at hback
            (refine r_op (o_eql_f rfl rfl (by omega) rfl ?_); refine r_op (o_assign rfl rfl ?_); refine r_nil ?_; refine x_false rfl ?_; refine x_seq (x_region ?_); refine r_op (o_fieldAddr rfl rfl ?_); refine r_op (o_load rfl rfl rfl rfl ?_); refine r_op (o_assign rfl rfl ?_); refine r_nil ?_; refine x_false rfl ?_; refine x_seq (x_region ?_); refine r_op (o_move rfl rfl ?_); refine r_op (o_gtr_f rfl rfl (by omega) rfl ?_); refine r_op (o_assign rfl rfl ?_); refine r_nil ?_; refine x_false rfl ?_; refine x_skip ?_; refine x_inBlock ?_; refine x_seq (x_region ?_); refine r_op (o_move rfl rfl ?_); refine r_op (o_gtr_t rfl rfl (by omega) rfl ?_); refine r_nil ?_; refine x_true rfl ?_)
            refine x_script 8 [(0,false),(1,false),(2,false),(3,false),(4,false),(5,false),(6,false),(7,true),(8,false)] [Row pc 0 [.bool false, .int .i64 cat, sv cb]] mixed (by kernel_rfl) permF ?_
            (refine s_v rfl (v_move rfl) ?_)
            (refine s_v rfl (v_fieldAddr rfl) ?_)
            (refine s_v rfl (v_load rfl rfl rfl) ?_)
            (refine s_v rfl (v_fieldAddr rfl) ?_)
            (refine s_v rfl (v_load rfl rfl rfl) ?_)
            (refine s_v rfl (v_move rfl) ?_)
            refine s_v rfl (v_sliceHi rfl rfl (jh := n) (by simp [hn]) (by omega)) ?_
            have R2 := hRc.firstN n (by omega)
            have e1 : ((cb.2.2.map bv).take (n * 1)) = (cb.2.2.take n).map bv := by simp [List.map_take]
            rw [e1] at R2
            refine s_x rfl (o_call rfl (laid_spec (cap := c2) R2 (by omega) (by omega) (by omega) (by omega)) rfl ?_)
            rintro v C ⟨a3, c3, rfl, rfl⟩
            refine ⟨permF, ?_⟩
            (simp only [List.cons_append, List.nil_append])
            (refine s_v rfl (v_assign rfl) ?_)
            refine s_end rfl ?_
            (refine x_inBlock ?_; refine x_region ?_; refine r_op (o_add rfl rfl (add_i64 (by omega)) rfl ?_); refine r_op (o_move rfl rfl ?_); refine r_nil ?_)
            refine x_weak (hback a3 c3) (by (repeat' (first | exact trivial | refine ⟨rfl, ?_⟩))) Sub.h
      · have e : keep1 bs (CX.mk true cat cb).abs p = (if p = 0 ∧ cat < bs.length then bs.take cat else bs) := by
          unfold keep1; rw [if_neg h1, if_pos (by simp [CX.abs])]; rfl
        by_cases h2 : p = 0
        · by_cases h3 : cat < bs.length
          · rw [if_pos ⟨h2, h3⟩] at e
            rw [e] at hback
            (refine r_op (o_eql_f rfl rfl (by omega) rfl ?_); refine r_op (o_assign rfl rfl ?_); refine r_nil ?_; refine x_false rfl ?_; refine x_seq (x_region ?_); refine r_op (o_fieldAddr rfl rfl ?_); refine r_op (o_load rfl rfl rfl rfl ?_); refine r_op (o_assign rfl rfl ?_); refine r_nil ?_; refine x_true rfl ?_; refine x_seq ?_; refine x_seq (x_region ?_); refine r_op (o_move rfl rfl ?_); refine r_op (o_eql_t rfl rfl (by omega) rfl ?_); refine r_op (o_move rfl rfl ?_); refine r_guard rfl (o_fieldAddr rfl rfl ?_); refine r_guard rfl (o_load rfl rfl rfl rfl ?_); refine r_guard rfl (o_move rfl rfl ?_); refine r_guard rfl (o_lenS rfl rfl ?_); refine r_guard rfl (o_lss_t rfl rfl (by omega) rfl ?_); refine r_op (o_pick_t rfl rfl rfl ?_); refine r_nil ?_; refine x_true rfl ?_; refine x_region ?_; refine r_op (o_move rfl rfl ?_); refine r_op (o_fieldAddr rfl rfl ?_); refine r_op (o_load rfl rfl rfl rfl ?_))
            refine r_sl a2 fun _ hcap => ?_
            (refine r_op ?_)
            refine o_sliceHi rfl rfl (jh := cat) rfl (by omega) rfl ?_
            have R2 := (Sl.reads 1 a2 bs.length c2 (bs.map bv) (by simp)).firstN cat (by omega)
            have e1 : ((bs.map bv).take (cat * 1)) = (bs.take cat).map bv := by simp [List.map_take]
            rw [e1] at R2
            (refine r_op ?_)
            refine o_call rfl (clone_spec R2 (by omega)) rfl ?_
            rintro v C ⟨a3, c3, rfl, rfl⟩
            (simp only [List.cons_append, List.nil_append])
            (refine r_op (o_assign rfl rfl ?_); refine r_nil ?_; refine x_exit rfl ?_; refine x_region ?_; refine r_op (o_add rfl rfl (add_i64 (by omega)) rfl ?_); refine r_op (o_move rfl rfl ?_); refine r_nil ?_)
            have el : (bs.take cat).length = cat := by simp; omega
            rw [el] at hback
            refine x_weak (hback a3 c3) (by (repeat' (first | exact trivial | refine ⟨rfl, ?_⟩))) Sub.h
          · rw [if_neg (fun h => h3 h.2)] at e
            rw [e] at hback
            (refine r_op (o_eql_f rfl rfl (by omega) rfl ?_); refine r_op (o_assign rfl rfl ?_); refine r_nil ?_; refine x_false rfl ?_; refine x_seq (x_region ?_); refine r_op (o_fieldAddr rfl rfl ?_); refine r_op (o_load rfl rfl rfl rfl ?_); refine r_op (o_assign rfl rfl ?_); refine r_nil ?_; refine x_true rfl ?_; refine x_seq ?_; refine x_seq (x_region ?_); refine r_op (o_move rfl rfl ?_); refine r_op (o_eql_t rfl rfl (by omega) rfl ?_); refine r_op (o_move rfl rfl ?_); refine r_guard rfl (o_fieldAddr rfl rfl ?_); refine r_guard rfl (o_load rfl rfl rfl rfl ?_); refine r_guard rfl (o_move rfl rfl ?_); refine r_guard rfl (o_lenS rfl rfl ?_); refine r_guard rfl (o_lss_f rfl rfl (by omega) rfl ?_); refine r_op (o_pick_t rfl rfl rfl ?_); refine r_nil ?_; refine x_false rfl ?_; refine x_skip ?_; refine x_exit rfl ?_; refine x_region ?_; refine r_op (o_add rfl rfl (add_i64 (by omega)) rfl ?_); refine r_op (o_move rfl rfl ?_); refine r_nil ?_)
            refine x_weak (hback a2 c2) (by (repeat' (first | exact trivial | refine ⟨rfl, ?_⟩))) Sub.h
        · rw [if_neg (fun h => h2 h.1)] at e
          rw [e] at hback
          (refine r_op (o_eql_f rfl rfl (by omega) rfl ?_); refine r_op (o_assign rfl rfl ?_); refine r_nil ?_; refine x_false rfl ?_; refine x_seq (x_region ?_); refine r_op (o_fieldAddr rfl rfl ?_); refine r_op (o_load rfl rfl rfl rfl ?_); refine r_op (o_assign rfl rfl ?_); refine r_nil ?_; refine x_true rfl ?_; refine x_seq ?_; refine x_seq (x_region ?_); refine r_op (o_move rfl rfl ?_); refine r_op (o_eql_f rfl rfl (by omega) rfl ?_); refine r_op (o_move rfl rfl ?_); refine r_skip rfl rfl rfl ?_; refine r_skip rfl rfl rfl ?_; refine r_skip rfl rfl rfl ?_; refine r_skip rfl rfl rfl ?_; refine r_skip rfl rfl rfl ?_; refine r_op (o_pick_f rfl rfl rfl ?_); refine r_nil ?_; refine x_false rfl ?_; refine x_skip ?_; refine x_exit rfl ?_; refine x_region ?_; refine r_op (o_add rfl rfl (add_i64 (by omega)) rfl ?_); refine r_op (o_move rfl rfl ?_); refine r_nil ?_)
          refine x_weak (hback a2 c2) (by (repeat' (first | exact trivial | refine ⟨rfl, ?_⟩))) Sub.h
  · (refine r_nil ?_; refine x_seq ?_; refine x_false rfl ?_; refine x_exit rfl ?_; refine x_seq (x_region ?_); refine r_op (o_move rfl rfl ?_); refine r_op (o_assign rfl rfl ?_); refine r_nil ?_)
    have e : j = x.chg.length := by omega
    subst e
    simp [keep] at hk
    refine x_ret rfl [Row pa 0 [.int .i64 i'], Row pp 0 [.slice a ps.length cap], A, B, Sl 1 a2 bs.length c2 (bs.map bv)] ⟨i', a2, c2, bs, rfl, rfl, ?_, hi'⟩ Sub.h
    rw [← hk]
end Go.Proofs.Ythneebbmodkjiaa

namespace Go.Proofs.Ythneebbmodkjiaa
open Go.Proofs

section
variable {P : Program} {X : Cx} {n : Nat} {ds : List Deferred} {ρ : Rho} {Γ : List HP} {Nx : Value → List HP → Prop} {d : Nat} {ty : TypeId}
theorem o_partA {t m e s j : Nat} {x ix : Operand} {vs us : List Value} {kk : IntKind} {i : Int} [T : TyArray P t m e s] [A : TyAgg P e s] (hx : ev ρ x = some (.agg vs.toArray)) (hi : ev ρ ix = some (.int kk i)) (hj : i = (j : Int)) (hlt : j < m) (hu : (vs.drop (j * s)).take s = us)
    (hn : Nat.blt d n = true) (h : Nx (.agg us.toArray) Γ) : ExO P X n ds (some d) (.index t x ix) ty Nx ρ Γ :=
  o_value (by simp) hn fun ee o w hop hty he heL hs => ⟨_, w, Γ, by
    obtain ⟨hu', inf, hi', hsz⟩ := T.und
    subst hj hu
    simp [execOp, hop, he x _ hx, he ix _ hi, Instr.index, asIntOf, underlying_run hu', sizeOf_run hi', hsz, hlt, part, TyAgg.agg (s := s)], hs, h⟩
theorem o_partC {t m e s j : Nat} {x ix : Operand} {vs : List Value} {v : Value} {kk : IntKind} {i : Int} [T : TyArray P t m e s] [A : TyCell P e] (hx : ev ρ x = some (.agg vs.toArray)) (hi : ev ρ ix = some (.int kk i)) (hj : i = (j : Int)) (hlt : j < m) (hu : vs[j * s]? = some v)
    (hn : Nat.blt d n = true) (h : Nx v Γ) : ExO P X n ds (some d) (.index t x ix) ty Nx ρ Γ :=
  o_value (by simp) hn fun ee o w hop hty he heL hs => ⟨_, w, Γ, by
    obtain ⟨hu', inf, hi', hsz⟩ := T.und
    subst hj
    simp [execOp, hop, he x _ hx, he ix _ hi, Instr.index, asIntOf, underlying_run hu', sizeOf_run hi', hsz, hlt, part, TyCell.agg, hu], hs, h⟩
end

theorem Ent.row0 (b off : Nat) (Γ : List HP) : Ent Γ (Row b off [] :: Γ) := fun h s => ⟨h, ⟨PH.emp, h, by
  show PH.emp = row b off []
  funext k x
  cases x with
  | none => rfl
  | some i =>
    cases hr : row b off [] k (some i) with
    | none => rfl
    | some e => obtain ⟨_, _, v, hv, _⟩ := row_some hr; simp at hv, s, PH.emp_disj h, (PH.emp_join h).symm⟩, fun _ _ _ h => h⟩
theorem Ent.row_join (b off : Nat) (xs ys : List Value) (Γ : List HP) : Ent (Row b off xs :: Row b (off + xs.length) ys :: Γ) (Row b off (xs ++ ys) :: Γ) := by
  rintro h ⟨h1, _, rfl, ⟨h2, r, rfl, hr, d2, rfl⟩, d1, rfl⟩
  rw [PH.disj_join] at d1
  exact ⟨_, ⟨_, r, rfl, hr, by rw [row_append, PH.join_disj]; exact ⟨d1.2, d2⟩, rfl⟩, fun b' x e he => by rw [row_append, PH.join_assoc] at he; exact he⟩
theorem Ent.row_split (b off : Nat) (xs ys : List Value) (Γ : List HP) : Ent (Row b off (xs ++ ys) :: Γ) (Row b off xs :: Row b (off + xs.length) ys :: Γ) := by
  rintro h ⟨h1, r, rfl, hr, d, rfl⟩
  rw [row_append, PH.join_disj] at d
  exact ⟨_, ⟨_, _, rfl, ⟨_, r, rfl, hr, d.2, rfl⟩, PH.disj_join.2 ⟨row_disj b off xs ys _ (Nat.le_refl _), d.1⟩, rfl⟩, fun b' x e he => by rw [row_append, PH.join_assoc]; exact he⟩

abbrev PC (fs : List FX) : HP := Parts (fun _ x => FileC x) fs
theorem FX.cl (x : FX) : x.cells.length = 3 := rfl
theorem Ent.rows_out (b : Nat) : ∀ (fs : List FX) (k : Nat) (Γ : List HP), Ent (Sep (Arr (FileI b) k fs) :: Γ) (Row b (k * 3) (fs.flatMap FX.cells) :: Sep (Arr (fun _ x => FileC x) k fs) :: Γ) := by
  intro fs
  induction fs with
  | nil => intro k Γ; exact Ent.row0 b (k * 3) _
  | cons x fs ih =>
    intro k Γ
    refine (Ent.pop (FileI b) k x fs Γ).trans ((Ent.file_out b k x _).trans ?_)
    refine (Sub.h (Δ := Sep (Arr (FileI b) (k + 1) fs) :: Row b (k * 3) x.cells :: sp x.safe :: sp x.now :: Sl 3 x.ca x.chg.length x.cc (x.chg.flatMap CX.cells) :: Inn (x.chg.map CX.s) :: Γ)).trans ?_
    refine (ih (k + 1) _).trans ?_
    refine (Ent.perm (Δ := Row b (k * 3) x.cells :: Row b (k * 3 + x.cells.length) (fs.flatMap FX.cells) :: Sep (Arr (fun _ x => FileC x) (k + 1) fs) :: sp x.safe :: sp x.now :: Sl 3 x.ca x.chg.length x.cc (x.chg.flatMap CX.cells) :: Inn (x.chg.map CX.s) :: Γ) ?_).trans ?_
    · rw [FX.cl, show k * 3 + 3 = (k + 1) * 3 by omega]
      exact ((List.Perm.swap _ _ _).cons _).trans (.swap _ _ _)
    · refine (Ent.row_join b (k * 3) x.cells _ _).trans ?_
      rw [List.flatMap_cons]
      refine Ent.cons _ ?_
      refine (Sub.h (Δ := sp x.safe :: sp x.now :: Sl 3 x.ca x.chg.length x.cc (x.chg.flatMap CX.cells) :: Inn (x.chg.map CX.s) :: Sep (Arr (fun _ x => FileC x) (k + 1) fs) :: Γ)).trans ?_
      refine (Ent.sep_in [sp x.safe, sp x.now, Sl 3 x.ca x.chg.length x.cc (x.chg.flatMap CX.cells), Inn (x.chg.map CX.s)] _).trans ?_
      exact (Ent.cons _ (Ent.sep_out _ _)).trans (Ent.sep_in (FileC x :: Arr (fun _ x => FileC x) (k + 1) fs) Γ)
theorem Ent.rows_in (b : Nat) : ∀ (fs : List FX) (k : Nat) (Γ : List HP), Ent (Row b (k * 3) (fs.flatMap FX.cells) :: Sep (Arr (fun _ x => FileC x) k fs) :: Γ) (Sep (Arr (FileI b) k fs) :: Γ) := by
  intro fs
  induction fs with
  | nil => intro k Γ; exact Ent.drop _ _
  | cons x fs ih =>
    intro k Γ
    rw [List.flatMap_cons]
    refine (Ent.row_split b (k * 3) x.cells _ _).trans ?_
    rw [FX.cl, show k * 3 + 3 = (k + 1) * 3 by omega]
    refine (Sub.h (Δ := Sep (Arr (fun _ x => FileC x) k (x :: fs)) :: Row b ((k + 1) * 3) (fs.flatMap FX.cells) :: Row b (k * 3) x.cells :: Γ)).trans ?_
    refine (Ent.pop (fun _ x => FileC x) k x fs _).trans ?_
    refine (Ent.sep_out [sp x.safe, sp x.now, Sl 3 x.ca x.chg.length x.cc (x.chg.flatMap CX.cells), Inn (x.chg.map CX.s)] _).trans ?_
    (simp only [List.cons_append, List.nil_append])
    refine (Sub.h (Δ := Row b ((k + 1) * 3) (fs.flatMap FX.cells) :: Sep (Arr (fun _ x => FileC x) (k + 1) fs) :: Row b (k * 3) x.cells :: sp x.safe :: sp x.now :: Sl 3 x.ca x.chg.length x.cc (x.chg.flatMap CX.cells) :: Inn (x.chg.map CX.s) :: Γ)).trans ?_
    refine (ih (k + 1) _).trans ?_
    refine (Sub.h (Δ := Row b (k * 3) x.cells :: sp x.safe :: sp x.now :: Sl 3 x.ca x.chg.length x.cc (x.chg.flatMap CX.cells) :: Inn (x.chg.map CX.s) :: Sep (Arr (FileI b) (k + 1) fs) :: Γ)).trans ?_
    refine (Ent.file_in b k x _).trans ?_
    exact (Ent.cons _ (Ent.sep_out _ _)).trans (Ent.sep_in (FileI b k x :: Arr (FileI b) (k + 1) fs) Γ)

theorem St.inn_cap {E : Env} {w : World} : ∀ {q : List BS} {Γ : List HP}, St E (Inn q :: Γ) w → ∀ x ∈ q, x.2.2.length ≤ x.2.1 := by
  intro q
  induction q with
  | nil => intro Γ _ x hx; cases hx
  | cons y q ih =>
    intro Γ s x hx
    have s1 := (Ent.inn_pop y q Γ).st s
    rw [List.mem_cons] at hx
    rcases hx with rfl | hx
    · exact s1.sl_split.2.1
    · exact ih (s1.perm (.swap _ _ _)) x hx
theorem Ent.focusC (fs : List FX) (i : Nat) (h : i < fs.length) (Γ : List HP) : Ent (PC fs :: Γ) (FileC fs[i] :: Hole (fun _ x => FileC x) fs i :: Γ) := Ent.focus (fun _ x => FileC x) fs i h Γ
theorem Ent.unfocusC (fs : List FX) (i : Nat) (h : i < fs.length) (Γ : List HP) : Ent (FileC fs[i] :: Hole (fun _ x => FileC x) fs i :: Γ) (PC fs :: Γ) := Ent.unfocus' (fun _ x => FileC x) fs i h Γ
theorem St.pc_cap {E : Env} {w : World} {fs : List FX} {Γ : List HP} (s : St E (PC fs :: Γ) w) : ∀ x ∈ fs, ∀ c ∈ x.chg, c.s.2.2.length ≤ c.s.2.1 := by
  intro x hx c hc
  obtain ⟨i, hi, rfl⟩ := List.mem_iff_getElem.1 hx
  have s1 := (Ent.focusC fs i hi Γ).st s
  have s2 := (Ent.sep_out [sp fs[i].safe, sp fs[i].now, Sl 3 fs[i].ca fs[i].chg.length fs[i].cc (fs[i].chg.flatMap CX.cells), Inn (fs[i].chg.map CX.s)] _).st s1
  exact (St.inn_cap (s2.drop.drop.drop)) c.s (List.mem_map_of_mem hc)
def keepAll : List Fl → List Int → List (List UInt8)
  | [], _ => []
  | x :: fs, ps => (keep x.safe x.chg ps).1 :: keepAll fs (keep x.safe x.chg ps).2
def Dk.crash (d : Dk) : Dk := { d with off := true }
/-- Within bounds, for a crash. -/
def Dk.fit (d : Dk) : Prop := ∀ x ∈ d.fs, x.safe.length ≤ 2 ^ 39 ∧ (∀ c ∈ x.chg, c.at' + c.b.length ≤ 2 ^ 39) ∧ x.chg.length ≤ 2 ^ 40

theorem crash_spec {A : HP} {a : Option Addr} {cap : Nat} {ps : List Int} (b : Nat) (d : Dk) (R : Reads A 1 a ps.length (ps.map iv)) (hl : ps.length ≤ 2 ^ 63 - 1) (hps : ∀ p ∈ ps, p ≤ 9223372036854775807) (hd : d.fit) :
    Spec Try.prog 33 [dp b, .slice a ps.length cap] [DiskI b d, A] (fun v B => ∃ (a' : Option Addr) (cap' : Nat) (q : List BS), v = .slice a' q.length cap' ∧ cont q = keepAll d.fs ps ∧ B = [DiskI b d.crash, A, CellsX a' cap' q]) := by
  refine Spec.of_ex Try.func33 rfl Try.ntmps33 rfl fun E cs Γ => ?_
  (simp only [argRho, Nat.reduceAdd, List.cons_append, List.nil_append])
  refine x_open (fun E w s => s.disk) fun fs => ?_
  refine x_mem (Γ' := Row b 0 (fs.1.flatMap FX.cells) :: PC fs.1 :: Hid (Flags b d.off d.uo d.ub) :: A :: Γ) ((Ent.perm (.swap _ _ _)).trans ((Ent.rows_out b fs.1 0 _).trans (by rw [Nat.zero_mul]; exact .refl _))) ?_
  have h8 := fs.2.2.1
  have hc8 : (fs.1.flatMap FX.cells).length = 24 := by rw [flen FX.cl, h8]
  have hfit : ∀ x ∈ fs.1, x.safe.2.2.length ≤ 2 ^ 39 ∧ (∀ c ∈ x.chg, c.at' + c.s.2.2.length ≤ 2 ^ 39) ∧ x.chg.length ≤ 2 ^ 40 := by
    intro x hx
    have h1 : x.abs ∈ fabs fs.1 := List.mem_map_of_mem hx
    rw [fs.2.1] at h1
    obtain ⟨f1, f2, f3⟩ := hd _ h1
    refine ⟨f1, fun c hc => f2 c.abs (List.mem_map_of_mem hc), by simpa [FX.abs] using f3⟩
  refine x_fact (fun E w s => (s.perm (.swap _ _ _)).pc_cap) fun hcap => ?_
  (refine x_seq ?_); (refine x_region ?_)
  (refine r_op ?_)
  refine o_box rfl rfl rfl (fun pp => ?_)
  (refine r_op (o_assign rfl rfl ?_); refine r_nil ?_; refine x_seq (x_region ?_))
  (refine r_op ?_)
  refine o_alloc rfl (fun pa => ?_)
  (refine r_do ?_)
  ((refine o_store rfl rfl rfl rfl (by simp) ?_; try dsimp only [Nat.reduceSub, Nat.reduceAdd, List.set]))
  (refine r_nil ?_; refine x_seq (x_region ?_))
  (refine r_op ?_)
  refine o_makeFunc rfl rfl rfl ?_
  (refine r_op (o_assign rfl rfl ?_); refine r_nil ?_; refine x_seq (x_region ?_); refine r_op (o_assign rfl rfl ?_); refine r_nil ?_; refine x_seq ?_; refine x_seq (x_region ?_); refine r_op (o_move rfl rfl ?_); refine r_op (o_nilCheck rfl rfl ?_); refine r_op (o_fieldAddr rfl rfl ?_))
  (refine r_op ?_)
  refine o_loadA (us := fs.1.flatMap FX.cells) rfl rfl (by simp [List.take_of_length_le, hc8]) hc8 rfl ?_
  (refine r_op (o_move rfl rfl ?_); refine r_nil ?_; refine x_block ?_)
  have hfa := fs.2.1
  refine x_loop (α := Nat × Nat × Option Addr × Nat × List BS) (fun q => q.1 ≤ 8 ∧ q.2.1 ≤ ps.length ∧ cont q.2.2.2.2 ++ keepAll ((fs.1.drop q.1).map FX.abs) (ps.drop q.2.1) = keepAll d.fs ps ∧ q.2.2.2.2.length = q.1)
    (fun q => [(0, dp b), (6, .func (.func 99) #[] #[dp pa, dp pp]), (7, .slice q.2.2.1 q.2.2.2.2.length q.2.2.2.1), (14, .agg (fs.1.flatMap FX.cells).toArray), (15, .int .i64 q.1)])
    (fun q => Row pa 0 [.int .i64 q.2.1] :: Row pp 0 [.slice a ps.length cap] :: A :: Row b 0 (fs.1.flatMap FX.cells) :: PC fs.1 :: Hid (Flags b d.off d.uo d.ub) :: Sl 1 q.2.2.1 q.2.2.2.2.length q.2.2.2.1 (q.2.2.2.2.map sv) :: Inn q.2.2.2.2 :: Γ)
    (fun q => 8 - q.1) (0, 0, none, 0, []) ⟨Nat.zero_le _, Nat.zero_le _, by simp [cont, ← hfa, fabs], rfl⟩ ⟨rfl, rfl, rfl, rfl, rfl, trivial⟩ (((Ent.nilSl 1 _).trans (Ent.inn_nil _)).trans (Sub.h (Δ := Row pa 0 [.int .i64 0] :: Row pp 0 [.slice a ps.length cap] :: A :: Row b 0 (fs.1.flatMap FX.cells) :: PC fs.1 :: Hid (Flags b d.off d.uo d.ub) :: Sl 1 none 0 0 [] :: Inn [] :: Γ))) ?_
  rintro ⟨j, i, a2, c2, q⟩ ⟨hj, hi, hk, hq⟩ back
  dsimp only at hj hi hk hq back ⊢
  (refine x_seq (x_region ?_))
  (refine r_op ?_)
  refine o_lss rfl rfl rfl (fun h => ?_) (fun h => ?_)
  · have hj1 : j < fs.1.length := by omega
    obtain ⟨x, hx⟩ : ∃ x, fs.1[j] = x := ⟨_, rfl⟩
    have hxf := hfit x (hx ▸ List.getElem_mem hj1)
    (refine r_nil ?_; refine x_seq ?_; refine x_true rfl ?_; refine x_skip ?_; refine x_seq ?_; refine x_block ?_; refine x_seq (x_region ?_))
    (refine r_op ?_)
    refine o_partA (us := x.cells) rfl rfl (j := j) rfl (by omega) ?_ rfl ?_
    · rw [fdrop FX.cl, List.drop_eq_getElem_cons hj1, List.flatMap_cons, hx]; rfl
    (refine r_op ?_)
    refine o_alloc rfl (fun px => ?_)
    (refine r_do ?_)
    refine o_storeW (us := x.cells) rfl rfl rfl (by rfl) (by rfl) ?_
    (refine r_nil ?_; refine x_region ?_; refine r_op (o_move rfl rfl ?_))
    (refine r_op ?_)
    refine o_loadA (us := x.cells) rfl rfl (by rfl) (by rfl) rfl ?_
    (refine r_op (o_move rfl rfl ?_))
    refine r_mem (Γ' := FileC x :: Hole (fun _ x => FileC x) fs.1 j :: Row pa 0 [.int .i64 i] :: Row pp 0 [.slice a ps.length cap] :: A :: Row b 0 (fs.1.flatMap FX.cells) :: Hid (Flags b d.off d.uo d.ub) :: Sl 1 a2 q.length c2 (q.map sv) :: Inn q :: Γ) ?_ ?_
    · refine (Sub.h (Δ := PC fs.1 :: Row pa 0 [.int .i64 i] :: Row pp 0 [.slice a ps.length cap] :: A :: Row b 0 (fs.1.flatMap FX.cells) :: Hid (Flags b d.off d.uo d.ub) :: Sl 1 a2 q.length c2 (q.map sv) :: Inn q :: Γ)).trans ?_
      rw [← hx]; exact Ent.focusC fs.1 j hj1 _
    (refine r_op ?_)
    refine o_call rfl (kept_spec (cap := cap) x pa pp i (FileC.rd x) R hi hl hxf.1 (fun c hc => ⟨hxf.2.1 c hc, hcap x (hx ▸ List.getElem_mem hj1) c hc⟩) hxf.2.2 hps) rfl ?_
    rintro v C ⟨i', a3, c3, bs, rfl, rfl, hkp, hi'⟩
    (simp only [List.cons_append, List.nil_append])
    (refine r_op ?_)
    refine o_buildSlice rfl (by rfl) (by rfl) (by rfl) (by rfl) rfl (fun a4 => ?_)
    (refine r_op ?_)
    refine o_appendT rfl rfl (by rfl) (by rfl) (by rfl) (by omega) rfl (fun a5 c5 hc => ?_)
    (refine r_op (o_assign rfl rfl ?_); refine r_nil ?_; refine x_inBlock ?_; refine x_region ?_)
    (refine r_op ?_)
    refine o_add rfl rfl (add_i64 (by omega)) rfl ?_
    (refine r_op (o_move rfl rfl ?_); refine r_nil ?_)
    have e : q.map sv ++ [.slice a3 bs.length c3] = (q ++ [(a3, c3, bs)]).map sv := by simp [sv]
    have e2 : q.length + 1 = (q ++ [(a3, c3, bs)]).length := by simp
    rw [e, e2]
    refine x_mem (Γ' := Row pa 0 [.int .i64 i'] :: Row pp 0 [.slice a ps.length cap] :: A :: Row b 0 (fs.1.flatMap FX.cells) :: PC fs.1 :: Hid (Flags b d.off d.uo d.ub) :: Sl 1 a5 (q ++ [(a3, c3, bs)]).length c5 ((q ++ [(a3, c3, bs)]).map sv) :: Inn (q ++ [(a3, c3, bs)]) :: Γ) ?_ ?_
    · refine (Sub.h (Δ := FileC x :: Hole (fun _ x => FileC x) fs.1 j :: Sl 1 a3 bs.length c3 (bs.map bv) :: Inn q :: Row pa 0 [.int .i64 i'] :: Row pp 0 [.slice a ps.length cap] :: A :: Row b 0 (fs.1.flatMap FX.cells) :: Hid (Flags b d.off d.uo d.ub) :: Sl 1 a5 (q ++ [(a3, c3, bs)]).length c5 ((q ++ [(a3, c3, bs)]).map sv) :: Γ)).trans ?_
      have h1 := Ent.unfocusC fs.1 j hj1 (Sl 1 a3 bs.length c3 (bs.map bv) :: Inn q :: Row pa 0 [.int .i64 i'] :: Row pp 0 [.slice a ps.length cap] :: A :: Row b 0 (fs.1.flatMap FX.cells) :: Hid (Flags b d.off d.uo d.ub) :: Sl 1 a5 (q ++ [(a3, c3, bs)]).length c5 ((q ++ [(a3, c3, bs)]).map sv) :: Γ)
      rw [hx] at h1
      refine h1.trans ((Ent.cons _ (Ent.inn_snoc (a3, c3, bs) q _)).trans Sub.h)
    have hdj : (fs.1.drop j).map FX.abs = x.abs :: (fs.1.drop (j + 1)).map FX.abs := by rw [List.drop_eq_getElem_cons hj1, hx]; rfl
    rw [hdj] at hk
    have hkp1 : keep x.abs.safe x.abs.chg (ps.drop i) = (bs, ps.drop i') := hkp.symm
    refine x_weak (back (j + 1, i', a5, c5, q ++ [(a3, c3, bs)]) ⟨by dsimp only; omega, hi', by
      dsimp only
      rw [← hk]
      show _ = cont q ++ ((keep x.abs.safe x.abs.chg (ps.drop i)).1 :: keepAll _ (keep x.abs.safe x.abs.chg (ps.drop i)).2)
      rw [hkp1]; simp [cont], by simp [hq]⟩ (by dsimp only; omega)) (by (repeat' (first | exact trivial | refine ⟨rfl, ?_⟩))) Sub.h
  · have hj8 : j = 8 := by omega
    subst hj8
    have hdn : fs.1.drop 8 = [] := List.drop_eq_nil_of_le (by omega)
    rw [hdn] at hk
    simp only [List.map_nil, keepAll, List.append_nil] at hk
    (refine r_nil ?_; refine x_seq ?_; refine x_false rfl ?_; refine x_exit rfl ?_; refine x_seq (x_region ?_); refine r_op (o_move rfl rfl ?_); refine r_op (o_nilCheck rfl rfl ?_); refine r_op (o_fieldAddr rfl rfl ?_))
    refine r_mem (Γ' := Flags b d.off d.uo d.ub :: FilesX b fs.1 :: A :: Sl 1 a2 q.length c2 (q.map sv) :: Inn q :: Γ) ?_ ?_
    · refine (Sub.h (Δ := Row b 0 (fs.1.flatMap FX.cells) :: PC fs.1 :: Hid (Flags b d.off d.uo d.ub) :: A :: Sl 1 a2 q.length c2 (q.map sv) :: Inn q :: Γ)).trans ?_
      have := Ent.rows_in b fs.1 0 (Hid (Flags b d.off d.uo d.ub) :: A :: Sl 1 a2 q.length c2 (q.map sv) :: Inn q :: Γ)
      rw [Nat.zero_mul] at this
      exact this.trans (Ent.perm (.swap _ _ _))
    (refine r_do ?_)
    ((refine o_store rfl rfl rfl rfl (by simp) ?_; try dsimp only [Nat.reduceSub, Nat.reduceAdd, List.set]))
    (refine r_nil ?_; refine x_seq (x_region ?_); refine r_op (o_move rfl rfl ?_); refine r_op (o_assign rfl rfl ?_); refine r_nil ?_)
    refine x_ret rfl [DiskI b d.crash, A, CellsX a2 c2 q] ⟨a2, c2, q, rfl, hk, rfl⟩ ?_
    refine (Ent.diskF (b := b) (o := true) fs fs.2.2.2.1 fs.2.2.2.2 _).trans ?_
    refine (Sub.h (Δ := Sl 1 a2 q.length c2 (q.map sv) :: Inn q :: DiskI b ⟨d.fs, true, d.uo, d.ub⟩ :: A :: Γ)).trans ?_
    refine (Ent.cells_in a2 c2 q _).trans ?_
    exact (Sub.h (Δ := DiskI b ⟨d.fs, true, d.uo, d.ub⟩ :: A :: CellsX a2 c2 q :: Γ))
end Go.Proofs.Ythneebbmodkjiaa

namespace Go.Proofs.Ythneebbmodkjiaa
open Go.Proofs

theorem o_storeV {P : Program} {X : Cx} {n : Nat} {ds : List Deferred} {ρ : Rho} {Γ : List HP} {Nx : Value → List HP → Prop} {ty : TypeId} {t s : Nat} {x y : Operand} {b o off : Nat} {vs us : List Value} {K : HP → List HP} [T : TyAgg P t s] (hx : ev ρ x = some (.pointer (some ⟨b, o, none⟩))) (hy : ev ρ y = some (.agg us.toArray)) (hs' : us.length = s) (h1 : us.all Value.oneCell' = true)
    [H : UpdRow Γ b off vs K] (ho : o = off) (hl : us.length = vs.length) (h : Nx undef (K (Row b off us))) : ExO P X n ds none (.store t x y) ty Nx ρ Γ := by
  subst ho
  refine o_storeA (off := o) (vs := vs) (K := K) hx hy hs' h1 (by simp [Nat.ble_eq]) (by omega) ?_
  have e : vs.take (o - o) ++ us ++ vs.drop (o - o + us.length) = us := by
    rw [List.drop_eq_nil_of_le (by omega)]; simp
  rw [e]; exact h
def may (l : List (List UInt8)) : Bool := (l.length == 0 || l.length == 8) && l.all fun b => decide (b.length ≤ 131072)
def newFl (b : List UInt8) : Fl := ⟨b, [], b⟩
/-- A new disk whose first files are laid. -/
def newP (l : List (List UInt8)) (j : Nat) : Dk := ⟨(l.take j).map newFl ++ List.replicate (8 - j) (newFl []), false, 0, 0⟩
def newD (l : List (List UInt8)) : Dk := newP l l.length
def zx : FX := ⟨(none, 0, []), none, 0, [], (none, 0, [])⟩
theorem Ent.fileZ (Γ : List HP) : Ent Γ (FileC zx :: Γ) := by
  refine ((Ent.inn_nil Γ).trans ((Ent.nilSl 3 _).trans ((Ent.nilSl 1 _).trans (Ent.nilSl 1 _)))).trans ?_
  exact Ent.sep_in [sp zx.safe, sp zx.now, Sl 3 zx.ca zx.chg.length zx.cc (zx.chg.flatMap CX.cells), Inn (zx.chg.map CX.s)] Γ
theorem Ent.filesZ (Γ : List HP) : ∀ (n k : Nat), Ent Γ (Sep (Arr (fun _ x => FileC x) k (List.replicate n zx)) :: Γ) := by
  intro n
  induction n with
  | zero => intro k; exact Ent.sep_in [] Γ
  | succ n ih =>
    intro k
    refine (ih (k + 1)).trans ((Ent.cons _ (Ent.fileZ Γ)).trans ?_)
    refine (Ent.sep_out _ _).trans ?_
    refine Ent.trans (Ent.perm ?_) (Ent.sep_in (FileC zx :: Arr (fun _ x => FileC x) (k + 1) (List.replicate n zx)) Γ)
    exact List.perm_middle
theorem Ent.newZ (b : Nat) (Γ : List HP) (vs : List Value) (hv : vs = (List.replicate 8 zx).flatMap FX.cells ++ [.bool false, .int .i64 0, .int .i64 0]) (l : List (List UInt8)) : Ent (Row b 0 vs :: Γ) (DiskI b (newP l 0) :: Γ) := by
  subst hv
  refine (Ent.row_split b 0 _ _ Γ).trans ?_
  have hl : ((List.replicate 8 zx).flatMap FX.cells).length = 24 := rfl
  rw [hl]
  refine (Ent.cons _ (Ent.cons _ (Ent.filesZ Γ 8 0))).trans ?_
  refine (Sub.h (Δ := Row b (0 * 3) ((List.replicate 8 zx).flatMap FX.cells) :: Sep (Arr (fun _ x => FileC x) 0 (List.replicate 8 zx)) :: Row b (0 + 24) [.bool false, .int .i64 0, .int .i64 0] :: Γ)).trans ?_
  refine (Ent.rows_in b (List.replicate 8 zx) 0 _).trans ((Ent.perm (.swap _ _ _)).trans ?_)
  exact Ent.disk' (d := newP l 0) (List.replicate 8 zx) ⟨rfl, rfl, Nat.zero_le _, Nat.zero_le _⟩ Γ

theorem new_spec {A : HP} {a : Option Addr} {cap : Nat} {q : List BS} (R : RdC A a q) (hc : q.length ≤ 2 ^ 63 - 1) :
    Spec Try.prog 29 [.slice a q.length cap] [A] (fun v B => (may (cont q) = true ∧ ∃ b, v = .tuple #[dp b, .int .i64 0] ∧ B = [A, DiskI b (newD (cont q))]) ∨ (may (cont q) = false ∧ v = .tuple #[.pointer none, .int .i64 1] ∧ B = [A])) := by
  refine Spec.of_ex Try.func29 rfl Try.ntmps29 rfl fun E cs Γ => ?_
  (simp only [argRho, List.cons_append, List.nil_append])
  have hml : may (cont q) = true ↔ (q.length = 0 ∨ q.length = 8) ∧ tooLong q = false := by
    unfold may tooLong cont
    simp
  (refine x_seq ?_); (refine x_region ?_)
  (refine r_op ?_); (refine o_assign rfl rfl ?_)
  (refine r_op ?_); (refine o_assign rfl rfl ?_)
  (refine r_nil ?_)
  refine x_cut (α := Unit) (fun _ => (q.length = 0 ∨ q.length = 8) ∧ tooLong q = false) (fun _ => [(0, .slice a q.length cap)]) (fun _ => A :: Γ) ?_ ?_
  · rintro - ⟨hq8, htl⟩
    have hmt := hml.2 ⟨hq8, htl⟩
    have hlen : ∀ x ∈ q, x.2.2.length ≤ 131072 := fun x hx => by
      unfold tooLong at htl
      have := List.any_eq_false.1 htl x hx
      simpa using this
    have hcl : (cont q).length = q.length := by simp [cont]
    (refine x_seq (x_region ?_))
    (refine r_op ?_)
    refine o_build rfl rfl rfl ?_
    (refine r_op ?_)
    refine o_boxA rfl rfl (fun b => ?_)
    refine r_mem (Ent.newZ b _ _ rfl (cont q)) ?_
    (refine r_op (o_assign rfl rfl ?_); refine r_nil ?_; refine x_seq ?_; refine x_seq (x_region ?_); refine r_op (o_move rfl rfl ?_); refine r_op (o_lenS rfl rfl ?_); refine r_op (o_move rfl rfl ?_); refine r_nil ?_; refine x_block ?_)
    refine x_loop (α := Nat) (fun j => j ≤ q.length) (fun j => [(4, dp b), (21, .slice a q.length cap), (22, .int .i64 q.length), (23, .int .i64 j)]) (fun j => DiskI b (newP (cont q) j) :: A :: Γ)
      (fun j => q.length - j) 0 (Nat.zero_le _) ⟨rfl, rfl, rfl, rfl, trivial⟩ (.refl _) ?_
    intro j hj back
    (refine x_seq (x_region ?_))
    (refine r_op ?_)
    refine o_lss rfl rfl rfl (fun h => ?_) (fun h => ?_)
    · have hj1 : j < q.length := by omega
      have hj8 : j < 8 := by omega
      (refine r_nil ?_; refine x_seq ?_; refine x_true rfl ?_; refine x_skip ?_; refine x_seq ?_; refine x_block ?_; refine x_seq (x_region ?_); refine r_op (o_move rfl rfl ?_))
      (refine r_op ?_)
      refine o_indexR rfl rfl R.1 (j := j) rfl hj1 rfl (fun b1 off ha => ?_)
      (refine r_op ?_)
      refine o_loadR rfl R.1 ha (i := j) (by omega) (mget sv hj1) rfl ?_
      (refine r_op (o_assign rfl rfl ?_); refine r_op (o_assign rfl rfl ?_); refine r_nil ?_)
      refine x_open (fun E w s => s.disk) fun fs => ?_
      refine x_mem (Ent.open fs hj8 _ (A :: Γ)) ?_
      have hclose := fun y Θ => Ent.close (b := b) (o := (newP (cont q) j).off) (u := (newP (cont q) j).uo) (v := (newP (cont q) j).ub) fs hj8 y (Nat.zero_le _) (Nat.zero_le _) Θ
      refine x_script 10 [(0,false),(1,false),(2,false),(4,false),(7,false),(8,false),(9,false),(3,true),(5,true),(6,false),(10,true)] [] mixed (by kernel_rfl) perm0 ?_
      (refine s_v rfl (v_move rfl) ?_)
      (refine s_v rfl (v_move rfl) ?_)
      (refine s_v rfl (v_move rfl) ?_)
      (refine s_v rfl (v_move rfl) ?_)
      (refine s_v rfl (v_nilCheck rfl) ?_)
      (refine s_v rfl (v_fieldAddr rfl) ?_)
      refine s_v rfl (v_indexA rfl rfl (j := j) rfl hj8) ?_
      have hx8 : q[j].2.2.length ≤ 2 ^ 45 := by have := hlen _ (List.getElem_mem hj1); omega
      refine s_x rfl (o_call rfl (clone_spec (R.get hj1) hx8) rfl ?_)
      rintro v B ⟨a1, c1, rfl, rfl⟩
      refine ⟨perm0, ?_⟩
      (simp only [List.cons_append, List.nil_append])
      refine s_x rfl (o_call rfl (clone_spec (R.get hj1) hx8) rfl ?_)
      rintro v B ⟨a2, c2, rfl, rfl⟩
      refine ⟨perm0, ?_⟩
      (simp only [List.cons_append, List.nil_append])
      refine s_v rfl (v_build rfl rfl) ?_
      refine s_xt rfl rfl ?_
      refine o_storeV rfl rfl (by rfl) (by rfl) (by omega) (by rfl) ?_
      refine s_end rfl ?_
      (refine x_inBlock ?_; refine x_region ?_)
      (refine r_op ?_)
      refine o_add rfl rfl (add_i64 (by omega)) rfl ?_
      (refine r_op (o_move rfl rfl ?_); refine r_nil ?_)
      refine x_mem (Γ' := DiskI b (newP (cont q) (j + 1)) :: A :: Γ) ?_ ?_
      · refine ((Ent.nilSl 3 _).trans (Ent.inn_nil _)).trans ?_
        refine Ent.trans ?_ ((hclose ⟨(a1, c1, q[j].2.2), none, 0, [], (a2, c2, q[j].2.2)⟩ (A :: Γ)).trans ?_)
        · exact (Sub.h (Δ := Row b (j * 3) [.slice a1 q[j].2.2.length c1, .slice none 0 0, .slice a2 q[j].2.2.length c2] :: Sl 1 a1 q[j].2.2.length c1 (q[j].2.2.map bv) :: Sl 1 a2 q[j].2.2.length c2 (q[j].2.2.map bv) :: Sl 3 none 0 0 [] :: Inn [] :: Hole (FileI b) fs.1 j :: Hid (Flags b (newP (cont q) j).off (newP (cont q) j).uo (newP (cont q) j).ub) :: A :: Γ))
        · have e : (⟨(newP (cont q) j).fs.set j (newFl q[j].2.2), false, 0, 0⟩ : Dk) = newP (cont q) (j + 1) := by
            unfold newP
            congr 1
            have hj2 : j < (cont q).length := by rw [hcl]; exact hj1
            have hg : (cont q)[j] = q[j].2.2 := by simp [cont]
            have h9 : ((cont q).take j).length = j := by simp; omega
            rw [List.take_succ_eq_append_getElem hj2, hg, show 8 - j = 8 - (j + 1) + 1 by omega, List.replicate_succ]
            rw [List.set_append_right _ _ (by simp; omega), List.length_map, h9, Nat.sub_self]
            simp
          rw [← e]
          exact .refl _
      refine x_weak (back (j + 1) (by omega) (by omega)) (by (repeat' (first | exact trivial | refine ⟨rfl, ?_⟩))) Sub.h
    · (refine r_nil ?_; refine x_seq ?_; refine x_false rfl ?_; refine x_exit rfl ?_; refine x_seq (x_region ?_); refine r_op (o_move rfl rfl ?_); refine r_op (o_assign rfl rfl ?_); refine r_op (o_assign rfl rfl ?_); refine r_nil ?_)
      have e : j = q.length := by omega
      subst e
      refine x_ret rfl [A, DiskI b (newD (cont q))] (.inl ⟨hmt, b, rfl, rfl⟩) ?_
      unfold newD
      rw [hcl]
      exact Sub.h
  · intro td back
    by_cases h1 : 0 < q.length ∧ q.length ≠ 8
    · obtain ⟨h1, h2⟩ := h1
      (refine x_seq (x_region ?_); refine r_op (o_move rfl rfl ?_); refine r_op (o_lenS rfl rfl ?_); refine r_op (o_gtr_t rfl rfl (by omega) rfl ?_); refine r_op (o_move rfl rfl ?_); refine r_guard rfl (o_move rfl rfl ?_); refine r_guard rfl (o_lenS rfl rfl ?_); refine r_guard rfl (o_neq_t rfl rfl (by omega) rfl ?_); refine r_op (o_pick_t rfl rfl rfl ?_); refine r_op (o_move rfl rfl ?_); refine r_skip rfl rfl rfl ?_; refine r_skip rfl rfl rfl ?_; refine r_op (o_pick_t rfl rfl rfl ?_); refine r_nil ?_; refine x_true rfl ?_; refine x_seq (x_region ?_); refine r_op (o_assign rfl rfl ?_); refine r_op (o_assign rfl rfl ?_); refine r_nil ?_)
      refine x_ret rfl [A] (.inr ⟨?_, rfl, rfl⟩) Sub.h
      cases hm : may (cont q) with
      | false => rfl
      | true => have := hml.1 hm; omega
    · have key : q.length = 0 ∨ q.length = 8 := by omega
      rcases key with h0 | h0
      all_goals
        (repeat (first | (first | refine x_seq ?_ | refine x_region ?_ | refine r_nil ?_ | refine x_block ?_ | refine x_skip ?_ | refine x_inBlock ?_ | refine x_true rfl ?_ | refine x_false rfl ?_ | refine x_exit rfl ?_ | refine x_scope ?_ | refine x_inScope ?_ | refine x_label ?_ | refine r_skip rfl rfl rfl ?_ | refine r_skip' rfl rfl ?_) | ((first | refine r_op ?_ | refine r_do ?_ | refine r_guard rfl ?_); first | (first | refine o_move rfl rfl ?_ | refine o_assign rfl rfl ?_ | refine o_load rfl rfl rfl rfl ?_ | refine o_fieldAddr rfl rfl ?_ | refine o_nilCheck rfl rfl ?_ | refine o_lenS rfl rfl ?_ | refine o_lenStr rfl rfl ?_ | refine o_pick_t rfl rfl rfl ?_ | refine o_pick_f rfl rfl rfl ?_ | refine o_not rfl rfl ?_ | refine o_extract rfl rfl rfl ?_ | refine o_field rfl rfl rfl ?_) | (first | refine o_lss_t rfl rfl (by omega) rfl ?_ | refine o_lss_f rfl rfl (by omega) rfl ?_ | refine o_leq_t rfl rfl (by omega) rfl ?_ | refine o_leq_f rfl rfl (by omega) rfl ?_ | refine o_gtr_t rfl rfl (by omega) rfl ?_ | refine o_gtr_f rfl rfl (by omega) rfl ?_ | refine o_geq_t rfl rfl (by omega) rfl ?_ | refine o_geq_f rfl rfl (by omega) rfl ?_ | refine o_eql_t rfl rfl (by omega) rfl ?_ | refine o_eql_f rfl rfl (by omega) rfl ?_ | refine o_neq_t rfl rfl (by omega) rfl ?_ | refine o_neq_f rfl rfl (by omega) rfl ?_) | (first | refine o_add rfl rfl (add_i64 (by omega)) rfl ?_ | refine o_sub rfl rfl (sub_i64 (by omega)) rfl ?_ | refine o_max rfl rfl rfl ?_ | refine o_min rfl rfl rfl ?_) | (refine o_store rfl rfl rfl rfl (by simp) ?_; try dsimp only [Nat.reduceSub, Nat.reduceAdd, List.set]) | (first | refine o_loadI (i := 0) rfl (by omega) rfl rfl ?_ | refine o_loadI (i := 1) rfl (by omega) rfl rfl ?_ | refine o_loadI (i := 2) rfl (by omega) rfl rfl ?_) | ((first | refine o_storeI (i := 0) rfl rfl rfl (by omega) rfl ?_ | refine o_storeI (i := 1) rfl rfl rfl (by omega) rfl ?_ | refine o_storeI (i := 2) rfl rfl rfl (by omega) rfl ?_); try dsimp only [List.set]))))
        (refine r_guard rfl ?_)
        refine o_call rfl (contains_spec R hc) rfl ?_
        rintro v B ⟨rfl, rfl⟩
        (simp only [List.cons_append, List.nil_append])
        cases ht : tooLong q
        · (refine r_op (o_pick_f rfl rfl rfl ?_); refine r_nil ?_; refine x_false rfl ?_; refine x_skip ?_)
          refine x_weak (back () ⟨by omega, ht⟩) (by (repeat' (first | exact trivial | refine ⟨rfl, ?_⟩))) Sub.h
        · (refine r_op (o_pick_f rfl rfl rfl ?_); refine r_nil ?_; refine x_true rfl ?_; refine x_seq (x_region ?_); refine r_op (o_assign rfl rfl ?_); refine r_op (o_assign rfl rfl ?_); refine r_nil ?_)
          refine x_ret rfl [A] (.inr ⟨?_, rfl, rfl⟩) Sub.h
          cases hm : may (cont q) with
          | false => rfl
          | true => have := (hml.1 hm).2; rw [ht] at this; cases this
end Go.Proofs.Ythneebbmodkjiaa

namespace Go.Proofs.Ythneebbmodkjiaa
open Go.Proofs

section
variable {P : Program} {X : Cx} {n : Nat} {ds : List Deferred} {ρ : Rho} {Γ : List HP} {Nx : Value → List HP → Prop} {d : Nat} {ty : TypeId}
/-- A block of one's own, cell by cell. -/
theorem St.whole_row {E : Env} {Γ : List HP} {w : World} {b lo hi : Nat} {vs : List Value} {T : TypeId} (s : St E (Whole b (.cells vs.toArray T (lo, hi)) :: Γ) w) (hf : ∀ i, i < vs.length → ¬ (lo ≤ i ∧ i < hi)) : St E (Row b 0 vs :: Γ) w := by
  have hb := s.whole_get
  obtain ⟨e, _, ⟨a, r, rfl, hr, d, rfl⟩, H⟩ := s
  have hrb : ∀ y, r b y = none := fun y => by
    apply Classical.byContradiction; intro hn
    exact (d b none y (by simp) hn).2.1 rfl
  refine ⟨e, _, ⟨_, r, rfl, hr, ?_, rfl⟩, ?_⟩
  · intro k x y hx hy
    cases x with
    | none => exact absurd rfl hx
    | some i =>
      obtain ⟨f, hf'⟩ := Option.ne_none_iff_exists'.1 hx
      obtain ⟨rfl, _⟩ := row_some hf'
      exact absurd (hrb y) hy
  · intro k x f hf'
    unfold PH.join at hf'
    cases hrow : row b 0 vs k x with
    | none => rw [hrow] at hf'; exact H.right d k x f (by simpa using hf')
    | some f' =>
      rw [hrow] at hf'
      obtain rfl : f' = f := by simpa using hf'
      cases x with
      | none => cases hrow
      | some i =>
        obtain ⟨rfl, _, v, hv, rfl⟩ := row_some hrow
        rw [Nat.sub_zero] at hv
        have hi := (List.getElem?_eq_some_iff.1 hv).1
        refine ⟨?_, ?_⟩
        · simp only [World.cell?]; rw [hb]; simpa using hv
        · simp only [World.frozen?]; rw [hb]; have := hf i hi; simp; omega

theorem o_buildSliceW {t e s y m : Nat} {parts : List (Nat × Operand)} {vs : List (Nat × Value)} {zv cs : List Value} [T : TySlice P t e s y] [Z : TyZero P e zv] (hx : evP ρ parts = some vs) (hzl : zv.length = s) (hm : Nat.ble (m * s) 16777216 = true)
    (hf : fillL (fun i => some (i * s, s)) (zs zv m) vs = some cs) (hn : Nat.blt d n = true)
    (h : ∀ b, Nx (.slice (some ⟨b, 0, none⟩) m m) (Whole b (.cells cs.toArray e (0, 0)) :: Γ)) : ExO P X n ds (some d) (.buildSlice t m parts.toArray) ty Nx ρ Γ :=
  o_value (by simp) hn fun ee o w hop hty he heL hs => by
    obtain ⟨i, z, hi, hz, hzz⟩ := Z.h
    obtain ⟨hu, inf, hinf, hsz, hby⟩ := T.und
    rw [hi] at hinf; cases hinf
    have h2 := fillL_eq hf
    have h3 : (List.map (fun x : Nat × Operand => (x.1, ee x.2)) parts) = vs := evP_eq he hx
    have hle := Nat.le_of_ble_eq_true hm
    have s1 := hs.alloc_whole (.cells cs.toArray e (0, 0))
    have hzs : z.cells.size = s := by rw [← hzl, ← hzz]; simp
    refine ⟨.slice (some ⟨w.heap.size, 0, none⟩) m m, _, Whole w.heap.size (.cells cs.toArray e (0, 0)) :: Γ, ?_, s1, h _⟩
    have hzc : ((Array.range (m * s)).map (z.cells[· % z.cells.size]!)).toList = zs zv m := by
      have := zeroCells_toList z.cells m
      rw [hzz] at this
      rw [← this]
      simp [Builtin.zeroCells, hzs]
    have h4 : (Array.range (m * s)).map (z.cells[· % z.cells.size]!) = (zs zv m).toArray := by rw [← hzc]
    by_cases h0 : m * s = 0
    · have e0 : zs zv m = [] := by
        apply List.length_eq_zero_iff.1; rw [zs_length, hzl]; exact h0
      rw [e0] at h2
      simp [execOp, hop, Instr.buildSlice, underlying_run hu, sizeOf_run hi, hsz, h0, h3]
      rw [map_range0, h2]
      simp [newRow]
    · have h5 : ¬ (16777216 < m * s) := by omega
      simp [execOp, hop, Instr.buildSlice, underlying_run hu, sizeOf_run hi, hsz, h0, h3, h5, zeroValue, typeInfo_run hi, hz]
      rw [h4, h2]
      simp [newRow]
/-- A literal of bytes that has just been made. -/
theorem o_convW {src e y b len : Nat} {x : Operand} {vs : List Value} {Δ : List HP} [T : TySlice P src e 1 y] [U : TyU8 P e] (hx : ev ρ x = some (.slice (some ⟨b, 0, none⟩) len len)) [K : Take Γ (Whole b (.cells vs.toArray e (0, 0))) Δ] (hl : vs.length = len) (hn : Nat.blt d n = true)
    (h : Nx (.slice (some ⟨b, 0, none⟩) len len) (Sl 1 (some ⟨b, 0, none⟩) len len vs :: Δ)) : ExO P X n ds (some d) (.convert src src x) ty Nx ρ Γ :=
  o_value (by simp) hn fun ee o w hop hty he heL hs => by
    have s0 := hs.perm K.h
    have hb := s0.whole_get
    have s1 := s0.whole_set (.cells vs.toArray e (len, len + 1)) (w.freeze ⟨b, len, none⟩ 1) (by
      simp only [World.freeze, if_neg (Nat.one_ne_zero)]
      congr 1
      apply Array.ext_getElem?
      intro k
      rw [Array.getElem?_modify, Array.getElem?_setIfInBounds]
      by_cases hk : b = k
      · subst hk
        have hlt := (Array.getElem?_eq_some_iff.1 hb).1
        rw [if_pos rfl, if_pos rfl, hb, if_pos hlt]
        rfl
      · rw [if_neg hk, if_neg hk])
    have s2 := s1.whole_row (fun i hi => by omega)
    refine ⟨_, w.freeze ⟨b, len, none⟩ 1, _, ?_, St.sl_join (junk := []) (by simpa using hl) (by simpa using hl) (Nat.le_refl _) (by simpa using s2), h⟩
    have hsh : w.shape? b = some (e, len) := by
      simp only [World.shape?, hb]; simp [hl]
    simp [execOp, hop, he x _ hx, convert, underlying_run T.und.1, underlying_run U.h, markStringish, hsh]
end

/-- Within bounds: n calls, at most, have changed it since it was new. -/
def Fl.okn (n : Nat) (x : Fl) : Prop := x.now.length ≤ 131072 ∧ x.safe.length ≤ 131072 ∧ (∀ c ∈ x.chg, c.at' + c.b.length ≤ 131072) ∧ x.chg.length ≤ n * 131073
def Dk.okn (n : Nat) (d : Dk) : Prop := d.fs.length = 8 ∧ ∀ x ∈ d.fs, x.okn n
theorem Fl.okn.mono {n m : Nat} {x : Fl} (h : x.okn n) (hm : n ≤ m) : x.okn m := ⟨h.1, h.2.1, h.2.2.1, Nat.le_trans h.2.2.2 (Nat.mul_le_mul_right _ hm)⟩
theorem Dk.okn.mono {n m : Nat} {d : Dk} (h : d.okn n) (hm : n ≤ m) : d.okn m := ⟨h.1, fun x hx => (h.2 x hx).mono hm⟩
theorem Dk.okn.small {n : Nat} {d : Dk} (h : d.okn n) (hn : n ≤ 2 ^ 20) : d.small := fun x hx => by
  obtain ⟨a, b, _, c⟩ := h.2 x hx
  have := Nat.mul_le_mul_right 131073 hn
  exact ⟨by omega, by omega, by omega⟩
theorem Dk.okn.fit {n : Nat} {d : Dk} (h : d.okn n) (hn : n ≤ 2 ^ 20) : d.fit := fun x hx => by
  obtain ⟨a, b, c, e⟩ := h.2 x hx
  have := Nat.mul_le_mul_right 131073 hn
  exact ⟨by omega, fun y hy => by have := c y hy; omega, by omega⟩
theorem Dk.okn.fs {n : Nat} {d : Dk} (h : d.okn n) (d' : Dk) (e : d'.fs = d.fs) : d'.okn n := ⟨by rw [e]; exact h.1, by rw [e]; exact h.2⟩
theorem Dk.okn.set {n : Nat} {d : Dk} (h : d.okn n) (d' : Dk) (i : Nat) (y : Fl) (hy : y.okn n) (e : d'.fs = d.fs.set i y) : d'.okn n := by
  refine ⟨by rw [e]; simpa using h.1, fun x hx => ?_⟩
  rw [e] at hx
  rcases List.mem_or_eq_of_mem_set hx with hx | rfl
  · exact h.2 x hx
  · exact hy
theorem Dk.okn.file {n : Nat} {d : Dk} (h : d.okn n) (f : Int) : (d.file f).okn n := by
  unfold Dk.file
  rw [List.getD_eq_getElem?_getD]
  cases hf : d.fs[f.toNat]? with
  | none => exact ⟨Nat.zero_le _, Nat.zero_le _, fun c hc => (by cases hc), Nat.zero_le _⟩
  | some x => exact h.2 x (List.mem_of_getElem? hf)
theorem step_fs (d : Dk) : d.step.fs = d.fs := (step_flags d).2.2.2
theorem okn_new (l : List (List UInt8)) (h : may l = true) : (newD l).okn 0 := by
  unfold may at h
  simp only [Bool.and_eq_true, Bool.or_eq_true, beq_iff_eq, List.all_eq_true, decide_eq_true_eq] at h
  obtain ⟨h1, h2⟩ := h
  refine ⟨by simp [newD, newP]; omega, fun x hx => ?_⟩
  simp only [newD, newP, List.take_length, List.mem_append, List.mem_map, List.mem_replicate] at hx
  rcases hx with ⟨b, hb, rfl⟩ | ⟨_, rfl⟩
  · exact ⟨h2 b hb, h2 b hb, fun c hc => (by cases hc), Nat.zero_le _⟩
  · exact ⟨Nat.zero_le _, Nat.zero_le _, fun c hc => (by cases hc), Nat.zero_le _⟩
theorem okn_write {n : Nat} {d : Dk} (h : d.okn n) (f p : Int) (b : List UInt8) : (d.write f p b).1.okn (n + 1) := by
  have h' := h.mono (Nat.le_add_right n 1)
  unfold Dk.write
  split
  · exact h'.fs _ (step_fs d)
  · split
    · exact h'.fs _ (step_fs d)
    · split
      · exact h'.fs _ (step_fs d)
      · rename_i h1 h2 h3
        refine h'.set _ f.toNat ((d.file f).write p.toNat b) ?_ rfl
        obtain ⟨a1, a2, a3, a4⟩ := h.file f
        refine ⟨?_, a2, ?_, ?_⟩
        · show (over (d.file f).now p.toNat b).length ≤ _
          rw [over_length]; omega
        · intro c hc
          rcases List.mem_append.1 hc with hc | hc
          · exact a3 c hc
          · obtain ⟨y, hy, rfl⟩ := List.mem_map.1 hc
            have := chunks_le _ _ _ y hy
            dsimp only; omega
        · show ((d.file f).chg ++ newChg p.toNat b).length ≤ _
          have := chunks_length b.length p.toNat b
          rw [List.length_append, newChg, List.length_map]
          rw [Nat.add_mul]; omega
theorem okn_cut {n : Nat} {d : Dk} (h : d.okn n) (f p : Int) : (d.cut f p).1.okn (n + 1) := by
  have h' := h.mono (Nat.le_add_right n 1)
  unfold Dk.cut
  split
  · exact h'.fs _ (step_fs d)
  · split
    · exact h'.fs _ (step_fs d)
    · rename_i h1 h2
      refine h'.set _ f.toNat ((d.file f).cut p.toNat) ?_ rfl
      obtain ⟨a1, a2, a3, a4⟩ := h.file f
      refine ⟨?_, a2, ?_, ?_⟩
      · show ((d.file f).now.take p.toNat).length ≤ _
        simp; omega
      · intro c hc
        rcases List.mem_append.1 hc with hc | hc
        · exact a3 c hc
        · rw [List.mem_singleton] at hc
          subst hc
          simp; omega
      · show ((d.file f).chg ++ [_]).length ≤ _
        rw [List.length_append, List.length_singleton, Nat.add_mul]; omega
theorem okn_sync {n : Nat} {d : Dk} (h : d.okn n) (f : Int) : (d.sync f).1.okn (n + 1) := by
  have h' := h.mono (Nat.le_add_right n 1)
  unfold Dk.sync
  split
  · exact h'.fs _ (step_fs d)
  · refine h'.set _ f.toNat (d.file f).sync ?_ rfl
    obtain ⟨a1, a2, a3, a4⟩ := h.file f
    exact ⟨a1, a1, fun c hc => (by cases hc), Nat.zero_le _⟩

theorem Reads.none0 (s : Nat) : Reads Emp s none 0 [] := ⟨by simp, fun _ _ _ _ => .inl rfl⟩
theorem RdC.none0 : RdC Emp none [] := ⟨Reads.none0 1, fun x hx => by cases hx⟩
theorem new0_spec : Spec Try.prog 29 [.slice none 0 0] [] (fun v B => ∃ b, v = .tuple #[dp b, .int .i64 0] ∧ B = [Emp, DiskI b (newD [])]) := by
  have := (new_spec (A := Emp) (a := none) (cap := 0) (q := []) RdC.none0 (by decide)).pre (A' := []) (Emp.intro [])
  refine this.mono ?_
  rintro v B (⟨_, b, rfl, rfl⟩ | ⟨h, _⟩)
  · exact ⟨b, rfl, rfl⟩
  · cases h
theorem crash0_spec (b : Nat) (d : Dk) (hd : d.fit) : Spec Try.prog 33 [dp b, .slice none 0 0] [DiskI b d] (fun v B => ∃ (a' : Option Addr) (cap' : Nat) (q : List BS), v = .slice a' q.length cap' ∧ cont q = keepAll d.fs [] ∧ B = [DiskI b d.crash, Emp, CellsX a' cap' q]) :=
  (crash_spec (A := Emp) (a := none) (cap := 0) (ps := []) b d (Reads.none0 1) (by decide) (fun _ h => by cases h) hd).pre ((Emp.intro _).trans (Ent.perm (.swap _ _ _)))

theorem wakes_spec : Spec Try.prog 34 [] [] (fun v B => v = .bool true ∧ B = []) := by
  have hok : (newD []).okn 0 := okn_new [] rfl
  refine Spec.of_ex Try.func34 rfl Try.ntmps34 rfl fun E cs Γ => ?_
  (simp only [argRho, List.nil_append])
  (refine x_seq (x_region ?_); refine r_op (o_assign rfl rfl ?_); refine r_nil ?_; refine x_seq (x_region ?_))
  (refine r_op ?_)
  refine o_call rfl new0_spec rfl ?_
  rintro v B ⟨b, rfl, rfl⟩
  (simp only [List.cons_append, List.nil_append])
  (refine r_op (o_move rfl rfl ?_); refine r_op (o_extract rfl rfl rfl ?_); refine r_op (o_extract rfl rfl rfl ?_); refine r_op (o_assign rfl rfl ?_); refine r_op (o_assign rfl rfl ?_); refine r_nil ?_; refine x_seq ?_; refine x_seq (x_region ?_); refine r_op (o_move rfl rfl ?_))
  (refine r_op ?_)
  refine o_call rfl (num9_spec 0) rfl ?_
  rintro v B ⟨rfl, rfl⟩
  (simp only [List.nil_append])
  (refine r_op ?_)
  (refine o_neq_f rfl rfl (by omega) rfl ?_)
  (refine r_op (o_move rfl rfl ?_); refine r_guard rfl (o_move rfl rfl ?_))
  (refine r_guard rfl ?_)
  refine o_peq (.inl rfl) rfl rfl (.inr rfl) rfl ?_
  (refine r_op (o_pick_f rfl rfl rfl ?_); refine r_nil ?_; refine x_false rfl ?_; refine x_skip ?_; refine x_seq (x_region ?_); refine r_op (o_move rfl rfl ?_))
  (refine r_op ?_)
  refine o_buildSliceW rfl (by rfl) (by rfl) (by rfl) rfl (fun bl => ?_)
  (refine r_op ?_)
  refine o_convW (vs := [.int .u8 97, .int .u8 98]) rfl (by rfl) rfl ?_
  have R : Reads (Sl 1 (some ⟨bl, 0, none⟩) 2 2 [.int .u8 97, .int .u8 98]) 1 (some ⟨bl, 0, none⟩) ([97, 98] : List UInt8).length (([97, 98] : List UInt8).map bv) := Sl.reads 1 (some ⟨bl, 0, none⟩) 2 2 [.int .u8 97, .int .u8 98] rfl
  (refine r_op ?_)
  refine o_call rfl (write_spec (bs := [97, 98]) b (newD []) 0 0 R (by decide) (hok.small (by decide))) rfl ?_
  rintro v B ⟨rfl, rfl⟩
  (simp only [List.cons_append, List.nil_append])
  have w2 : ((newD []).write 0 0 [97, 98]).2 = 0 := by rfl
  rw [w2]
  have ok1 := okn_write hok 0 0 [97, 98]
  obtain ⟨d1, hd1⟩ : ∃ d1, ((newD []).write 0 0 [97, 98]).1 = d1 := ⟨_, rfl⟩
  rw [hd1] at ok1 ⊢
  (refine r_op (o_assign rfl rfl ?_); refine r_nil ?_; refine x_seq (x_region ?_); refine r_op (o_move rfl rfl ?_))
  (refine r_op ?_)
  refine o_call rfl (sync_spec b d1 0 (ok1.small (by decide))) rfl ?_
  rintro v B ⟨rfl, rfl⟩
  (simp only [List.cons_append, List.nil_append])
  have w3 : (d1.sync 0).2 = 0 := by rw [← hd1]; rfl
  rw [w3]
  have ok2 := okn_sync ok1 0
  obtain ⟨d2, hd2⟩ : ∃ d2, (d1.sync 0).1 = d2 := ⟨_, rfl⟩
  rw [hd2] at ok2 ⊢
  (refine r_op (o_assign rfl rfl ?_); refine r_nil ?_; refine x_seq (x_region ?_); refine r_op (o_move rfl rfl ?_))
  (refine r_op ?_)
  refine o_call rfl (crash0_spec b d2 (ok2.fit (by decide))) rfl ?_
  rintro v B ⟨a3, c3, q, rfl, hq, rfl⟩
  (simp only [List.cons_append, List.nil_append])
  have hq2 : keepAll d2.fs [] = [[97, 98], [], [], [], [], [], [], []] := by rw [← hd2, ← hd1]; rfl
  rw [hq2] at hq
  have hql : q.length = 8 := by have := congrArg List.length hq; simpa [cont] using this
  have hq0 : q[0].2.2 = [97, 98] := by
    have := congrArg (fun l => l[0]?) hq
    simpa [cont, hql] using this
  have RC := CellsX.rd a3 c3 q
  (refine r_op (o_assign rfl rfl ?_); refine r_nil ?_; refine x_seq (x_region ?_); refine r_op (o_move rfl rfl ?_))
  (refine r_op ?_)
  refine o_call rfl (num9_spec 0) rfl ?_
  rintro v B ⟨rfl, rfl⟩
  (simp only [List.nil_append])
  (refine r_op ?_)
  (refine o_eql_t rfl rfl (by omega) rfl ?_)
  (refine r_op (o_move rfl rfl ?_); refine r_guard rfl (o_move rfl rfl ?_))
  (refine r_guard rfl ?_)
  refine o_call rfl (num9_spec 0) rfl ?_
  rintro v B ⟨rfl, rfl⟩
  (simp only [List.nil_append])
  (refine r_guard rfl ?_)
  (refine o_eql_t rfl rfl (by omega) rfl ?_)
  (refine r_op (o_pick_t rfl rfl rfl ?_); refine r_op (o_move rfl rfl ?_); refine r_guard rfl (o_move rfl rfl ?_); refine r_guard rfl (o_lenS rfl rfl ?_))
  (refine r_guard rfl ?_)
  (refine o_eql_t rfl rfl (by omega) rfl ?_)
  (refine r_op (o_pick_t rfl rfl rfl ?_); refine r_op (o_move rfl rfl ?_); refine r_guard rfl (o_move rfl rfl ?_))
  (refine r_guard rfl ?_)
  refine o_indexR rfl rfl RC.1 (j := 0) rfl (by omega) rfl (fun b1 off ha => ?_)
  (refine r_guard rfl ?_)
  refine o_loadR rfl RC.1 ha (i := 0) (by omega) (mget sv (by omega)) rfl ?_
  (refine r_guard rfl ?_)
  refine o_toStr rfl (RC.get (i := 0) (by omega)) rfl ?_
  rw [hq0]
  (refine r_guard rfl ?_)
  refine o_seql_t rfl rfl (by rfl) rfl ?_
  (refine r_op (o_pick_t rfl rfl rfl ?_); refine r_op (o_assign rfl rfl ?_); refine r_nil ?_)
  exact x_ret rfl [] ⟨rfl, rfl⟩ Sub.h
end Go.Proofs.Ythneebbmodkjiaa
