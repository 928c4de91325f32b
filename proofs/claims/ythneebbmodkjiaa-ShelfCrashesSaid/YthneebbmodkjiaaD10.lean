/- Part of a proof over the seat Ythneebbmodkjiaa: module D10. Its claim's last module says what is proved. -/
import Derived.Test.YthneebbmodkjiaaD9
namespace Go.Proofs.Ythneebbmodkjiaa
open Go.Proofs

/-- The next pick, and those behind it. -/
def pk : List Int → Int × List Int
  | [] => (1, [])
  | p :: ps => (if p < 0 then 1 else p, ps)
/-- What one pick keeps of a change. -/
def keep1 (b : List UInt8) (c : Ch) (p : Int) : List UInt8 :=
  if p = 1 then b else if c.cut then (if p = 0 ∧ c.at' < b.length then b.take c.at' else b)
  else (let n := if p > 1 then min c.b.length (p - 2).toNat else c.b.length; if n = 0 then b else over b c.at' (c.b.take n))
def keep : List UInt8 → List Ch → List Int → List UInt8 × List Int
  | b, [], ps => (b, ps)
  | b, c :: cs, ps => keep (keep1 b c (pk ps).1) cs (pk ps).2

abbrev PickH (pa pp : Nat) (a : Option Addr) (len cap : Nat) (i : Nat) : HP := Sep [Row pa 0 [.int .i64 i], Row pp 0 [.slice a len cap]]
theorem pick_spec {A : HP} {a : Option Addr} {cap : Nat} {ps : List Int} (pa pp i : Nat) (R : Reads A 1 a ps.length (ps.map iv)) (hi : i ≤ ps.length) (hl : ps.length ≤ 2 ^ 63 - 1) :
    Spec Try.prog 99 [dp pa, dp pp] [Row pa 0 [.int .i64 i], Row pp 0 [.slice a ps.length cap], A]
      (fun v B => ∃ i' : Nat, v = .int .i64 (pk (ps.drop i)).1 ∧ B = [Row pa 0 [.int .i64 i'], Row pp 0 [.slice a ps.length cap], A] ∧ ps.drop i' = (pk (ps.drop i)).2 ∧ i' ≤ ps.length ∧ True) := by
  refine Spec.of_ex Try.func99 rfl Try.ntmps99 rfl fun E cs Γ => ?_
  (simp only [argRho, Nat.reduceAdd, List.cons_append, List.nil_append])
  by_cases h : i = ps.length
  · subst h
    (refine x_seq (x_region ?_); refine r_op (o_assign rfl rfl ?_); refine r_nil ?_; refine x_seq ?_; refine x_seq (x_region ?_); refine r_op (o_load rfl rfl rfl rfl ?_); refine r_op (o_load rfl rfl rfl rfl ?_); refine r_op (o_lenS rfl rfl ?_); refine r_op (o_eql_t rfl rfl (by omega) rfl ?_); refine r_nil ?_; refine x_true rfl ?_; refine x_seq (x_region ?_); refine r_op (o_assign rfl rfl ?_); refine r_nil ?_)
    refine x_ret rfl [Row pa 0 [.int .i64 ps.length], Row pp 0 [.slice a ps.length cap], A] ⟨ps.length, ?_, rfl, ?_, Nat.le_refl _, trivial⟩ Sub.h
    · simp [retV, pk]
    · simp [pk]
  · have hlt : i < ps.length := by omega
    have hd : ps.drop i = ps[i] :: ps.drop (i + 1) := List.drop_eq_getElem_cons hlt
    rw [hd]
    (refine x_seq (x_region ?_); refine r_op (o_assign rfl rfl ?_); refine r_nil ?_; refine x_seq ?_; refine x_seq (x_region ?_); refine r_op (o_load rfl rfl rfl rfl ?_); refine r_op (o_load rfl rfl rfl rfl ?_); refine r_op (o_lenS rfl rfl ?_); refine r_op (o_eql_f rfl rfl (by omega) rfl ?_); refine r_nil ?_; refine x_false rfl ?_; refine x_skip ?_; refine x_seq (x_region ?_); refine r_op (o_load rfl rfl rfl rfl ?_); refine r_op (o_add rfl rfl (add_i64 (by omega)) rfl ?_); refine r_do (o_store rfl rfl rfl rfl (by simp) ?_); (try dsimp only [Nat.reduceSub, Nat.reduceAdd, List.set]); refine r_nil ?_; refine x_seq ?_; refine x_seq (x_region ?_); refine r_op (o_load rfl rfl rfl rfl ?_); refine r_op (o_load rfl rfl rfl rfl ?_); refine r_op (o_sub rfl rfl (sub_i64 (by omega)) rfl ?_))
    (refine r_op ?_)
    refine o_indexR rfl rfl R (j := i) (by omega) hlt rfl (fun b off ha => ?_)
    (refine r_op ?_)
    refine o_loadR rfl R ha (i := i) (by omega) (mget iv hlt) rfl ?_
    by_cases hn : ps[i] < 0
    · (refine r_op (o_lss_t rfl rfl (by omega) rfl ?_); refine r_nil ?_; refine x_true rfl ?_; refine x_seq (x_region ?_); refine r_op (o_assign rfl rfl ?_); refine r_nil ?_)
      refine x_ret rfl [Row pa 0 [.int .i64 ((i : Int) + 1)], Row pp 0 [.slice a ps.length cap], A] ⟨i + 1, ?_, rfl, rfl, hlt, trivial⟩ Sub.h
      simp [retV, pk, hn]
    · (refine r_op (o_lss_f rfl rfl (by omega) rfl ?_); refine r_nil ?_; refine x_false rfl ?_; refine x_skip ?_; refine x_seq (x_region ?_); refine r_op (o_load rfl rfl rfl rfl ?_); refine r_op (o_load rfl rfl rfl rfl ?_); refine r_op (o_sub rfl rfl (sub_i64 (by omega)) rfl ?_))
      (refine r_op ?_)
      refine o_indexR rfl rfl R (j := i) (by omega) hlt rfl (fun b off ha => ?_)
      (refine r_op ?_)
      refine o_loadR rfl R ha (i := i) (by omega) (mget iv hlt) rfl ?_
      (refine r_op (o_assign rfl rfl ?_); refine r_nil ?_)
      refine x_ret rfl [Row pa 0 [.int .i64 ((i : Int) + 1)], Row pp 0 [.slice a ps.length cap], A] ⟨i + 1, ?_, rfl, rfl, hlt, trivial⟩ Sub.h
      simp [retV, pk, hn]

theorem pk_ge (ps : List Int) : 0 ≤ (pk ps).1 := by
  unfold pk
  split
  · decide
  · dsimp only; split <;> omega
theorem pk_le (ps : List Int) (i : Nat) (h : ∀ p ∈ ps, p ≤ 9223372036854775807) : (pk (ps.drop i)).1 ≤ 9223372036854775807 := by
  cases hd : ps.drop i with
  | nil => decide
  | cons p qs =>
    have : p ∈ ps := List.mem_of_mem_drop (i := i) (by rw [hd]; exact List.mem_cons_self ..)
    have := h p this
    show (if p < 0 then (1 : Int) else p) ≤ _
    split <;> omega
theorem keep1_len (b : List UInt8) (c : Ch) (p : Int) (n : Nat) (hb : b.length ≤ n) (hc : c.at' + c.b.length ≤ n) : (keep1 b c p).length ≤ n := by
  unfold keep1
  split
  · exact hb
  · split
    · split
      · simp; omega
      · exact hb
    · dsimp only
      split <;> split
      · exact hb
      · rw [over_length]; simp; omega
      · exact hb
      · rw [over_length]; simp; omega

/-- A file's content beside its own row. -/
def FileC (x : FX) : HP := Sep [sp x.safe, sp x.now, Sl 3 x.ca x.chg.length x.cc (x.chg.flatMap CX.cells), Inn (x.chg.map CX.s)]
/-- What may be read of a file. -/
structure RdF (A : HP) (x : FX) : Prop where
  safe : Reads A 1 x.safe.1 x.safe.2.2.length (x.safe.2.2.map bv)
  chg : Reads A 3 x.ca x.chg.length (x.chg.flatMap CX.cells)
  bs : ∀ c ∈ x.chg, Reads A 1 c.s.1 c.s.2.2.length (c.s.2.2.map bv)
theorem FileC.rd (x : FX) : RdF (FileC x) x := by
  refine ⟨?_, ?_, fun c hc => ?_⟩
  · exact (Sl.reads 1 _ _ _ _ (by simp)).of_ent [sp x.now, Sl 3 x.ca x.chg.length x.cc (x.chg.flatMap CX.cells), Inn (x.chg.map CX.s)] (Ent.sep_out _ [])
  · refine (Sl.reads 3 x.ca _ x.cc _ (flen CX.cl _)).of_ent [sp x.safe, sp x.now, Inn (x.chg.map CX.s)] ((Ent.sep_out _ []).trans (by (simp only [List.cons_append, List.nil_append]); exact Sub.h))
  · refine (Inn.reads (List.mem_map_of_mem hc)).of_ent [sp x.safe, sp x.now, Sl 3 x.ca x.chg.length x.cc (x.chg.flatMap CX.cells)] ((Ent.sep_out _ []).trans (by (simp only [List.cons_append, List.nil_append]); exact Sub.h))

theorem o_storeW {P : Program} {X : Cx} {n : Nat} {ds : List Deferred} {ρ : Rho} {Γ : List HP} {Nx : Value → List HP → Prop} {ty : TypeId} {t s : Nat} {x y : Operand} {b : Nat} {vs us : List Value} {K : HP → List HP} [T : TyAgg P t s] (hx : ev ρ x = some (.pointer (some ⟨b, 0, none⟩))) (hy : ev ρ y = some (.agg us.toArray)) (hs' : us.length = s) (h1 : us.all Value.oneCell' = true)
    [H : UpdRow Γ b 0 vs K] (hl : us.length = vs.length) (h : Nx undef (K (Row b 0 us))) : ExO P X n ds none (.store t x y) ty Nx ρ Γ := by
  refine o_storeA (off := 0) (vs := vs) (K := K) hx hy hs' h1 rfl (by omega) ?_
  have e : vs.take (0 - 0) ++ us ++ vs.drop (0 - 0 + us.length) = us := by
    rw [List.drop_eq_nil_of_le (by omega)]; simp
  rw [e]; exact h
theorem kept_spec {A B : HP} {a : Option Addr} {cap : Nat} {ps : List Int} (x : FX) (pa pp i : Nat) (RF : RdF B x) (R : Reads A 1 a ps.length (ps.map iv)) (hi : i ≤ ps.length) (hl : ps.length ≤ 2 ^ 63 - 1)
    (hb : x.safe.2.2.length ≤ 2 ^ 39) (hc : ∀ c ∈ x.chg, c.at' + c.s.2.2.length ≤ 2 ^ 39 ∧ c.s.2.2.length ≤ c.s.2.1) (hlc : x.chg.length ≤ 2 ^ 40) (hps : ∀ p ∈ ps, p ≤ 9223372036854775807) :
    Spec Try.prog 100 [.agg x.cells.toArray, .func (.func 99) #[] #[dp pa, dp pp]] [Row pa 0 [.int .i64 i], Row pp 0 [.slice a ps.length cap], A, B]
      (fun v C => ∃ (i' : Nat) (a' : Option Addr) (cap' : Nat) (bs : List UInt8), v = .slice a' bs.length cap' ∧ C = [Row pa 0 [.int .i64 i'], Row pp 0 [.slice a ps.length cap], A, B, Sl 1 a' bs.length cap' (bs.map bv)] ∧ (bs, ps.drop i') = keep x.safe.2.2 (x.chg.map CX.abs) (ps.drop i) ∧ i' ≤ ps.length) := by
  refine Spec.of_ex Try.func100 rfl Try.ntmps100 rfl fun E cs Γ => ?_
  (simp only [argRho, Nat.reduceAdd, List.cons_append, List.nil_append])
  (refine x_seq ?_); (refine x_region ?_)
  (refine r_op ?_)
  refine o_boxA (vs := x.cells) rfl rfl (fun px => ?_)
  (refine r_op (o_assign rfl rfl ?_); refine r_nil ?_; refine x_scope ?_; refine x_seq (x_region ?_); refine r_op (o_fieldAddr rfl rfl ?_); refine r_op (o_load rfl rfl rfl rfl ?_))
  (refine r_op ?_)
  refine o_call rfl (clone_spec RF.safe (by omega)) rfl ?_
  rintro v C ⟨a1, c1, rfl, rfl⟩
  (simp only [List.cons_append, List.nil_append])
  (refine r_op (o_assign rfl rfl ?_); refine r_nil ?_; refine x_seq ?_; refine x_label ?_; refine x_seq ?_; refine x_seq (x_region ?_); refine r_op (o_fieldAddr rfl rfl ?_); refine r_op (o_load rfl rfl rfl rfl ?_); refine r_op (o_lenS rfl rfl ?_); refine r_op (o_move rfl rfl ?_); refine r_nil ?_; refine x_block ?_)
  refine x_loop (α := Nat × Nat × List UInt8 × Option Addr × Nat) (fun q => q.1 ≤ x.chg.length ∧ q.2.1 ≤ ps.length ∧ q.2.2.1.length ≤ 2 ^ 39 ∧ keep q.2.2.1 ((x.chg.drop q.1).map CX.abs) (ps.drop q.2.1) = keep x.safe.2.2 (x.chg.map CX.abs) (ps.drop i))
    (fun q => [(1, .func (.func 99) #[] #[dp pa, dp pp]), (5, .slice q.2.2.2.1 q.2.2.1.length q.2.2.2.2), (14, .slice x.ca x.chg.length x.cc), (15, .int .i64 x.chg.length), (16, .int .i64 q.1)])
    (fun q => Row pa 0 [.int .i64 q.2.1] :: Row pp 0 [.slice a ps.length cap] :: A :: B :: Sl 1 q.2.2.2.1 q.2.2.1.length q.2.2.2.2 (q.2.2.1.map bv) :: Γ)
    (fun q => x.chg.length - q.1) (0, i, x.safe.2.2, a1, c1) ⟨Nat.zero_le _, hi, hb, rfl⟩ ⟨rfl, rfl, rfl, rfl, rfl, trivial⟩ Sub.h ?_
  rintro ⟨j, i', bs, a2, c2⟩ ⟨hj, hi', hbs, hk⟩ back
  dsimp only at hj hi' hbs hk back ⊢
  (refine x_seq (x_region ?_))
  (refine r_op ?_)
  refine o_lss rfl rfl rfl (fun h => ?_) (fun h => ?_)
  · have hj1 : j < x.chg.length := by omega
    obtain ⟨⟨cut, cat, cb⟩, hcj⟩ : ∃ c, x.chg[j] = c := ⟨_, rfl⟩
    have hcm : CX.mk cut cat cb ∈ x.chg := hcj ▸ List.getElem_mem hj1
    have hcb := hc _ hcm
    have hRc := RF.bs _ hcm
    dsimp only at hcb hRc
    rw [List.drop_eq_getElem_cons hj1, hcj] at hk
    rw [List.map_cons] at hk
    replace hk : keep (keep1 bs (CX.mk cut cat cb).abs (pk (ps.drop i')).1) ((x.chg.drop (j + 1)).map CX.abs) (pk (ps.drop i')).2 = _ := hk
    have hkl := keep1_len bs (CX.mk cut cat cb).abs (pk (ps.drop i')).1 (2 ^ 39) hbs hcb.1
    (refine r_nil ?_; refine x_seq ?_; refine x_true rfl ?_; refine x_skip ?_; refine x_seq ?_; refine x_block ?_; refine x_seq (x_region ?_))
    (refine r_op ?_)
    refine o_indexR rfl rfl RF.chg (j := j) rfl hj1 rfl (fun b off ha => ?_)
    (refine r_op ?_)
    refine o_loadAR rfl RF.chg ha (i := j * 3) (us := [.bool cut, .int .i64 cat, sv cb]) rfl rfl (fun j' v hv => ?_) rfl ?_
    · have hj' : j' < 3 := (List.getElem?_eq_some_iff.1 hv).1
      rw [fget CX.cl hj1 j' hj', hcj]; exact hv
    (refine r_op ?_)
    refine o_alloc rfl (fun pc => ?_)
    (refine r_do ?_)
    refine o_storeW (us := [.bool cut, .int .i64 cat, sv cb]) rfl rfl rfl (by rfl) (by rfl) ?_
    (refine r_nil ?_; refine x_seq (x_region ?_); refine r_op (o_move rfl rfl ?_))
    (refine r_op ?_)
    refine o_callF rfl rfl (pick_spec (cap := cap) pa pp i' R hi' hl) rfl ?_
    rintro v C ⟨i2, rfl, rfl, hd2, hi2, _⟩
    (simp only [List.cons_append, List.nil_append])
    obtain ⟨p, hp⟩ : ∃ p, (pk (ps.drop i')).1 = p := ⟨_, rfl⟩
    have hp0 := pk_ge (ps.drop i')
    have hpl := pk_le ps i' hps
    rw [hp] at hp0 hpl hk hkl ⊢
    have hback := fun a3 c3 => back (j + 1, i2, keep1 bs (CX.mk cut cat cb).abs p, a3, c3) ⟨by dsimp only; omega, hi2, hkl, by dsimp only; rw [hd2]; exact hk⟩ (by dsimp only; omega)
    dsimp only at hback
    (refine r_op (o_assign rfl rfl ?_); refine r_nil ?_; refine x_seq (x_region ?_); refine r_op (o_fieldAddr rfl rfl ?_); refine r_op (o_load rfl rfl rfl rfl ?_); refine r_op (o_lenS rfl rfl ?_); refine r_op (o_assign rfl rfl ?_); refine r_nil ?_; refine x_seq ?_; refine x_block ?_; refine x_seq (x_region ?_); refine r_op (o_move rfl rfl ?_))
    by_cases h1 : p = 1
    · have e : keep1 bs (CX.mk cut cat cb).abs p = bs := by unfold keep1; rw [if_pos h1]
      rw [e] at hback
      (refine r_op (o_eql_t rfl rfl (by omega) rfl ?_); refine r_op (o_assign rfl rfl ?_); refine r_nil ?_; refine x_true rfl ?_; refine x_exit rfl ?_; refine x_region ?_; refine r_op (o_add rfl rfl (add_i64 (by omega)) rfl ?_); refine r_op (o_move rfl rfl ?_); refine r_nil ?_)
      refine x_weak (hback a2 c2) (by (repeat' (first | exact trivial | refine ⟨rfl, ?_⟩))) Sub.h
    · cases cut
      · have e : keep1 bs (CX.mk false cat cb).abs p = (if (if p > 1 then min cb.2.2.length (p - 2).toNat else cb.2.2.length) = 0 then bs else over bs cat (cb.2.2.take (if p > 1 then min cb.2.2.length (p - 2).toNat else cb.2.2.length))) := by
          unfold keep1; rw [if_neg h1, if_neg (by simp [CX.abs])]; rfl
        by_cases h2 : p > 1
        · rw [if_pos h2] at e
          obtain ⟨n, hn⟩ : ∃ n, min cb.2.2.length (p - 2).toNat = n := ⟨_, rfl⟩
          rw [hn] at e
          (refine r_op (o_eql_f rfl rfl (by omega) rfl ?_); refine r_op (o_assign rfl rfl ?_); refine r_nil ?_; refine x_false rfl ?_; refine x_seq (x_region ?_); refine r_op (o_fieldAddr rfl rfl ?_); refine r_op (o_load rfl rfl rfl rfl ?_); refine r_op (o_assign rfl rfl ?_); refine r_nil ?_; refine x_false rfl ?_; refine x_seq (x_region ?_); refine r_op (o_move rfl rfl ?_); refine r_op (o_gtr_t rfl rfl (by omega) rfl ?_); refine r_op (o_assign rfl rfl ?_); refine r_nil ?_; refine x_true rfl ?_; refine x_region ?_; refine r_op (o_move rfl rfl ?_); refine r_op (o_move rfl rfl ?_); refine r_op (o_sub rfl rfl (sub_i64 (by omega)) rfl ?_); refine r_op (o_min rfl rfl rfl ?_); refine r_op (o_assign rfl rfl ?_); refine r_nil ?_; refine x_inBlock ?_; refine x_seq (x_region ?_); refine r_op (o_move rfl rfl ?_))
          rw [show min (cb.2.2.length : Int) (p - 2) = (n : Int) by omega]
          by_cases h3 : n = 0
          · rw [if_pos h3] at e
            rw [e] at hback
            (refine r_op (o_gtr_f rfl rfl (by omega) rfl ?_); refine r_nil ?_; refine x_false rfl ?_; refine x_skip ?_; refine x_inBlock ?_; refine x_region ?_; refine r_op (o_add rfl rfl (add_i64 (by omega)) rfl ?_); refine r_op (o_move rfl rfl ?_); refine r_nil ?_)
            refine x_weak (hback a2 c2) (by (repeat' (first | exact trivial | refine ⟨rfl, ?_⟩))) Sub.h
          · rw [if_neg h3] at e
            rw [e] at hback
            (refine r_op (o_gtr_t rfl rfl (by omega) rfl ?_); refine r_nil ?_; refine x_true rfl ?_)
            refine x_script 8 [(0,false),(1,false),(2,false),(3,false),(4,false),(5,false),(6,false),(7,true),(8,false)] [Row pc 0 [.bool false, .int .i64 cat, sv cb]] mixed (by kernel_rfl) permF ?_
            (refine s_v rfl (v_move rfl) ?_)
            (refine s_v rfl (v_fieldAddr rfl) ?_)
            (refine s_v rfl (v_load rfl rfl rfl) ?_)
            (refine s_v rfl (v_fieldAddr rfl) ?_)
            (refine s_v rfl (v_load rfl rfl rfl) ?_)
            (refine s_v rfl (v_move rfl) ?_)
            refine s_v rfl (v_sliceHi rfl rfl (jh := n) rfl (by omega)) ?_
            have R2 := hRc.firstN n (by omega)
            have e1 : ((cb.2.2.map bv).take (n * 1)) = (cb.2.2.take n).map bv := by simp [List.map_take]
            rw [e1] at R2
            refine s_x rfl (o_call rfl (laid_spec (cap := c2) R2 (by omega) (by omega) (by omega) (by omega)) rfl ?_)
            rintro v C ⟨a3, c3, rfl, rfl⟩
            refine ⟨permF, ?_⟩
            (simp only [List.cons_append, List.nil_append])
            (refine s_v rfl (v_assign rfl) ?_)
            refine s_end rfl ?_
            (refine x_inBlock ?_; refine x_region ?_; refine r_op (o_add rfl rfl (add_i64 (by omega)) rfl ?_); refine r_op (o_move rfl rfl ?_); refine r_nil ?_)
            refine x_weak (hback a3 c3) (by (repeat' (first | exact trivial | refine ⟨rfl, ?_⟩))) Sub.h
        · rw [if_neg h2] at e
          obtain ⟨n, hn⟩ : ∃ n, cb.2.2.length = n := ⟨_, rfl⟩
          rw [hn] at e
          by_cases h3 : n = 0
          · rw [if_pos h3] at e
            rw [e] at hback
            (refine r_op (o_eql_f rfl rfl (by omega) rfl ?_); refine r_op (o_assign rfl rfl ?_); refine r_nil ?_; refine x_false rfl ?_; refine x_seq (x_region ?_); refine r_op (o_fieldAddr rfl rfl ?_); refine r_op (o_load rfl rfl rfl rfl ?_); refine r_op (o_assign rfl rfl ?_); refine r_nil ?_; refine x_false rfl ?_; refine x_seq (x_region ?_); refine r_op (o_move rfl rfl ?_); refine r_op (o_gtr_f rfl rfl (by omega) rfl ?_); refine r_op (o_assign rfl rfl ?_); refine r_nil ?_; refine x_false rfl ?_; refine x_skip ?_; refine x_inBlock ?_; refine x_seq (x_region ?_); refine r_op (o_move rfl rfl ?_); refine r_op (o_gtr_f rfl rfl (by omega) rfl ?_); refine r_nil ?_; refine x_false rfl ?_; refine x_skip ?_; refine x_inBlock ?_; refine x_region ?_; refine r_op (o_add rfl rfl (add_i64 (by omega)) rfl ?_); refine r_op (o_move rfl rfl ?_); refine r_nil ?_)
            refine x_weak (hback a2 c2) (by (repeat' (first | exact trivial | refine ⟨rfl, ?_⟩))) Sub.h
          · rw [if_neg h3] at e
            rw [e] at hback
            (refine r_op (o_eql_f rfl rfl (by omega) rfl ?_); refine r_op (o_assign rfl rfl ?_); refine r_nil ?_; refine x_false rfl ?_; refine x_seq (x_region ?_); refine r_op (o_fieldAddr rfl rfl ?_); refine r_op (o_load rfl rfl rfl rfl ?_); refine r_op (o_assign rfl rfl ?_); refine r_nil ?_; refine x_false rfl ?_; refine x_seq (x_region ?_); refine r_op (o_move rfl rfl ?_); refine r_op (o_gtr_f rfl rfl (by omega) rfl ?_); refine r_op (o_assign rfl rfl ?_); refine r_nil ?_; refine x_false rfl ?_; refine x_skip ?_; refine x_inBlock ?_; refine x_seq (x_region ?_); refine r_op (o_move rfl rfl ?_); refine r_op (o_gtr_t rfl rfl (by omega) rfl ?_); refine r_nil ?_; refine x_true rfl ?_)
            refine x_script 8 [(0,false),(1,false),(2,false),(3,false),(4,false),(5,false),(6,false),(7,true),(8,false)] [Row pc 0 [.bool false, .int .i64 cat, sv cb]] mixed (by kernel_rfl) permF ?_
            (refine s_v rfl (v_move rfl) ?_)
            (refine s_v rfl (v_fieldAddr rfl) ?_)
            (refine s_v rfl (v_load rfl rfl rfl) ?_)
            (refine s_v rfl (v_fieldAddr rfl) ?_)
            (refine s_v rfl (v_load rfl rfl rfl) ?_)
            (refine s_v rfl (v_move rfl) ?_)
            refine s_v rfl (v_sliceHi rfl rfl (jh := n) (by simp [hn]) (by omega)) ?_
            have R2 := hRc.firstN n (by omega)
            have e1 : ((cb.2.2.map bv).take (n * 1)) = (cb.2.2.take n).map bv := by simp [List.map_take]
            rw [e1] at R2
            refine s_x rfl (o_call rfl (laid_spec (cap := c2) R2 (by omega) (by omega) (by omega) (by omega)) rfl ?_)
            rintro v C ⟨a3, c3, rfl, rfl⟩
            refine ⟨permF, ?_⟩
            (simp only [List.cons_append, List.nil_append])
            (refine s_v rfl (v_assign rfl) ?_)
            refine s_end rfl ?_
            (refine x_inBlock ?_; refine x_region ?_; refine r_op (o_add rfl rfl (add_i64 (by omega)) rfl ?_); refine r_op (o_move rfl rfl ?_); refine r_nil ?_)
            refine x_weak (hback a3 c3) (by (repeat' (first | exact trivial | refine ⟨rfl, ?_⟩))) Sub.h
      · have e : keep1 bs (CX.mk true cat cb).abs p = (if p = 0 ∧ cat < bs.length then bs.take cat else bs) := by
          unfold keep1; rw [if_neg h1, if_pos (by simp [CX.abs])]; rfl
        by_cases h2 : p = 0
        · by_cases h3 : cat < bs.length
          · rw [if_pos ⟨h2, h3⟩] at e
            rw [e] at hback
            (refine r_op (o_eql_f rfl rfl (by omega) rfl ?_); refine r_op (o_assign rfl rfl ?_); refine r_nil ?_; refine x_false rfl ?_; refine x_seq (x_region ?_); refine r_op (o_fieldAddr rfl rfl ?_); refine r_op (o_load rfl rfl rfl rfl ?_); refine r_op (o_assign rfl rfl ?_); refine r_nil ?_; refine x_true rfl ?_; refine x_seq ?_; refine x_seq (x_region ?_); refine r_op (o_move rfl rfl ?_); refine r_op (o_eql_t rfl rfl (by omega) rfl ?_); refine r_op (o_move rfl rfl ?_); refine r_guard rfl (o_fieldAddr rfl rfl ?_); refine r_guard rfl (o_load rfl rfl rfl rfl ?_); refine r_guard rfl (o_move rfl rfl ?_); refine r_guard rfl (o_lenS rfl rfl ?_); refine r_guard rfl (o_lss_t rfl rfl (by omega) rfl ?_); refine r_op (o_pick_t rfl rfl rfl ?_); refine r_nil ?_; refine x_true rfl ?_; refine x_region ?_; refine r_op (o_move rfl rfl ?_); refine r_op (o_fieldAddr rfl rfl ?_); refine r_op (o_load rfl rfl rfl rfl ?_))
            refine r_sl a2 fun _ hcap => ?_
            (refine r_op ?_)
            refine o_sliceHi rfl rfl (jh := cat) rfl (by omega) rfl ?_
            have R2 := (Sl.reads 1 a2 bs.length c2 (bs.map bv) (by simp)).firstN cat (by omega)
            have e1 : ((bs.map bv).take (cat * 1)) = (bs.take cat).map bv := by simp [List.map_take]
            rw [e1] at R2
            (refine r_op ?_)
            refine o_call rfl (clone_spec R2 (by omega)) rfl ?_
            rintro v C ⟨a3, c3, rfl, rfl⟩
            (simp only [List.cons_append, List.nil_append])
            (refine r_op (o_assign rfl rfl ?_); refine r_nil ?_; refine x_exit rfl ?_; refine x_region ?_; refine r_op (o_add rfl rfl (add_i64 (by omega)) rfl ?_); refine r_op (o_move rfl rfl ?_); refine r_nil ?_)
            have el : (bs.take cat).length = cat := by simp; omega
            rw [el] at hback
            refine x_weak (hback a3 c3) (by (repeat' (first | exact trivial | refine ⟨rfl, ?_⟩))) Sub.h
          · rw [if_neg (fun h => h3 h.2)] at e
            rw [e] at hback
            (refine r_op (o_eql_f rfl rfl (by omega) rfl ?_); refine r_op (o_assign rfl rfl ?_); refine r_nil ?_; refine x_false rfl ?_; refine x_seq (x_region ?_); refine r_op (o_fieldAddr rfl rfl ?_); refine r_op (o_load rfl rfl rfl rfl ?_); refine r_op (o_assign rfl rfl ?_); refine r_nil ?_; refine x_true rfl ?_; refine x_seq ?_; refine x_seq (x_region ?_); refine r_op (o_move rfl rfl ?_); refine r_op (o_eql_t rfl rfl (by omega) rfl ?_); refine r_op (o_move rfl rfl ?_); refine r_guard rfl (o_fieldAddr rfl rfl ?_); refine r_guard rfl (o_load rfl rfl rfl rfl ?_); refine r_guard rfl (o_move rfl rfl ?_); refine r_guard rfl (o_lenS rfl rfl ?_); refine r_guard rfl (o_lss_f rfl rfl (by omega) rfl ?_); refine r_op (o_pick_t rfl rfl rfl ?_); refine r_nil ?_; refine x_false rfl ?_; refine x_skip ?_; refine x_exit rfl ?_; refine x_region ?_; refine r_op (o_add rfl rfl (add_i64 (by omega)) rfl ?_); refine r_op (o_move rfl rfl ?_); refine r_nil ?_)
            refine x_weak (hback a2 c2) (by (repeat' (first | exact trivial | refine ⟨rfl, ?_⟩))) Sub.h
        · rw [if_neg (fun h => h2 h.1)] at e
          rw [e] at hback
          (refine r_op (o_eql_f rfl rfl (by omega) rfl ?_); refine r_op (o_assign rfl rfl ?_); refine r_nil ?_; refine x_false rfl ?_; refine x_seq (x_region ?_); refine r_op (o_fieldAddr rfl rfl ?_); refine r_op (o_load rfl rfl rfl rfl ?_); refine r_op (o_assign rfl rfl ?_); refine r_nil ?_; refine x_true rfl ?_; refine x_seq ?_; refine x_seq (x_region ?_); refine r_op (o_move rfl rfl ?_); refine r_op (o_eql_f rfl rfl (by omega) rfl ?_); refine r_op (o_move rfl rfl ?_); refine r_skip rfl rfl rfl ?_; refine r_skip rfl rfl rfl ?_; refine r_skip rfl rfl rfl ?_; refine r_skip rfl rfl rfl ?_; refine r_skip rfl rfl rfl ?_; refine r_op (o_pick_f rfl rfl rfl ?_); refine r_nil ?_; refine x_false rfl ?_; refine x_skip ?_; refine x_exit rfl ?_; refine x_region ?_; refine r_op (o_add rfl rfl (add_i64 (by omega)) rfl ?_); refine r_op (o_move rfl rfl ?_); refine r_nil ?_)
          refine x_weak (hback a2 c2) (by (repeat' (first | exact trivial | refine ⟨rfl, ?_⟩))) Sub.h
  · (refine r_nil ?_; refine x_seq ?_; refine x_false rfl ?_; refine x_exit rfl ?_; refine x_seq (x_region ?_); refine r_op (o_move rfl rfl ?_); refine r_op (o_assign rfl rfl ?_); refine r_nil ?_)
    have e : j = x.chg.length := by omega
    subst e
    simp [keep] at hk
    refine x_ret rfl [Row pa 0 [.int .i64 i'], Row pp 0 [.slice a ps.length cap], A, B, Sl 1 a2 bs.length c2 (bs.map bv)] ⟨i', a2, c2, bs, rfl, rfl, ?_, hi'⟩ Sub.h
    rw [← hk]
end Go.Proofs.Ythneebbmodkjiaa
