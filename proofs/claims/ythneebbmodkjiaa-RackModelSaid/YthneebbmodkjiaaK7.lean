/- Part of a proof over the seat Ythneebbmodkjiaa: module K5. Its claim's last module says what is proved. -/
import Derived.Test.YthneebbmodkjiaaK4
import Derived.Laws.StructEq
import Derived.Test.YthneebbmodkjiaaE17
namespace Go.Proofs.Ythneebbmodkjiaa
open Go.Proofs

/-- The shelves of a rack that has not failed. -/
def ssOf (first : Nat) (ess : List (List En)) : List Sh := ess.mapIdx fun k es => ⟨first + k, 128 * 2 ^ k, es, false⟩
theorem ssOf_get {first : Nat} {ess : List (List En)} {k : Nat} {es : List En} (h : ess[k]? = some es) : (ssOf first ess)[k]? = some ⟨first + k, 128 * 2 ^ k, es, false⟩ := by
  unfold ssOf; rw [List.getElem?_mapIdx, h]; rfl
theorem ssOf_len (first : Nat) (ess : List (List En)) : (ssOf first ess).length = ess.length := by simp [ssOf]
theorem ssOf_es (first : Nat) (ess : List (List En)) : (ssOf first ess).map (·.es) = ess := by
  refine List.ext_getElem (by simp [ssOf]) fun i h1 h2 => ?_
  simp [ssOf]
theorem ssOf_set {first : Nat} {ess : List (List En)} {k : Nat} (es : List En) : (ssOf first ess).set k ⟨first + k, 128 * 2 ^ k, es, false⟩ = ssOf first (ess.set k es) := by
  refine List.ext_getElem? fun i => ?_
  unfold ssOf
  rw [List.getElem?_set, List.getElem?_mapIdx, List.getElem?_mapIdx, List.getElem?_set]
  by_cases e : k = i
  · subst e
    rw [if_pos rfl, if_pos rfl, List.length_mapIdx]
    split <;> rfl
  · rw [if_neg e, if_neg e]
theorem ssOf_fail (first : Nat) (ess : List (List En)) : rfail (ssOf first ess) = false := by
  unfold rfail
  rw [Bool.eq_false_iff]
  intro h
  rw [List.any_eq_true] at h
  obtain ⟨s, hs, hf⟩ := h
  obtain ⟨i, hi⟩ := List.getElem?_of_mem hs
  unfold ssOf at hi
  rw [List.getElem?_mapIdx, Option.map_eq_some_iff] at hi
  obtain ⟨a, -, rfl⟩ := hi
  cases hf
structure HoldsR (first : Nat) (ess : List (List En)) (bs : List (List UInt8)) : Prop where
  h4 : ess.length = 4
  hf : first + 4 ≤ 8
  hh : ∀ k es, ess[k]? = some es → Holds (128 * 2 ^ k) es (bs.getD (first + k) [])
theorem k4_facts {k : Nat} (hk : k < 4) : fitsB ((128 * 2 ^ k : Nat) : Int) = true ∧ 16 ≤ 128 * 2 ^ k ∧ 128 * 2 ^ k ≤ 1024 := by
  have : k = 0 ∨ k = 1 ∨ k = 2 ∨ k = 3 := by omega
  rcases this with rfl | rfl | rfl | rfl <;> decide
theorem HoldsR.len {first : Nat} {ess : List (List En)} {bs : List (List UInt8)} (h : HoldsR first ess bs) {k : Nat} {es : List En} (hk : ess[k]? = some es) : es.length ≤ 128 := by
  have hk4 : k < 4 := by have := (List.getElem?_eq_some_iff.1 hk).1; have := h.h4; omega
  exact (h.hh k es hk).len (by have := (k4_facts hk4).2.1; omega)
theorem HoldsR.mem {first : Nat} {ess : List (List En)} {bs : List (List UInt8)} (h : HoldsR first ess bs) : ∀ s ∈ ssOf first ess, (16 ≤ s.n ∧ s.n ≤ 2 ^ 20) ∧ s.es.length ≤ 128 := by
  intro s hs
  obtain ⟨k, hk⟩ := List.getElem?_of_mem hs
  have hk4 : k < 4 := by have := (List.getElem?_eq_some_iff.1 hk).1; rw [ssOf_len, h.h4] at this; exact this
  obtain ⟨es, he⟩ : ∃ es, ess[k]? = some es := ⟨ess[k]'(by rw [h.h4]; exact hk4), List.getElem?_eq_getElem _⟩
  rw [ssOf_get he] at hk
  obtain rfl := Option.some.inj hk
  have := k4_facts hk4
  exact ⟨⟨this.2.1, by show 128 * 2 ^ k ≤ _; omega⟩, h.len he⟩
/-- One file laid anew. -/
theorem HoldsR.put {first : Nat} {ess : List (List En)} {bs : List (List UInt8)} (h : HoldsR first ess bs) (hc : Calm bs) {k : Nat} (hk : k < 4) {es' : List En} {b' : List UInt8} (hb : Holds (128 * 2 ^ k) es' b') : HoldsR first (ess.set k es') (bs.set (first + k) b') := by
  refine ⟨by rw [List.length_set]; exact h.h4, h.hf, fun j es hj => ?_⟩
  have := h.hf
  have := hc.h8
  rw [List.getElem?_set] at hj
  by_cases e : k = j
  · subst e
    rw [if_pos rfl, if_pos (by rw [h.h4]; exact hk)] at hj
    obtain rfl := Option.some.inj hj
    rw [getD_set hc.h8 (by omega)]; exact hb
  · rw [if_neg e] at hj
    rw [getD_set_ne (by omega)]
    exact h.hh j es hj
theorem Ent.snocP {b : Nat} (xs : List (Nat × Sh)) (y : Nat × Sh) (Γ : List HP) : Ent (Parts (RG b) xs :: ShelfI y.1 b y.2 :: Γ) (Parts (RG b) (xs ++ [y]) :: Γ) := by
  refine (Ent.sep_out _ _).trans ?_
  have h : Ent (Arr (RG b) 0 (xs ++ [y]) ++ Γ) (Parts (RG b) (xs ++ [y]) :: Γ) := Ent.sep_in (Arr (RG b) 0 (xs ++ [y])) Γ
  rw [Arr.append] at h
  refine Ent.trans ?_ h
  rw [List.append_assoc]
  exact .refl _
set_option maxHeartbeats 1600000 in
theorem ropenC_spec (b : Nat) {bs : List (List UInt8)} (hc : Calm bs) {first : Nat} {ess : List (List En)} (hR : HoldsR first ess bs) :
    Spec Try.prog 80 [dp b, .int .i64 first] [DiskI b (newD bs)] (fun v B => ∃ r bs', v = .tuple #[dp r, .int .i64 0] ∧ B = [RackI r b (ssOf first (ess.map compact)), DiskI b (newD bs')] ∧ Calm bs' ∧ HoldsR first (ess.map compact) bs') := by
  refine Spec.of_ex Try.func80 rfl Try.ntmps80 rfl fun E cs Γ => ?_
  have hf := hR.hf
  (simp only [argRho, Nat.reduceAdd, List.cons_append, List.nil_append])
  (refine x_seq (x_region ?_); refine r_op (o_assign rfl rfl ?_); refine r_op (o_assign rfl rfl ?_); refine r_nil ?_; refine x_seq ?_; refine x_seq (x_region ?_); refine r_op (o_move rfl rfl ?_); refine r_op (o_lss_f rfl rfl (by omega) rfl ?_); refine r_op (o_move rfl rfl ?_); refine r_guard rfl (o_move rfl rfl ?_); refine r_guard rfl (o_gtr_f rfl rfl (by omega) rfl ?_); refine r_op (o_pick_f rfl rfl rfl ?_); refine r_nil ?_; refine x_false rfl ?_; refine x_skip ?_; refine x_seq (x_region ?_))
  (refine r_op ?_)
  refine o_build rfl (by rfl) rfl ?_
  (refine r_op ?_)
  refine o_boxA (vs := [.pointer none, .pointer none, .pointer none, .pointer none]) rfl rfl (fun r => ?_)
  (refine r_op (o_assign rfl rfl ?_); refine r_nil ?_; refine x_seq ?_; refine x_seq (x_region ?_); refine r_op (o_move rfl rfl ?_); refine r_nil ?_; refine x_block ?_)
  have hnil : ∀ (Γ : List HP), Ent Γ (Parts (RG b) [] :: Γ) := fun Γ => (Ent.sep_in ([] : List HP) Γ)
  refine x_loop (α := Nat × List (Nat × Sh) × List (List UInt8)) (fun q => q.1 ≤ 4 ∧ q.2.1.length = q.1 ∧ q.2.1.map Prod.snd = (ssOf first (ess.map compact)).take q.1 ∧ Calm q.2.2 ∧ (∀ k es, ess[k]? = some es → Holds (128 * 2 ^ k) (if k < q.1 then compact es else es) (q.2.2.getD (first + k) [])))
    (fun q => [(0, dp b), (1, .int .i64 first), (6, dp r), (20, .int .i64 q.1)]) (fun q => Row r 0 (rpv q.2.1 ++ List.replicate (4 - q.1) (.pointer none)) :: Parts (RG b) q.2.1 :: DiskI b (newD q.2.2) :: Γ) (fun q => 4 - q.1) (0, [], bs)
    ⟨Nat.zero_le _, rfl, rfl, hc, fun k es hk => by rw [if_neg (by simp)]; exact hR.hh k es hk⟩ ⟨rfl, rfl, rfl, rfl, trivial⟩ ((hnil _).trans (Ent.perm (.swap _ _ _))) ?_
  rintro ⟨k, xs, bs⟩ ⟨hk, hx1, hx2, hc, hh⟩ back
  dsimp only at hk hx1 hx2 hc hh back ⊢
  (refine x_seq (x_region ?_))
  by_cases h : k < 4
  · obtain ⟨es, hes⟩ : ∃ es, ess[k]? = some es := ⟨ess[k]'(by rw [hR.h4]; exact h), List.getElem?_eq_getElem _⟩
    have hhk := hh k es hes
    rw [if_neg (by omega)] at hhk
    obtain ⟨hfit, hn1, hn2⟩ := k4_facts h
    (refine r_op (o_lss_t rfl rfl (by omega) rfl ?_); refine r_nil ?_; refine x_seq ?_; refine x_true rfl ?_; refine x_skip ?_; refine x_seq ?_; refine x_block ?_; refine x_seq (x_region ?_); refine r_op (o_move rfl rfl ?_); refine r_op (o_assign rfl rfl ?_); refine r_nil ?_; refine x_seq (x_region ?_); refine r_op (o_move rfl rfl ?_))
    (refine r_op ?_)
    refine o_call rfl (slot_spec k) rfl ?_
    rintro v B ⟨rfl, rfl⟩
    rw [if_neg (by omega), Int.toNat_natCast]
    (simp only [List.nil_append])
    (refine r_op (o_move rfl rfl ?_); refine r_op (o_extract rfl rfl rfl ?_); refine r_op (o_extract rfl rfl rfl ?_); refine r_op (o_assign rfl rfl ?_); refine r_op (o_assign rfl rfl ?_); refine r_nil ?_; refine x_seq (x_region ?_); refine r_op (o_move rfl rfl ?_); refine r_op (o_move rfl rfl ?_); refine r_op (o_move rfl rfl ?_); refine r_op (o_add rfl rfl (add_i64 (by omega)) rfl ?_); refine r_op (o_move rfl rfl ?_))
    (refine r_op ?_)
    refine o_call rfl (openC_spec b hc (f := first + k) (by omega) hfit hhk) rfl ?_
    rintro v B ⟨ps, b', rfl, rfl, hH2⟩
    (simp only [List.cons_append, List.nil_append])
    (refine r_op (o_move rfl rfl ?_); refine r_op (o_extract rfl rfl rfl ?_); refine r_op (o_extract rfl rfl rfl ?_); refine r_op (o_assign rfl rfl ?_); refine r_op (o_assign rfl rfl ?_); refine r_nil ?_; refine x_seq ?_; refine x_seq (x_region ?_); refine r_op (o_move rfl rfl ?_); refine r_op (o_neq_f rfl rfl (by omega) rfl ?_); refine r_nil ?_; refine x_false rfl ?_; refine x_skip ?_; refine x_region ?_; refine r_op (o_move rfl rfl ?_); refine r_op (o_move rfl rfl ?_); refine r_op (o_move rfl rfl ?_); refine r_op (o_nilCheck rfl rfl ?_); refine r_op (o_fieldAddr rfl rfl ?_))
    (refine r_op ?_)
    refine o_indexA rfl rfl (j := k) rfl h rfl ?_
    have hLl : (rpv xs ++ List.replicate (4 - k) (Value.pointer none)).length = 4 := by simp [hx1]; omega
    (refine r_do ?_)
    refine o_storeI (i := k) rfl rfl rfl (by omega) (by rw [hLl]; simpa [Nat.blt_eq] using h) ?_
    have hset : (rpv xs ++ List.replicate (4 - k) (Value.pointer none)).set k (dp ps) = rpv (xs ++ [(ps, ⟨first + k, 128 * 2 ^ k, compact es, false⟩)]) ++ List.replicate (4 - (k + 1)) (Value.pointer none) := by
      rw [List.set_append_right _ _ (by simp [hx1]), show 4 - k = (4 - (k + 1)) + 1 by omega, List.replicate_succ]
      simp [hx1, rpv]
    rw [hset]
    (refine r_nil ?_; refine x_inBlock ?_; refine x_region ?_; refine r_op (o_add rfl rfl (add_i64 (by omega)) rfl ?_); refine r_op (o_move rfl rfl ?_); refine r_nil ?_)
    refine x_mem (Γ' := Row r 0 (rpv (xs ++ [(ps, ⟨first + k, 128 * 2 ^ k, compact es, false⟩)]) ++ List.replicate (4 - (k + 1)) (Value.pointer none)) :: Parts (RG b) (xs ++ [(ps, ⟨first + k, 128 * 2 ^ k, compact es, false⟩)]) :: DiskI b (newD (bs.set (first + k) b')) :: Γ)
      ((Sub.h (Δ := Parts (RG b) xs :: ShelfI ps b ⟨first + k, 128 * 2 ^ k, compact es, false⟩ :: Row r 0 (rpv (xs ++ [(ps, ⟨first + k, 128 * 2 ^ k, compact es, false⟩)]) ++ List.replicate (4 - (k + 1)) (Value.pointer none)) :: DiskI b (newD (bs.set (first + k) b')) :: Γ)).trans ((Ent.snocP xs (ps, ⟨first + k, 128 * 2 ^ k, compact es, false⟩) _).trans (Ent.perm (.swap _ _ _)))) ?_
    refine x_weak (back (k + 1, xs ++ [(ps, ⟨first + k, 128 * 2 ^ k, compact es, false⟩)], bs.set (first + k) b') ⟨by dsimp only; omega, by simp [hx1], by
      dsimp only
      rw [List.map_append, hx2, List.take_add_one, ssOf_get (es := compact es) (by rw [List.getElem?_map, hes]; rfl)]; rfl, hc.set _ (hH2.size ⟨hn1, hn2⟩), fun j es' hj => by
      dsimp only
      by_cases e : k = j
      · subst e
        obtain rfl : es' = es := Option.some.inj (hj.symm.trans hes)
        rw [if_pos (by omega), getD_set hc.h8 (by omega)]; exact hH2
      · rw [getD_set_ne (by omega)]
        have := hh j es' hj
        by_cases e2 : j < k
        · rw [if_pos e2] at this; rw [if_pos (by omega)]; exact this
        · rw [if_neg e2] at this; rw [if_neg (by omega)]; exact this⟩ (by dsimp only; omega)) (by (repeat' (first | exact trivial | refine ⟨rfl, ?_⟩))) Sub.h
  · obtain rfl : k = 4 := by omega
    have hcl : (ess.map compact).length = 4 := by rw [List.length_map]; exact hR.h4
    rw [List.take_of_length_le (by rw [ssOf_len]; omega)] at hx2
    (refine r_op (o_lss_f rfl rfl (by omega) rfl ?_); refine r_nil ?_; refine x_seq ?_; refine x_false rfl ?_; refine x_exit rfl ?_; refine x_seq (x_region ?_); refine r_op (o_move rfl rfl ?_); refine r_op (o_assign rfl rfl ?_); refine r_op (o_assign rfl rfl ?_); refine r_nil ?_)
    refine x_ret rfl [RackI r b (ssOf first (ess.map compact)), DiskI b (newD bs)] ⟨r, bs, rfl, rfl, hc, hcl, hf, fun k es hk => ?_⟩ ?_
    · rw [List.getElem?_map, Option.map_eq_some_iff] at hk
      obtain ⟨es', he, rfl⟩ := hk
      have hk4 : k < 4 := by have := (List.getElem?_eq_some_iff.1 he).1; have := hR.h4; omega
      have := hh k es' he
      rw [if_pos hk4] at this; exact this
    · have h1 : rpv xs ++ List.replicate (4 - 4) (Value.pointer none) = rpv xs := by simp
      rw [h1]
      exact Ent.rack xs ⟨hx2, hx1⟩ _
end Go.Proofs.Ythneebbmodkjiaa


namespace Go.Proofs.Ythneebbmodkjiaa
open Go.Proofs

theorem rputC_spec (r b : Nat) {bs : List (List UInt8)} (hc : Calm bs) {first : Nat} {ess : List (List En)} (hR : HoldsR first ess bs) {t : Tx} {k : Nat} {es : List En} (hk : ess[k]? = some es) (hz : sizeOf t.length = ((k : Int), 0)) (ht : t.length + 16 ≤ 128 * 2 ^ k) (h128 : ff es < 128) :
    Spec Try.prog 82 [dp r, tv t] [RackI r b (ssOf first ess), DiskI b (newD bs)] (fun v B => ∃ bs', v = .tuple #[refV ((k : Int), (ff es : Int)), .int .i64 0] ∧ B = [RackI r b (ssOf first (ess.set k (putAt es (ff es) t))), DiskI b (newD bs')] ∧ Calm bs' ∧ HoldsR first (ess.set k (putAt es (ff es) t)) bs') := by
  have hk4 : k < 4 := by have := (List.getElem?_eq_some_iff.1 hk).1; have := hR.h4; omega
  obtain ⟨hfit, hn1, hn2⟩ := k4_facts hk4
  have hf := hR.hf
  obtain ⟨b', h1, h2⟩ := put_new hc (f := first + k) (by omega) ⟨hn1, hn2⟩ (hR.hh k es hk) ht h128
  have he : rput (ssOf first ess) (newD bs) t = (ssOf first (ess.set k (putAt es (ff es) t)), newD (bs.set (first + k) b'), ((k : Int), (ff es : Int)), 0) := by
    unfold rput
    rw [ssOf_fail, hz]
    dsimp only
    rw [Int.toNat_natCast, show (ssOf first ess).getD k sh0 = ⟨first + k, 128 * 2 ^ k, es, false⟩ by rw [List.getD_eq_getElem?_getD, ssOf_get hk]; rfl, h1]
    dsimp only
    rw [ssOf_set]; rfl
  refine (rput_spec r b (ssOf first ess) (newD bs) t hc.okn (by decide) (fun s hs => ⟨(hR.mem s hs).1, by have := (hR.mem s hs).2; omega⟩) (by omega)).mono ?_
  rw [he]
  rintro v B ⟨rfl, rfl⟩
  exact ⟨_, rfl, rfl, hc.set _ (h2.size ⟨hn1, hn2⟩), hR.put hc hk4 h2⟩
theorem rputL_spec (r b : Nat) {bs : List (List UInt8)} (hc : Calm bs) {first : Nat} {ess : List (List En)} (hR : HoldsR first ess bs) {t : Tx} (hz : sizeOf t.length = (0, 2)) (ht : t.length ≤ 2 ^ 62) :
    Spec Try.prog 82 [dp r, tv t] [RackI r b (ssOf first ess), DiskI b (newD bs)] (fun v B => v = .tuple #[refV (0, 0), .int .i64 2] ∧ B = [RackI r b (ssOf first ess), DiskI b (newD bs)]) := by
  have he : rput (ssOf first ess) (newD bs) t = (ssOf first ess, newD bs, (0, 0), 2) := by
    unfold rput
    rw [ssOf_fail, hz]; rfl
  refine (rput_spec r b (ssOf first ess) (newD bs) t hc.okn (by decide) (fun s hs => ⟨(hR.mem s hs).1, by have := (hR.mem s hs).2; omega⟩) ht).mono ?_
  rw [he]
  rintro v B ⟨rfl, rfl⟩
  exact ⟨rfl, rfl⟩
theorem rdelC_spec (r b : Nat) {bs : List (List UInt8)} (hc : Calm bs) {first : Nat} {ess : List (List En)} (hR : HoldsR first ess bs) {k i : Nat} {es : List En} {t : Tx} (hk : ess[k]? = some es) (hi : es[i]? = some (some t)) :
    Spec Try.prog 84 [dp r, refV ((k : Int), (i : Int))] [RackI r b (ssOf first ess), DiskI b (newD bs)] (fun v B => ∃ bs', v = .int .i64 0 ∧ B = [RackI r b (ssOf first (ess.set k (es.set i none))), DiskI b (newD bs')] ∧ Calm bs' ∧ HoldsR first (ess.set k (es.set i none)) bs') := by
  have hk4 : k < 4 := by have := (List.getElem?_eq_some_iff.1 hk).1; have := hR.h4; omega
  obtain ⟨hfit, hn1, hn2⟩ := k4_facts hk4
  have hf := hR.hf
  have htx : Sh.txt ⟨first + k, 128 * 2 ^ k, es, false⟩ (i : Int) = some t := by
    unfold Sh.txt; rw [if_neg (by omega)]; simp [hi]
  obtain ⟨b', h1, h2, -⟩ := del_new hc (f := first + k) (by omega) ⟨hn1, hn2⟩ (hR.hh k es hk) htx
  rw [Int.toNat_natCast] at h1 h2
  have he : rdel (ssOf first ess) (newD bs) ((k : Int), (i : Int)) = (ssOf first (ess.set k (es.set i none)), newD (bs.set (first + k) b'), 0) := by
    unfold rdel rhas
    rw [ssOf_fail]
    dsimp only
    rw [if_neg (by simp), if_pos (by simp; omega), Int.toNat_natCast, show (ssOf first ess).getD k sh0 = ⟨first + k, 128 * 2 ^ k, es, false⟩ by rw [List.getD_eq_getElem?_getD, ssOf_get hk]; rfl, h1]
    dsimp only
    rw [ssOf_set]
  refine (rdel_spec r b (ssOf first ess) (newD bs) ((k : Int), (i : Int)) hc.okn (by decide) (fun s hs => ⟨(hR.mem s hs).1.2, by have := (hR.mem s hs).2; omega⟩)).mono ?_
  rw [he]
  rintro v B ⟨rfl, rfl⟩
  exact ⟨_, rfl, rfl, hc.set _ (h2.size ⟨hn1, hn2⟩), hR.put hc hk4 h2⟩
/-- Nothing lies there. -/
def rnone (ess : List (List En)) (at' : Int × Int) : Prop := rhas at' = false ∨ (rhas at' = true ∧ ∀ es, ess[at'.1.toNat]? = some es → at'.2 < 0 ∨ (es[at'.2.toNat]?).join = none)
theorem rnone_txt {es : List En} {f n : Nat} {i : Int} (h : i < 0 ∨ (es[i.toNat]?).join = none) : Sh.txt ⟨f, n, es, false⟩ i = none := by
  unfold Sh.txt
  rcases h with h | h
  · rw [if_pos h]
  · split
    · rfl
    · exact h
theorem rdelN_spec (r b : Nat) {bs : List (List UInt8)} (hc : Calm bs) {first : Nat} {ess : List (List En)} (hR : HoldsR first ess bs) {at' : Int × Int} (hn : rnone ess at') :
    Spec Try.prog 84 [dp r, refV at'] [RackI r b (ssOf first ess), DiskI b (newD bs)] (fun v B => v = .int .i64 3 ∧ B = [RackI r b (ssOf first ess), DiskI b (newD bs)]) := by
  have he : rdel (ssOf first ess) (newD bs) at' = (ssOf first ess, newD bs, 3) := by
    unfold rdel
    rw [ssOf_fail, if_neg (by simp)]
    rcases hn with hn | ⟨hh, hn⟩
    · rw [hn]; rfl
    · rw [if_pos hh]
      unfold rhas at hh
      simp only [Bool.and_eq_true, decide_eq_true_eq] at hh
      obtain ⟨k, hk⟩ : ∃ k : Nat, at'.1 = k := ⟨at'.1.toNat, by omega⟩
      rw [hk, Int.toNat_natCast] at hn ⊢
      obtain ⟨es, he⟩ : ∃ es, ess[k]? = some es := ⟨ess[k]'(by rw [hR.h4]; omega), List.getElem?_eq_getElem _⟩
      rw [show (ssOf first ess).getD k sh0 = ⟨first + k, 128 * 2 ^ k, es, false⟩ by rw [List.getD_eq_getElem?_getD, ssOf_get he]; rfl, del_none (rnone_txt (hn es he))]
      dsimp only
      rw [ssOf_set]
      congr 1
      refine congrArg _ (List.ext_getElem? fun i => ?_)
      rw [List.getElem?_set]
      split
      · rename_i e; subst e
        rw [he, if_pos (List.getElem?_eq_some_iff.1 he).1]
      · rfl
  refine (rdel_spec r b (ssOf first ess) (newD bs) at' hc.okn (by decide) (fun s hs => ⟨(hR.mem s hs).1.2, by have := (hR.mem s hs).2; omega⟩)).mono ?_
  rw [he]
  rintro v B ⟨rfl, rfl⟩
  exact ⟨rfl, rfl⟩
theorem rgetN {first : Nat} {ess : List (List En)} {bs : List (List UInt8)} (hR : HoldsR first ess bs) {at' : Int × Int} (hn : rnone ess at') : rget (ssOf first ess) at' = ([], 3) := by
  unfold rget
  rcases hn with hn | ⟨hh, hn⟩
  · rw [hn]; rfl
  · rw [if_pos hh]
    unfold rhas at hh
    simp only [Bool.and_eq_true, decide_eq_true_eq] at hh
    obtain ⟨k, hk⟩ : ∃ k : Nat, at'.1 = k := ⟨at'.1.toNat, by omega⟩
    rw [hk, Int.toNat_natCast] at hn ⊢
    obtain ⟨es, he⟩ : ∃ es, ess[k]? = some es := ⟨ess[k]'(by rw [hR.h4]; omega), List.getElem?_eq_getElem _⟩
    rw [show (ssOf first ess).getD k sh0 = ⟨first + k, 128 * 2 ^ k, es, false⟩ by rw [List.getD_eq_getElem?_getD, ssOf_get he]; rfl]
    unfold Sh.get
    rw [rnone_txt (hn es he)]
theorem rgetS {first : Nat} {ess : List (List En)} {k i : Nat} {es : List En} {t : Tx} (hk4 : k < 4) (hk : ess[k]? = some es) (hi : es[i]? = some (some t)) : rget (ssOf first ess) ((k : Int), (i : Int)) = (t, 0) := by
  unfold rget rhas
  dsimp only
  rw [if_pos (by simp; omega), Int.toNat_natCast, show (ssOf first ess).getD k sh0 = ⟨first + k, 128 * 2 ^ k, es, false⟩ by rw [List.getD_eq_getElem?_getD, ssOf_get hk]; rfl]
  unfold Sh.get Sh.txt
  rw [if_neg (by omega)]
  simp [hi]
/-! ### Words of the laws -/
theorem num11_spec (a : Int) : Spec Try.prog 81 [.int .i64 a] [] (fun v B => v = .int .i64 a ∧ B = []) := by
  refine Spec.of_ex Try.func81 rfl Try.ntmps81 rfl fun E cs Γ => ?_
  (simp only [argRho, List.nil_append])
  (refine x_seq (x_region ?_); refine r_op (o_assign rfl rfl ?_); refine r_nil ?_; refine x_seq (x_region ?_); refine r_op (o_move rfl rfl ?_); refine r_op (o_assign rfl rfl ?_); refine r_nil ?_)
  exact x_ret rfl [] ⟨rfl, rfl⟩ Sub.h
theorem rslot_spec (k : Nat) (hk : k < 4) : Spec Try.prog 92 [.int .i64 k] [] (fun v B => v = .int .i64 ((128 * 2 ^ k : Nat) : Int) ∧ B = []) := by
  refine Spec.of_ex Try.func92 rfl Try.ntmps92 rfl fun E cs Γ => ?_
  have hsh : (128 : Int) * 2 ^ (k : Int).toNat = ((128 * 2 ^ k : Nat) : Int) := by rw [Int.toNat_natCast]; simp
  have hn2 := (k4_facts hk).2.2
  (simp only [argRho, List.nil_append])
  (refine x_seq (x_region ?_); refine r_op (o_assign rfl rfl ?_); refine r_nil ?_; refine x_seq (x_region ?_); refine r_op (o_move rfl rfl ?_))
  (refine r_op ?_)
  refine o_shl rfl rfl ⟨by omega, by simp [IntKind.bits]; omega⟩ (by rw [hsh]; exact in_i64 (by omega)) rfl ?_
  rw [hsh]
  (refine r_op (o_assign rfl rfl ?_); refine r_nil ?_)
  exact x_ret rfl [] ⟨rfl, rfl⟩ Sub.h
theorem ref_same (at' : Int × Int) (w : World) : (Op.equal 98 (refV at') (refV at')).run Try.prog w = .ok true w := by
  have hS : Try.prog.underlying 98 = some (.struct (Try.prog.fieldsOf 98)) := by kernel_rfl
  have hp : Try.prog.stoodInHeld 98 = false := by kernel_rfl
  have u3 := Try.underlying3
  have z3 := Try.typeInfo3
  unfold refV
  rw [equal_one, run_equalIn_agg w 9999 98 _ _ hS hp]
  simp only [Program.fieldsOf, Try.underlying98]
  go_simp
theorem o_eqRef {X : Cx} {n : Nat} {ds : List Deferred} {ρ : Rho} {Γ : List HP} {Nx : Value → List HP → Prop} {d : Nat} {ty yt : TypeId} {x y : Operand} {at' : Int × Int} (hx : ev ρ x = some (refV at')) (hy : ev ρ y = some (refV at')) (hn : Nat.blt d n = true) (h : Nx (.bool true) Γ) :
    ExO Try.prog X n ds (some d) (.binOp .eql 98 x y yt) ty Nx ρ Γ :=
  o_value (by simp) hn fun ee o w hop hty he heL hs => ⟨_, w, Γ, eqlRun .eql hop (he _ _ hx) (he _ _ hy) (run_eqGuard_agg w .eql 98 x y _ _ (by kernel_rfl)) (by simp [binOp]) (ref_same at' w), hs, h⟩
theorem o_neqRef {X : Cx} {n : Nat} {ds : List Deferred} {ρ : Rho} {Γ : List HP} {Nx : Value → List HP → Prop} {d : Nat} {ty yt : TypeId} {x y : Operand} {at' : Int × Int} (hx : ev ρ x = some (refV at')) (hy : ev ρ y = some (refV at')) (hn : Nat.blt d n = true) (h : Nx (.bool false) Γ) :
    ExO Try.prog X n ds (some d) (.binOp .neq 98 x y yt) ty Nx ρ Γ :=
  o_value (by simp) hn fun ee o w hop hty he heL hs => ⟨_, w, Γ, eqlRun .neq hop (he _ _ hx) (he _ _ hy) (run_eqGuard_agg w .neq 98 x y _ _ (by kernel_rfl)) (by simp [binOp]) (ref_same at' w), hs, h⟩
end Go.Proofs.Ythneebbmodkjiaa


namespace Go.Proofs.Ythneebbmodkjiaa
open Go.Proofs

abbrev zt (n : Nat) : Tx := List.replicate n 0
theorem zt_bv (n : Nat) : zs [Value.int IntKind.u8 0] n = (zt n).map bv := by rw [zs_one]; simp [bv]
theorem zt_reads (a : Option Addr) (n : Nat) : Reads (Sl 1 a n n ((zt n).map bv)) 1 a n ((zt n).map bv) := Sl.reads 1 a n n ((zt n).map bv) (by rw [List.length_map, List.length_replicate, Nat.mul_one])
abbrev ess0 : List (List En) := List.replicate 4 []
theorem ess0_c : ess0.map compact = ess0 := rfl
theorem holdsR0 {first : Nat} (hf : first + 4 ≤ 8) : HoldsR first ess0 (List.replicate 8 []) := ⟨rfl, hf, fun k es hk => by
  have hk4 : k < 4 := by have := (List.getElem?_eq_some_iff.1 hk).1; simpa using this
  have he : es = [] := by
    have := List.mem_of_getElem? hk
    simpa using List.eq_of_mem_replicate this
  subst he
  rw [getD_0]
  exact holds_nil (by have := (k4_facts hk4).2.1; omega)⟩
theorem ropen0_spec (b first : Nat) (hf : first + 4 ≤ 8) :
    Spec Try.prog 80 [dp b, .int .i64 first] [DiskI b (newD (List.replicate 8 []))] (fun v B => ∃ r bs', v = .tuple #[dp r, .int .i64 0] ∧ B = [RackI r b (ssOf first ess0), DiskI b (newD bs')] ∧ Calm bs' ∧ HoldsR first ess0 bs') := by
  have := ropenC_spec b calm0 (holdsR0 hf)
  rwa [ess0_c] at this
theorem ropenBad_spec (d : Value) (first : Int) (h : first < 0 ∨ 4 < first) (A : List HP) : Spec Try.prog 80 [d, .int .i64 first] A (fun v B => v = .tuple #[.pointer none, .int .i64 1] ∧ B = A) := by
  refine Spec.of_ex Try.func80 rfl Try.ntmps80 rfl fun E cs Γ => ?_
  (simp only [argRho, Nat.reduceAdd])
  by_cases h1 : first < 0
  · (refine x_seq (x_region ?_); refine r_op (o_assign rfl rfl ?_); refine r_op (o_assign rfl rfl ?_); refine r_nil ?_; refine x_seq ?_; refine x_seq (x_region ?_); refine r_op (o_move rfl rfl ?_); refine r_op (o_lss_t rfl rfl (by omega) rfl ?_); refine r_op (o_move rfl rfl ?_); refine r_skip rfl rfl rfl ?_; refine r_skip rfl rfl rfl ?_; refine r_op (o_pick_t rfl rfl rfl ?_); refine r_nil ?_; refine x_true rfl ?_; refine x_seq (x_region ?_); refine r_op (o_assign rfl rfl ?_); refine r_op (o_assign rfl rfl ?_); refine r_nil ?_)
    exact x_ret rfl A ⟨rfl, rfl⟩ (.refl _)
  · (refine x_seq (x_region ?_); refine r_op (o_assign rfl rfl ?_); refine r_op (o_assign rfl rfl ?_); refine r_nil ?_; refine x_seq ?_; refine x_seq (x_region ?_); refine r_op (o_move rfl rfl ?_); refine r_op (o_lss_f rfl rfl (by omega) rfl ?_); refine r_op (o_move rfl rfl ?_); refine r_guard rfl (o_move rfl rfl ?_); refine r_guard rfl (o_gtr_t rfl rfl (by omega) rfl ?_); refine r_op (o_pick_f rfl rfl rfl ?_); refine r_nil ?_; refine x_true rfl ?_; refine x_seq (x_region ?_); refine r_op (o_assign rfl rfl ?_); refine r_op (o_assign rfl rfl ?_); refine r_nil ?_)
    exact x_ret rfl A ⟨rfl, rfl⟩ (.refl _)
theorem ropenNil_spec : Spec Try.prog 80 [.pointer none, .int .i64 0] [] (fun v B => v = .tuple #[.pointer none, .int .i64 1] ∧ B = []) := by
  refine Spec.of_ex Try.func80 rfl Try.ntmps80 rfl fun E cs Γ => ?_
  (simp only [argRho, Nat.reduceAdd, List.nil_append])
  (refine x_seq (x_region ?_); refine r_op (o_assign rfl rfl ?_); refine r_op (o_assign rfl rfl ?_); refine r_nil ?_; refine x_seq ?_; refine x_seq (x_region ?_); refine r_op (o_move rfl rfl ?_); refine r_op (o_lss_f rfl rfl (by omega) rfl ?_); refine r_op (o_move rfl rfl ?_); refine r_guard rfl (o_move rfl rfl ?_); refine r_guard rfl (o_gtr_f rfl rfl (by omega) rfl ?_); refine r_op (o_pick_f rfl rfl rfl ?_); refine r_nil ?_; refine x_false rfl ?_; refine x_skip ?_; refine x_seq (x_region ?_))
  (refine r_op ?_)
  refine o_build rfl (by rfl) rfl ?_
  (refine r_op ?_)
  refine o_boxA (vs := [.pointer none, .pointer none, .pointer none, .pointer none]) rfl rfl (fun r => ?_)
  (refine r_op (o_assign rfl rfl ?_); refine r_nil ?_; refine x_seq ?_; refine x_seq (x_region ?_); refine r_op (o_move rfl rfl ?_); refine r_nil ?_; refine x_block ?_)
  refine x_loop (α := Unit) (fun _ => True) (fun _ => [(0, .pointer none), (1, .int .i64 0), (6, dp r), (20, .int .i64 0)]) (fun _ => Row r 0 [.pointer none, .pointer none, .pointer none, .pointer none] :: Γ) (fun _ => 0) () trivial ⟨rfl, rfl, rfl, rfl, trivial⟩ (.refl _) ?_
  rintro - - back
  (refine x_seq (x_region ?_); refine r_op (o_lss_t rfl rfl (by omega) rfl ?_); refine r_nil ?_; refine x_seq ?_; refine x_true rfl ?_; refine x_skip ?_; refine x_seq ?_; refine x_block ?_; refine x_seq (x_region ?_); refine r_op (o_move rfl rfl ?_); refine r_op (o_assign rfl rfl ?_); refine r_nil ?_; refine x_seq (x_region ?_); refine r_op (o_move rfl rfl ?_))
  (refine r_op ?_)
  refine o_call rfl (slot_spec 0) rfl ?_
  rintro v B ⟨rfl, rfl⟩
  rw [show (if (0 : Int) < 0 ∨ (4 : Int) ≤ 0 then Value.tuple #[.int .i64 0, .int .i64 1] else Value.tuple #[.int .i64 ((128 * 2 ^ (0 : Int).toNat : Nat) : Int), .int .i64 0]) = Value.tuple #[.int .i64 128, .int .i64 0] from rfl]
  (simp only [List.nil_append])
  (refine r_op (o_move rfl rfl ?_); refine r_op (o_extract rfl rfl rfl ?_); refine r_op (o_extract rfl rfl rfl ?_); refine r_op (o_assign rfl rfl ?_); refine r_op (o_assign rfl rfl ?_); refine r_nil ?_; refine x_seq (x_region ?_); refine r_op (o_move rfl rfl ?_); refine r_op (o_move rfl rfl ?_); refine r_op (o_move rfl rfl ?_); refine r_op (o_add rfl rfl (add_i64 (by omega)) rfl ?_); refine r_op (o_move rfl rfl ?_))
  (refine r_op ?_)
  refine o_call rfl (openNil_spec 0 128) rfl ?_
  rintro v B ⟨rfl, rfl⟩
  (simp only [List.nil_append])
  (refine r_op (o_move rfl rfl ?_); refine r_op (o_extract rfl rfl rfl ?_); refine r_op (o_extract rfl rfl rfl ?_); refine r_op (o_assign rfl rfl ?_); refine r_op (o_assign rfl rfl ?_); refine r_nil ?_; refine x_seq ?_; refine x_seq (x_region ?_); refine r_op (o_move rfl rfl ?_); refine r_op (o_neq_t rfl rfl (by omega) rfl ?_); refine r_nil ?_; refine x_true rfl ?_; refine x_seq (x_region ?_); refine r_op (o_move rfl rfl ?_); refine r_op (o_assign rfl rfl ?_); refine r_op (o_assign rfl rfl ?_); refine r_nil ?_)
  exact x_ret rfl [] ⟨rfl, rfl⟩ Sub.h
theorem szf {n k : Nat} (h : sizeOf n = ((k : Int), 0)) (hk : k < 4) : n + 16 ≤ 128 * 2 ^ k := by
  rcases sizeOf_cases n with ⟨e, _⟩ | ⟨j, hj, e, h1, _⟩
  · rw [h] at e; cases e
  · rw [h] at e
    have := congrArg Prod.fst e
    dsimp only at this
    obtain rfl : k = j := by omega
    exact h1
theorem rlF_len : ∀ (ess : List (List En)) (k : Nat), (∀ es ∈ ess, es.length ≤ 128) → (rlF k ess).length ≤ 128 * ess.length
  | [], _, _ => Nat.le_refl _
  | es :: r, k, h => by
    have h1 := rlF_len r (k + 1) fun e he => h e (by simp [he])
    have h2 := live_len es 0
    have h3 := h es (by simp)
    show (tag k (live 0 es) ++ rlF (k + 1) r).length ≤ _
    rw [List.length_append, List.length_cons]
    unfold tag
    rw [List.length_map]; omega
theorem HoldsR.all {first : Nat} {ess : List (List En)} {bs : List (List UInt8)} (h : HoldsR first ess bs) : (rlF 0 ess).length ≤ 512 := by
  have := rlF_len ess 0 fun es he => by
    obtain ⟨k, hk⟩ := List.getElem?_of_mem he
    exact h.len hk
  rw [h.h4] at this; exact this
theorem rbytesC_spec (r b : Nat) {first : Nat} {ess : List (List En)} {bs : List (List UInt8)} (hR : HoldsR first ess bs) :
    Spec Try.prog 85 [dp r] [RackI r b (ssOf first ess)] (fun v B => v = .int .i64 (rbytes (rlF 0 ess)) ∧ B = [RackI r b (ssOf first ess)]) := by
  have := rbytes_spec r b (ssOf first ess) (by rw [ssOf_len]; exact hR.h4) (fun s hs => by have := (hR.mem s hs).2; omega) (by show (rlF 0 ((ssOf first ess).map (·.es))).length ≤ _; rw [ssOf_es]; have := hR.all; omega)
  rwa [show rls (ssOf first ess) = rlF 0 ess by show rlF 0 ((ssOf first ess).map (·.es)) = _; rw [ssOf_es]] at this
theorem rentriesC_spec (r b n : Nat) {first : Nat} {ess : List (List En)} {bs : List (List UInt8)} (hR : HoldsR first ess bs) (hn : 512 ≤ n ∧ n ≤ 2 ^ 40) :
    Spec Try.prog 89 [dp r, .int .i64 n] [RackI r b (ssOf first ess)] (fun v B => ∃ a c, v = .slice a (rlF 0 ess).length c ∧ B = [RackI r b (ssOf first ess), Sl 3 a (rlF 0 ess).length c ((rlF 0 ess).flatMap re)]) := by
  have := rentries_spec r b n (ssOf first ess) (fun s hs => by have := (hR.mem s hs).2; omega) (by show (rlF 0 ((ssOf first ess).map (·.es))).length ≤ _; rw [ssOf_es]; have := hR.all; omega) hn.2
  rwa [show rls (ssOf first ess) = rlF 0 ess by show rlF 0 ((ssOf first ess).map (·.es)) = _; rw [ssOf_es], List.take_of_length_le (by have := hR.all; omega)] at this
set_option maxHeartbeats 1600000 in
theorem wakes11_spec : Spec Try.prog 86 [] [] (fun v B => v = .bool true ∧ B = []) := by
  refine Spec.of_ex Try.func86 rfl Try.ntmps86 rfl fun E cs Γ => ?_
  (simp only [argRho, List.nil_append])
  (refine x_seq (x_region ?_); refine r_op (o_assign rfl rfl ?_); refine r_nil ?_; refine x_seq (x_region ?_))
  (refine r_op ?_)
  refine o_call rfl disk0_spec rfl ?_
  rintro v B ⟨b, rfl, rfl⟩
  (simp only [List.cons_append, List.nil_append])
  (refine r_op ?_)
  refine o_call rfl (ropen0_spec b 0 (by decide)) rfl ?_
  rintro v B ⟨r, bs, rfl, rfl, hc, hR⟩
  (simp only [List.cons_append, List.nil_append])
  (refine r_op (o_move rfl rfl ?_); refine r_op (o_extract rfl rfl rfl ?_); refine r_op (o_extract rfl rfl rfl ?_); refine r_op (o_assign rfl rfl ?_); refine r_op (o_assign rfl rfl ?_); refine r_nil ?_; refine x_seq ?_; refine x_seq (x_region ?_); refine r_op (o_move rfl rfl ?_))
  (refine r_op ?_)
  refine o_call rfl (num11_spec 0) rfl ?_
  rintro v B ⟨rfl, rfl⟩
  (simp only [List.nil_append])
  (refine r_op (o_neq_f rfl rfl (by omega) rfl ?_); refine r_op (o_move rfl rfl ?_); refine r_guard rfl (o_move rfl rfl ?_))
  (refine r_guard rfl ?_)
  refine o_peq (.inl rfl) rfl rfl (.inr rfl) rfl ?_
  (refine r_op (o_pick_f rfl rfl rfl ?_); refine r_nil ?_; refine x_false rfl ?_; refine x_skip ?_; refine x_seq (x_region ?_); refine r_op (o_move rfl rfl ?_))
  (refine r_op ?_)
  refine o_make rfl rfl (m := 200) rfl rfl (by rfl) (by decide) (by decide) rfl (fun a7 => ?_)
  rw [zt_bv]
  (refine r_op ?_)
  refine o_toStr rfl (zt_reads a7 200) rfl ?_
  (refine r_op ?_)
  refine o_call rfl (rputC_spec r b hc hR (k := 1) (es := []) (t := zt 200) rfl (by rw [List.length_replicate]; rfl) (by rw [List.length_replicate]; decide) (by decide)) rfl ?_
  rintro v B ⟨bs2, rfl, rfl, hc2, hR2⟩
  (simp only [List.cons_append, List.nil_append])
  (refine r_op (o_move rfl rfl ?_); refine r_op (o_extract rfl rfl rfl ?_); refine r_op (o_extract rfl rfl rfl ?_))
  (refine r_op ?_)
  refine o_alloc rfl (fun p3 => ?_)
  (refine r_do ?_)
  refine o_storeA (us := refC (1, 0)) rfl rfl rfl rfl rfl (Nat.le_refl 2) ?_
  refine r_mem (Ent.row_eq (us := refC (1, 0)) rfl _) ?_
  (refine r_op (o_assign rfl rfl ?_); refine r_nil ?_; refine x_seq (x_region ?_); refine r_op (o_move rfl rfl ?_))
  (refine r_op ?_)
  refine o_call rfl (num11_spec 0) rfl ?_
  rintro v B ⟨rfl, rfl⟩
  (simp only [List.nil_append])
  (refine r_op (o_eql_t rfl rfl (by omega) rfl ?_); refine r_op (o_move rfl rfl ?_))
  (refine r_guard rfl ?_)
  refine o_loadA (us := refC (1, 0)) rfl rfl rfl rfl rfl ?_
  (refine r_guard rfl ?_)
  refine o_build (cs := refC (1, 0)) rfl (by rfl) rfl ?_
  (refine r_guard rfl ?_)
  refine o_eqRef (at' := (1, 0)) rfl rfl rfl ?_
  (refine r_op (o_pick_t rfl rfl rfl ?_); refine r_op (o_move rfl rfl ?_); refine r_guard rfl (o_move rfl rfl ?_))
  (refine r_guard rfl ?_)
  refine o_call rfl (rbytesC_spec r b hR2) rfl ?_
  rintro v B ⟨rfl, rfl⟩
  rw [show rbytes (rlF 0 (ess0.set 1 (putAt [] (ff []) (zt 200)))) = 256 from rfl]
  (simp only [List.cons_append, List.nil_append])
  (refine r_guard rfl (o_eql_t rfl rfl (by omega) rfl ?_); refine r_op (o_pick_t rfl rfl rfl ?_); refine r_op (o_assign rfl rfl ?_); refine r_nil ?_)
  exact x_ret rfl [] ⟨rfl, rfl⟩ Sub.h
end Go.Proofs.Ythneebbmodkjiaa
