/- Part of a proof over the seat Ythneebbmodkjiaa: module K12. Its claim's last module says what is proved. -/
import Derived.Test.YthneebbmodkjiaaK9
import Derived.Test.YthneebbmodkjiaaG4
namespace Go.Proofs.Ythneebbmodkjiaa
open Go.Proofs

/-! ### Racks: plain laws of all that lies there -/
theorem rlF_cons (k : Nat) (es : List En) (r : List (List En)) : rlF k (es :: r) = tag k (live 0 es) ++ rlF (k + 1) r := rfl
theorem dropNil {α : Type} (l : List α) {i : Nat} (h : l.length ≤ i) : l.drop i = [] := List.drop_eq_nil_of_le h
theorem tag_len (k : Nat) (l : List (Nat × Tx)) : (tag k l).length = l.length := by simp [tag]
theorem tag_get {k : Nat} {l : List (Nat × Tx)} {i : Nat} {y : RE} (h : (tag k l)[i]? = some y) : y.1.1 = k ∧ l[i]? = some (y.1.2, y.2) := by
  unfold tag at h
  rw [List.getElem?_map, Option.map_eq_some_iff] at h
  obtain ⟨z, hz, rfl⟩ := h
  exact ⟨rfl, hz⟩
theorem live_del : ∀ (es : List En) (k j : Nat) (y : Nat × Tx), (live k es)[j]? = some y → k ≤ y.1 ∧ es[y.1 - k]? = some (some y.2) ∧ live k (es.set (y.1 - k) none) = (live k es).eraseIdx j
  | none :: es, k, j, y, h => by
    obtain ⟨h1, h2, h3⟩ := live_del es (k + 1) j y h
    rw [show y.1 - k = y.1 - (k + 1) + 1 by omega]
    exact ⟨by omega, h2, h3⟩
  | some t :: es, k, 0, y, h => by
    have h : some (k, t) = some y := h
    obtain rfl := Option.some.inj h
    rw [Nat.sub_self]
    exact ⟨Nat.le_refl _, rfl, rfl⟩
  | some t :: es, k, j + 1, y, h => by
    obtain ⟨h1, h2, h3⟩ := live_del es (k + 1) j y h
    rw [show y.1 - k = y.1 - (k + 1) + 1 by omega]
    refine ⟨by omega, h2, ?_⟩
    show (k, t) :: live (k + 1) (es.set (y.1 - (k + 1)) none) = _
    rw [h3]; rfl
theorem rlF_del : ∀ (ess : List (List En)) (k at' : Nat) (y : RE), (rlF k ess)[at']? = some y →
    k ≤ y.1.1 ∧ ∃ es, ess[y.1.1 - k]? = some es ∧ es[y.1.2]? = some (some y.2) ∧ rlF k (ess.set (y.1.1 - k) (es.set y.1.2 none)) = (rlF k ess).take at' ++ (rlF k ess).drop (at' + 1)
  | es :: r, k, at', y, h => by
    rw [rlF_cons] at h ⊢
    by_cases hlt : at' < (tag k (live 0 es)).length
    · rw [List.getElem?_append_left hlt] at h
      obtain ⟨h1, h2⟩ := tag_get h
      obtain ⟨-, h3, h4⟩ := live_del es 0 at' _ h2
      rw [Nat.sub_zero] at h3 h4
      rw [h1, Nat.sub_self]
      refine ⟨Nat.le_refl _, es, rfl, h3, ?_⟩
      rw [List.set_cons_zero, rlF_cons, h4]
      rw [tag_len] at hlt
      rw [List.take_append_of_le_length (by rw [tag_len]; omega), List.drop_append_of_le_length (by rw [tag_len]; omega)]
      rw [List.eraseIdx_eq_take_drop_succ]
      unfold tag
      rw [List.map_append, List.map_take, List.map_drop, List.append_assoc]
    · rw [List.getElem?_append_right (by omega)] at h
      obtain ⟨h1, es', h2, h3, h4⟩ := rlF_del r (k + 1) _ y h
      rw [show y.1.1 - k = y.1.1 - (k + 1) + 1 by omega]
      refine ⟨by omega, es', h2, h3, ?_⟩
      rw [List.set_cons_succ, rlF_cons, h4, List.take_append, List.drop_append, List.take_of_length_le (l := tag k (live 0 es)) (by omega), dropNil (tag k (live 0 es)) (by omega), List.nil_append, List.append_assoc]
      rw [show at' + 1 - (tag k (live 0 es)).length = at' - (tag k (live 0 es)).length + 1 by omega]
/-- Where a text is laid. -/
theorem rlF_put : ∀ (ess : List (List En)) (k i : Nat) (es : List En) (t : Tx), ess[i]? = some es →
    rlF k (ess.set i (putAt es (ff es) t)) = (rlF k ess).take ((rlF k (ess.take i)).length + ff es) ++ ((k + i, ff es), t) :: (rlF k ess).drop ((rlF k (ess.take i)).length + ff es)
  | e :: r, k, 0, es, t, h => by
    obtain rfl : e = es := Option.some.inj h
    have hf := ff_live e
    show tag k (live 0 (putAt e (ff e) t)) ++ rlF (k + 1) r = (tag k (live 0 e) ++ rlF (k + 1) r).take (0 + ff e) ++ ((k, ff e), t) :: (tag k (live 0 e) ++ rlF (k + 1) r).drop (0 + ff e)
    rw [live_put, Nat.zero_add, List.take_append_of_le_length (by rw [tag_len]; omega), List.drop_append_of_le_length (by rw [tag_len]; omega)]
    unfold tag
    rw [List.map_append, List.map_cons, List.map_take, List.map_drop, List.append_assoc, List.cons_append]
  | e :: r, k, i + 1, es, t, h => by
    have ih := rlF_put r (k + 1) i es t h
    rw [List.set_cons_succ, rlF_cons, ih, List.take_succ_cons, rlF_cons, rlF_cons, List.length_append]
    rw [List.take_append, List.drop_append, List.take_of_length_le (l := tag k (live 0 e)) (by omega), dropNil (tag k (live 0 e)) (by omega), List.nil_append, List.append_assoc]
    rw [show (tag k (live 0 e)).length + (rlF (k + 1) (r.take i)).length + ff es - (tag k (live 0 e)).length = (rlF (k + 1) (r.take i)).length + ff es by omega, show k + 1 + i = k + (i + 1) by omega]
/-- The way there. -/
theorem rlF_scan {ess : List (List En)} {i : Nat} {es : List En} (h : ess[i]? = some es) :
    (rlF 0 (ess.take i)).length + ff es ≤ (rlF 0 ess).length ∧ ∀ kk y, (rlF 0 ess)[kk]? = some y →
      (kk < (rlF 0 (ess.take i)).length → y.1.1 < i) ∧ ((rlF 0 (ess.take i)).length ≤ kk → kk < (rlF 0 (ess.take i)).length + ff es → y.1.1 = i ∧ y.1.2 = kk - (rlF 0 (ess.take i)).length) ∧
      (kk = (rlF 0 (ess.take i)).length + ff es → i ≤ y.1.1 ∧ (y.1.1 = i → y.1.2 ≠ ff es)) := by
  obtain ⟨hi, he⟩ := List.getElem?_eq_some_iff.1 h
  have hs := rls_split ess i 0 (by omega)
  rw [Nat.zero_add, List.drop_eq_getElem_cons hi, he, rlF_cons] at hs
  obtain ⟨A, hA⟩ : ∃ A, rlF 0 (ess.take i) = A := ⟨_, rfl⟩
  obtain ⟨C, hC⟩ : ∃ C, rlF (i + 1) (ess.drop (i + 1)) = C := ⟨_, rfl⟩
  have hAs : ∀ y ∈ A, y.1.1 < i := fun y hy => by
    rw [← hA] at hy
    have := rlF_shelf _ _ y hy
    simp at this; omega
  have hCs : ∀ y ∈ C, i + 1 ≤ y.1.1 := fun y hy => by
    rw [← hC] at hy
    exact (rlF_shelf _ _ y hy).1
  rw [hA, hC] at hs
  rw [hA, hs]
  have hf := ff_live es
  refine ⟨by simp only [List.length_append, tag_len]; omega, fun kk y hy => ⟨fun hk => ?_, fun h1 h2 => ?_, fun h1 => ?_⟩⟩
  · rw [List.getElem?_append_left hk] at hy
    exact hAs y (List.mem_of_getElem? hy)
  · rw [List.getElem?_append_right h1, List.getElem?_append_left (by rw [tag_len]; omega)] at hy
    obtain ⟨g1, g2⟩ := tag_get hy
    obtain ⟨g3, g4⟩ := live_lead es 0 (kk - A.length) (by omega)
    rw [List.getElem?_eq_getElem g3] at g2
    have := congrArg Prod.fst (Option.some.inj g2)
    rw [g4] at this
    exact ⟨g1, by simpa using this.symm⟩
  · subst h1
    rw [List.getElem?_append_right (by omega), Nat.add_sub_cancel_left] at hy
    by_cases hlt : ff es < (live 0 es).length
    · rw [List.getElem?_append_left (by rw [tag_len]; exact hlt)] at hy
      obtain ⟨g1, g2⟩ := tag_get hy
      rw [List.getElem?_eq_getElem hlt] at g2
      have g3 := live_gap es 0 hlt
      have := congrArg Prod.fst (Option.some.inj g2)
      exact ⟨by omega, fun _ e => g3 (by rw [this]; simpa using e)⟩
    · rw [List.getElem?_append_right (by rw [tag_len]; omega)] at hy
      have := hCs y (List.mem_of_getElem? hy)
      exact ⟨by omega, fun e => by omega⟩
/-- Numbered anew. -/
theorem rlF_renum : ∀ (ess : List (List En)) (j k : Nat) (y : RE), (rlF j ess)[k]? = some y →
    (rlF j (ess.map compact))[k]? = some ((y.1.1, ((rlF j ess).take k).countP (fun z => z.1.1 == y.1.1)), y.2)
  | es :: r, j, k, y, h => by
    rw [rlF_cons] at h ⊢
    rw [List.map_cons, rlF_cons]
    have hl : (live 0 (compact es)).length = (live 0 es).length := by rw [live_compact es 0 0]; simp
    by_cases hlt : k < (live 0 es).length
    · rw [List.getElem?_append_left (by rw [tag_len]; exact hlt)] at h
      rw [List.getElem?_append_left (by rw [tag_len, hl]; exact hlt), List.take_append_of_le_length (by rw [tag_len]; omega)]
      obtain ⟨h1, h2⟩ := tag_get h
      have hc : ((tag j (live 0 es)).take k).countP (fun z => z.1.1 == y.1.1) = k := by
        have : ∀ z ∈ (tag j (live 0 es)).take k, (z.1.1 == y.1.1) = true := fun z hz => by
          obtain ⟨i, hi⟩ := List.getElem?_of_mem (List.mem_of_mem_take hz)
          rw [(tag_get hi).1, h1]; simp
        rw [List.countP_eq_length.2 this, List.length_take, tag_len]; omega
      rw [hc]
      unfold tag
      rw [List.getElem?_map, live_compact es 0 0, List.getElem?_mapIdx, h2, h1]
      simp
    · rw [List.getElem?_append_right (by rw [tag_len]; omega), tag_len] at h
      have ih := rlF_renum r (j + 1) _ y h
      have hy := (rlF_shelf _ _ y (List.mem_of_getElem? h)).1
      rw [List.getElem?_append_right (by rw [tag_len, hl]; omega), tag_len, hl, ih, List.take_append, List.countP_append]
      have h0 : ((tag j (live 0 es)).take k).countP (fun z => z.1.1 == y.1.1) = 0 := by
        rw [List.countP_eq_zero]
        intro z hz
        obtain ⟨i, hi⟩ := List.getElem?_of_mem (List.mem_of_mem_take hz)
        rw [(tag_get hi).1]; simp; omega
      rw [h0, tag_len, Nat.zero_add]
theorem rlF_clen (ess : List (List En)) (k : Nat) : (rlF k (ess.map compact)).length = (rlF k ess).length := by
  induction ess generalizing k with
  | nil => rfl
  | cons es r ih =>
    rw [List.map_cons, rlF_cons, rlF_cons, List.length_append, List.length_append, ih, tag_len, tag_len, live_compact es 0 0]
    simp
/-- Nothing lies anywhere. -/
theorem rlF_none : ∀ (ess : List (List En)) (k : Nat), rlF k ess = [] → ∀ es ∈ ess, ∀ i : Nat, (es[i]?).join = none
  | e :: r, k, h, es, hes, i => by
    rw [rlF_cons, List.append_eq_nil_iff] at h
    rw [List.mem_cons] at hes
    rcases hes with rfl | hes
    · have hl : live 0 es = [] := by
        have := congrArg List.length h.1
        rw [tag_len] at this
        exact List.eq_nil_of_length_eq_zero this
      have key : ∀ (es : List En) (k : Nat), live k es = [] → ∀ i : Nat, (es[i]?).join = none := by
        intro es
        induction es with
        | nil => intro k _ i; simp
        | cons e es ih =>
          intro k hh i
          cases e with
          | some t => cases hh
          | none =>
            cases i with
            | zero => rfl
            | succ i => exact ih (k + 1) hh i
      exact key es 0 hl i
    · exact rlF_none r (k + 1) h.2 es hes i
end Go.Proofs.Ythneebbmodkjiaa

namespace Go.Proofs.Ythneebbmodkjiaa
open Go.Proofs

theorem part_agg {P : Program} {t s : Nat} [T : TyAgg P t s] (cs : Array Value) (off : Nat) (w : World) : (part t cs off).run P w = .ok (.agg (cs.extract off (off + s))) w := by
  obtain ⟨inf, hi, hsz⟩ := TyAgg.size (P := P) (t := t)
  simp [part, TyAgg.agg, sizeOf_run hi, hsz]
theorem part_cell {P : Program} {t : Nat} [T : TyCell P t] {cs : Array Value} {off : Nat} {v : Value} (hv : cs[off]? = some v) (w : World) : (part t cs off).run P w = .ok v w := by
  simp [part, TyCell.agg, hv]
theorem eqFields_ok {P : Program} {w : World} {d : Nat} {xs ys : Array Value} {f : Field} {fs : List Field} {a b : Value} (h1 : (part f.type xs f.offset).run P w = .ok a w) (h2 : (part f.type ys f.offset).run P w = .ok b w)
    (h3 : (Op.equalIn d f.type a b).run P w = .ok true w) (h4 : (Op.eqFields d xs ys fs).run P w = .ok true w) : (Op.eqFields d xs ys (f :: fs)).run P w = .ok true w := by
  unfold Op.eqFields
  split
  · simp [h1, h2, h3, h4]
  · exact h4
theorem re_same (a b : Int) (s : ByteArray) (w : World) : (Op.equal 109 (.agg #[.int .i64 a, .int .i64 b, .string s]) (.agg #[.int .i64 a, .int .i64 b, .string s])).run Try.prog w = .ok true w := by
  have hS : Try.prog.underlying 109 = some (.struct (Try.prog.fieldsOf 109)) := by kernel_rfl
  have hp : Try.prog.stoodInHeld 109 = false := by kernel_rfl
  have hS2 : Try.prog.underlying 98 = some (.struct (Try.prog.fieldsOf 98)) := by kernel_rfl
  have hp2 : Try.prog.stoodInHeld 98 = false := by kernel_rfl
  rw [equal_one, run_equalIn_agg w 9999 109 _ _ hS hp]
  simp only [Program.fieldsOf, Try.underlying109]
  refine eqFields_ok (part_agg _ _ _) (part_agg _ _ _) ?_ (eqFields_ok (part_cell (v := .string s) rfl _) (part_cell (v := .string s) rfl _) ?_ rfl)
  · rw [run_equalIn_agg w 9998 98 _ _ hS2 hp2]
    simp only [Program.fieldsOf, Try.underlying98]
    refine eqFields_ok (part_cell (v := .int .i64 a) rfl _) (part_cell (v := .int .i64 a) rfl _) ?_ (eqFields_ok (part_cell (v := .int .i64 b) rfl _) (part_cell (v := .int .i64 b) rfl _) ?_ rfl)
    · exact (run_equalIn_int w 9997 3 .i64 .i64 a a Try.underlying3).trans (by simp)
    · exact (run_equalIn_int w 9997 3 .i64 .i64 b b Try.underlying3).trans (by simp)
  · exact (run_equalIn_string w 9998 9 s s Try.underlying9).trans (by simp)
theorem v_neqRE {ρ : Rho} {Γ : List HP} {ty yt : TypeId} {x y : Operand} {z : RE} (hx : ev ρ x = some (.agg (re z).toArray)) (hy : ev ρ y = some (.agg (re z).toArray)) :
    OpV Try.prog (.binOp .neq 109 x y yt) ty ρ Γ (.bool false) :=
  ⟨by simp, fun ee o E w hop hty he heL hs =>
    eqlRun .neq hop (he _ _ hx) (he _ _ hy) (run_eqGuard_agg w .neq 109 x y _ _ (by kernel_rfl)) (by simp [binOp]) (re_same z.1.1 z.1.2 (bstr z.2) w)⟩
end Go.Proofs.Ythneebbmodkjiaa
