/- append, make, copy; structs; strings; calls. -/
import Derived.Test.YthneebbmodkjiaaSLe
namespace Go.Proofs.Ythneebbmodkjiaa
open Go.RowKit

theorem nextcap_le (newLen oldCap : Nat) (h : oldCap < newLen) : Builtin.nextslicecap newLen oldCap ≤ 2 * newLen + 192 := by
  unfold Builtin.nextslicecap
  have key : ∀ r c, c < newLen + (newLen + 768) / 4 + 1 → Builtin.growBy newLen r c ≤ newLen + (newLen + 768) / 4 := by
    intro r
    induction r with
    | zero => intro c hc; simp [Builtin.growBy]; omega
    | succ r ih =>
      intro c hc
      unfold Builtin.growBy
      split
      · omega
      · exact ih _ (by omega)
  split
  · omega
  · split
    · omega
    · have := key 4 oldCap (by omega); omega

theorem zeroCells_size (zero : Array Value) (m : Nat) : (Builtin.zeroCells zero m).size = m * zero.size := by simp [Builtin.zeroCells]

section ops
variable {P : Program} {X : Cx} {n : Nat} {ds : List Deferred} {ρ : Rho} {Γ : List HP} {Nx : Value → List HP → Prop} {d : Nat} {ty : TypeId}

theorem firstCells_run {A : HP} {Γ : List HP} {E : Env} {w : World} {s len cap : Nat} {a : Option Addr} {xs : List Value} (st : St E Γ w) (R : Reads A s a len xs) [H : Has Γ A] : (Builtin.firstCells s len (.slice a len cap)).run P w = .ok xs.toArray w := by
  rcases st.reads R with h0 | ⟨b, off, ha, hc⟩
  · have := R.1
    subst h0
    simp at this
    subst this
    cases a with
    | none => simp [Builtin.firstCells]
    | some a => simp [Builtin.firstCells, loadCells, loadCellsFrom]
  · subst ha
    simp only [Builtin.firstCells]
    exact loadCells_run R.1 hc

/-- No numbers' type (append of a made slice is another thing). -/
class NoInt (P : Program) (t : TypeId) : Prop where h : (∃ e, P.underlying t = some (.slice e)) ∨ P.underlying t = some .string
instance {t e s y : Nat} [T : TySlice P t e s y] : NoInt P t := ⟨.inl ⟨_, T.und.1⟩⟩
instance {t : Nat} [T : TyString P t] : NoInt P t := ⟨.inr T.h⟩

theorem St.sl_split {E : Env} {Δ : List HP} {w : World} {a : Option Addr} {s len cap : Nat} {xs : List Value} (st : St E (Sl s a len cap xs :: Δ) w) : xs.length = len * s ∧ len ≤ cap ∧
    ((a = none ∧ len = 0 ∧ cap = 0 ∧ xs = [] ∧ St E Δ w) ∨ ∃ b off junk, a = some ⟨b, off, none⟩ ∧ (xs ++ junk).length = cap * s ∧ St E (Row b off (xs ++ junk) :: Δ) w) := by
  obtain ⟨e, _, ⟨h1, r, hA, hr, dj, rfl⟩, W⟩ := st
  obtain ⟨g1, g2⟩ := Sl.len hA
  refine ⟨g1, g2, ?_⟩
  rcases hA with ⟨rfl, h2, h3, h4, rfl⟩ | ⟨b, off, junk, ha, q1, q2, q3, rfl⟩
  · exact .inl ⟨rfl, h2, h3, h4, e, r, hr, W.right dj⟩
  · exact .inr ⟨b, off, junk, ha, q2, e, _, ⟨_, r, rfl, hr, dj, rfl⟩, W⟩
theorem St.sl_join {E : Env} {Δ : List HP} {w : World} {b off s len cap : Nat} {xs junk : List Value} (h1 : xs.length = len * s) (h2 : (xs ++ junk).length = cap * s) (h3 : len ≤ cap) (st : St E (Row b off (xs ++ junk) :: Δ) w) : St E (Sl s (some ⟨b, off, none⟩) len cap xs :: Δ) w :=
  Ent.st (Ent.one (fun _ hh => .inr ⟨b, off, junk, rfl, h1, h2, h3, hh⟩) Δ) st

/-- append's own text, where the second operand is no number. -/
theorem append_text {w : World} {t t2 e s y : Nat} {base : Option Addr} {len cap m : Nat} {yv : Value} {new : Array Value} [T : TySlice P t e s y] [NI : NoInt P t2]
    (hlen : ∀ w, (Builtin.lenOf yv).run P w = .ok m w) (hnew : ∀ (w' : World), w'.heap = w.heap → (Builtin.firstCells s m yv).run P w' = .ok new w') (hy0 : 0 < y) (hb : (2 * (len + m) + 192) * y ≤ 2 ^ 48) (ty : TypeId)
    (old : Array Value) (hold : ∀ (w' : World), w'.heap = w.heap → (Builtin.firstCells s len (.slice base len cap)).run P w' = .ok old w') (zv : Value) (hz : ∃ i, P.info? e = some i ∧ i.zero = some zv) :
    (len + m ≤ cap ∧ (Builtin.append_ #[t, t2] ty #[.slice base len cap, yv]).run P w = ((match base with | some a => storeCells (a.add (len * s)) new.toList | none => pure ()) >>= fun _ => pure (Value.slice base (len + m) cap)).run P w) ∨
    (cap < len + m ∧ ∃ c, len + m ≤ c ∧ (Builtin.append_ #[t, t2] ty #[.slice base len cap, yv]).run P w = .ok (.slice (some ⟨w.heap.size, 0, none⟩) (len + m) c) (w.drew.alloc (.cells (old ++ new ++ Builtin.zeroCells zv.cells (c - (len + m))) e))) := by
  obtain ⟨hu, inf, hinf, hsz, hby⟩ := T.und
  obtain ⟨inf', hinf', hzero⟩ := hz
  rw [hinf] at hinf'; cases hinf'
  have hnw := hnew w rfl
  by_cases hfit : len + m ≤ cap
  · refine .inl ⟨hfit, ?_⟩
    rcases NI.h with ⟨e2, hu2⟩ | hu2 <;>
    · simp [Builtin.append_, underlying_run hu, underlying_run hu2, sizeOf_run hinf, hsz, hlen, hfit, hnw]
      cases base <;> simp
  · refine .inr ⟨by omega, len + m + (w.tape w.drawn (.appendCap (len + m) cap e)) % (2 ^ 63 - (len + m)), by omega, ?_⟩
    have hnc := nextcap_le (len + m) cap (by omega)
    have hle : ¬ (2 ^ 48 < Builtin.nextslicecap (len + m) cap * y) := by
      have := Nat.mul_le_mul_right y hnc; omega
    have hle' : ¬ (281474976710656 < Builtin.nextslicecap (len + m) cap * y) := hle
    have h1 := hnew w.drew rfl
    have h2 := hold w.drew rfl
    have hyne : ¬ y = 0 := by omega
    rcases NI.h with ⟨e2, hu2⟩ | hu2 <;>
    · simp [Builtin.append_, underlying_run hu, underlying_run hu2, sizeOf_run hinf, typeInfo_run hinf, hsz, hby, hlen, hfit, hyne, hle', Question.forced, Question.cut, h1, h2, zeroValue, hzero, newRow]

theorem zeroCells_zero (m : Nat) (zero : Array Value) : (Builtin.zeroCells zero m).toList.length = m * zero.size := by simp [Builtin.zeroCells]

/-- append(x, y...): x is owned, y may be read beside it. -/
theorem append_run {E : Env} {Δ : List HP} {w : World} {t t2 e s y : Nat} {a : Option Addr} {len cap m : Nat} {xs ys : List Value} {zv yv : Value} [T : TySlice P t e s y] [NI : NoInt P t2]
    (hz : ∃ i, P.info? e = some i ∧ i.zero = some zv) (hzs : zv.cells.size = s) (hy0 : 0 < y)
    (st : St E (Sl s a len cap xs :: Δ) w) (hlen : ∀ w, (Builtin.lenOf yv).run P w = .ok m w) (hym : ys.length = m * s)
    (hnew : ∀ (w' : World), w'.heap = w.heap → (Builtin.firstCells s m yv).run P w' = .ok ys.toArray w') (h1 : ys.all Value.oneCell' = true) (hb : (2 * (len + m) + 192) * y ≤ 2 ^ 48) (ty : TypeId) :
    ∃ a' cap' w', (Builtin.append_ #[t, t2] ty #[.slice a len cap, yv]).run P w = .ok (.slice a' (len + m) cap') w' ∧ len + m ≤ cap' ∧ St E (Sl s a' (len + m) cap' (xs ++ ys) :: Δ) w' := by
  obtain ⟨g1, g2, hcase⟩ := st.sl_split
  have hold : ∀ (w' : World), w'.heap = w.heap → (Builtin.firstCells s len (.slice a len cap)).run P w' = .ok xs.toArray w' := fun w' hw' => by
    have st' : St (Env.of w') (Sl s a len cap xs :: Δ) w' := by
      obtain ⟨_, h, sat, W⟩ := st
      refine ⟨⟨rfl, rfl, rfl⟩, h, sat, fun b x f hf => ?_⟩
      have := W b x f hf
      have hh : w'.heap[b]? = w.heap[b]? := by rw [hw']
      cases x with
      | some i => cases f with
        | own z => exact ⟨(World.cell?_of_block hh).trans this.1, (World.frozen?_of_block hh).trans this.2⟩
        | obj z => exact this
      | none => cases f with
        | own z => exact this
        | obj z => exact hh.trans this
    exact firstCells_run (P := P) (cap := cap) st' (Sl.reads s a len cap xs g1)
  rcases append_text (P := P) (t := t) (t2 := t2) (e := e) (s := s) (y := y) (w := w) (base := a) (cap := cap) hlen hnew hy0 hb ty xs.toArray hold zv hz with ⟨hfit, hr⟩ | ⟨hno, c, hc, hr⟩
  · rcases hcase with ⟨rfl, rfl, rfl, rfl, st0⟩ | ⟨b, off, junk, rfl, q2, st0⟩
    · obtain rfl : m = 0 := by omega
      simp at hym; subst hym
      exact ⟨none, 0, w, by rw [hr]; simp, by omega, by simpa using st⟩
    · have hjl : ys.length ≤ junk.length := by
        have : (len + m) * s ≤ cap * s := Nat.mul_le_mul_right s hfit
        rw [Nat.add_mul] at this
        simp at q2; omega
      obtain ⟨w', hr2, s1⟩ := storeCells_run (P := P) (off := off) ys xs.length w (fun B => B :: Δ) (xs ++ junk) E _ (UpdRow.here Δ b off _) st0 (by simp; omega) (fun v hv => List.all_eq_true.1 h1 v hv) (off + len * s) 0 (by omega)
      refine ⟨some ⟨b, off, none⟩, cap, w', ?_, hfit, ?_⟩
      · rw [hr]; simp [Addr.add_none, hr2]
      · have e1 : (xs ++ junk).take xs.length ++ ys ++ (xs ++ junk).drop (xs.length + ys.length) = (xs ++ ys) ++ junk.drop ys.length := by
          rw [List.take_left, ← List.drop_drop, List.drop_left]
        rw [e1] at s1
        exact St.sl_join (by simp [g1, hym, Nat.add_mul]) (by simp at q2 ⊢; omega) hfit s1
  · have st0 : St E Δ w := st.drop
    refine ⟨_, c, _, hr, hc, ?_⟩
    have s1 := st0.drew.alloc_row (xs ++ ys ++ (Builtin.zeroCells zv.cells (c - (len + m))).toList) e
    have e1 : (xs ++ ys ++ (Builtin.zeroCells zv.cells (c - (len + m))).toList).toArray = xs.toArray ++ ys.toArray ++ Builtin.zeroCells zv.cells (c - (len + m)) := by
      apply Array.ext'; simp
    rw [e1] at s1
    refine St.sl_join (by simp [g1, hym, Nat.add_mul]) ?_ hc s1
    have h3 := zeroCells_zero (c - (len + m)) zv.cells
    rw [hzs] at h3
    rw [List.length_append, h3, List.length_append, g1, hym, ← Nat.add_mul, ← Nat.add_mul]
    congr 1; omega
end ops
end Go.Proofs.Ythneebbmodkjiaa
