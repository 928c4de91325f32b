/- Rules for single operations. -/
import Derived.Test.YthneebbmodkjiaaSLb
import Derived.Laws.Bits
namespace Go.Proofs.Ythneebbmodkjiaa
open Go.RowKit

/-! ### Facts on types, found by instances -/
def cellB (d : TypeDesc) (i : TypeInfo) : Bool := match d with
  | .struct _ => false
  | .array _ _ => false
  | _ => i.size == 1
def aggB (d : TypeDesc) (i : TypeInfo) (s : Nat) : Bool := match d with
  | .struct _ => i.size == s
  | .array _ _ => i.size == s
  | _ => false
/-- A type of one cell. -/
class TyCell (P : Program) (t : TypeId) : Prop where h : ∃ d i, P.underlying t = some d ∧ P.info? t = some i ∧ cellB d i = true
/-- A struct or an array of so many cells. -/
class TyAgg (P : Program) (t : TypeId) (s : outParam Nat) : Prop where h : ∃ d i, P.underlying t = some d ∧ P.info? t = some i ∧ aggB d i s = true
/-- A slice's element, its cells, its bytes. -/
class TySlice (P : Program) (t : TypeId) (e s y : outParam Nat) : Prop where h : ∃ i, P.underlying t = some (.slice e) ∧ P.info? e = some i ∧ i.size = s ∧ i.bytes = y
class TyArray (P : Program) (t : TypeId) (m e s : outParam Nat) : Prop where h : ∃ i, P.underlying t = some (.array m e) ∧ P.info? e = some i ∧ i.size = s
/-- A struct's field: where it begins, its type. -/
class TyField (P : Program) (t : TypeId) (f : Nat) (off : outParam Nat) : Prop where h : ∃ fs fd i, P.underlying t = some (.struct fs) ∧ fs[f]? = some fd ∧ fd.offset = off ∧ P.info? fd.type = some i ∧ i.size ≠ 0
/-- A field of one cell that is read off a value. -/
class TyFieldV (P : Program) (t : TypeId) (f : Nat) (off : outParam Nat) : Prop where h : ∃ fs fd, P.underlying t = some (.struct fs) ∧ fs[f]? = some fd ∧ fd.offset = off ∧ TyCell P fd.type

section
variable {P : Program}
theorem TyCell.size {t : TypeId} [T : TyCell P t] : ∃ i, P.info? t = some i ∧ i.size = 1 := by
  obtain ⟨d, i, _, hi, h⟩ := T.h
  refine ⟨i, hi, ?_⟩
  cases d <;> first | cases h | simpa [cellB] using h
theorem TyCell.agg {t : TypeId} [T : TyCell P t] (w : World) : (isAgg t).run P w = .ok false w := by
  obtain ⟨d, i, hd, _, h⟩ := T.h
  simp only [isAgg, underlying, Sem.run_bind, run_program, Result.andThen_ok, hd, Sem.run_pure]
  cases d <;> first | cases h | rfl
theorem TyAgg.agg {t s : Nat} [T : TyAgg P t s] (w : World) : (isAgg t).run P w = .ok true w := by
  obtain ⟨d, i, hd, _, h⟩ := T.h
  simp only [isAgg, underlying, Sem.run_bind, run_program, Result.andThen_ok, hd, Sem.run_pure]
  cases d <;> first | cases h | rfl
theorem TyAgg.size {t s : Nat} [T : TyAgg P t s] : ∃ i, P.info? t = some i ∧ i.size = s := by
  obtain ⟨d, i, _, hi, h⟩ := T.h
  refine ⟨i, hi, ?_⟩
  cases d <;> first | cases h | simpa [aggB] using h
theorem TySlice.und {t e s y : Nat} [T : TySlice P t e s y] : P.underlying t = some (.slice e) ∧ ∃ i, P.info? e = some i ∧ i.size = s ∧ i.bytes = y := by
  obtain ⟨i, a, b, c, d⟩ := T.h
  exact ⟨a, i, b, c, d⟩
theorem TyArray.und {t m e s : Nat} [T : TyArray P t m e s] : P.underlying t = some (.array m e) ∧ ∃ i, P.info? e = some i ∧ i.size = s := by
  obtain ⟨i, a, b, c⟩ := T.h
  exact ⟨a, i, b, c⟩
theorem sizeOf_run {t : TypeId} {i : TypeInfo} (h : P.info? t = some i) (w : World) : (sizeOf t).run P w = .ok i.size w := by
  simp [sizeOf, typeInfo, h]
theorem underlying_run {t : TypeId} {d : TypeDesc} (h : P.underlying t = some d) (w : World) : (underlying t).run P w = .ok d w := by
  simp [underlying, h]
theorem typeInfo_run {t : TypeId} {i : TypeInfo} (h : P.info? t = some i) (w : World) : (typeInfo t).run P w = .ok i w := by
  simp [typeInfo, h]

theorem Addr.add_none (b o m : Nat) : (Addr.mk b o none).add m = ⟨b, o + m, none⟩ := by
  unfold Addr.add; split
  · subst_vars; rfl
  · rfl

/-- Reading so many cells. -/
theorem loadCellsFrom_run {b o : Nat} {w : World} : ∀ (m i : Nat) (acc : Array Value) (vs : List Value), vs.length = m → (∀ j v, vs[j]? = some v → w.cell? ⟨b, o + (i + j), none⟩ = some v) →
    (loadCellsFrom ⟨b, o, none⟩ i m acc).run P w = .ok (acc ++ vs.toArray) w := by
  intro m
  induction m with
  | zero => intro i acc vs hl _; have : vs = [] := List.length_eq_zero_iff.1 hl; subst this; simp [loadCellsFrom]
  | succ m ih =>
    intro i acc vs hl hc
    cases vs with
    | nil => simp at hl
    | cons v vs =>
      have h0 : w.cell? ⟨b, o + i, none⟩ = some v := by simpa using hc 0 v rfl
      simp only [loadCellsFrom, Sem.run_bind, run_load, Addr.add_none, h0, Result.andThen_ok]
      rw [ih (i + 1) (acc.push v) vs (by simpa using hl) (fun j u hj => by
        have := hc (j + 1) u (by simpa using hj)
        rw [show o + (i + 1 + j) = o + (i + (j + 1)) by omega]; exact this)]
      simp
theorem loadCells_run {b o m : Nat} {w : World} {vs : List Value} (hl : vs.length = m) (hc : ∀ j v, vs[j]? = some v → w.cell? ⟨b, o + j, none⟩ = some v) :
    (loadCells ⟨b, o, none⟩ m).run P w = .ok vs.toArray w := by
  unfold loadCells
  rw [loadCellsFrom_run m 0 #[] vs hl (fun j v hj => by simpa using hc j v hj)]
  simp
end

/-! ### Finding a part of the heap -/
class HasRow (Γ : List HP) (b : Nat) (off : outParam Nat) (vs : outParam (List Value)) : Prop where
  h : ∃ Δ, Γ.Perm (Row b off vs :: Δ)
instance HasRow.here (Γ : List HP) (b off : Nat) (vs : List Value) : HasRow (Row b off vs :: Γ) b off vs := ⟨Γ, .refl _⟩
instance (priority := low) HasRow.there (A : HP) (Γ : List HP) (b off : Nat) (vs : List Value) [H : HasRow Γ b off vs] : HasRow (A :: Γ) b off vs :=
  ⟨let ⟨Δ, p⟩ := H.h; ⟨A :: Δ, (p.cons A).trans (.swap _ _ _)⟩⟩

/-- The same with the row's contents changed: K. -/
class UpdRow (Γ : List HP) (b : Nat) (off : outParam Nat) (vs : outParam (List Value)) (K : outParam (HP → List HP)) : Prop where
  h : ∃ Δ, Γ.Perm (Row b off vs :: Δ) ∧ ∀ A, (A :: Δ).Perm (K A)
instance UpdRow.here (Γ : List HP) (b off : Nat) (vs : List Value) : UpdRow (Row b off vs :: Γ) b off vs (fun A => A :: Γ) := ⟨Γ, .refl _, fun _ => .refl _⟩
instance (priority := low) UpdRow.there (B : HP) (Γ : List HP) (b off : Nat) (vs : List Value) (K : HP → List HP) [H : UpdRow Γ b off vs K] : UpdRow (B :: Γ) b off vs (fun A => B :: K A) :=
  ⟨let ⟨Δ, p, q⟩ := H.h; ⟨B :: Δ, (p.cons B).trans (.swap _ _ _), fun A => (List.Perm.swap _ _ _).trans ((q A).cons B)⟩⟩

/-- One part taken out. -/
class Take (Γ : List HP) (A : HP) (Δ : outParam (List HP)) : Prop where
  h : Γ.Perm (A :: Δ)
instance Take.here (Γ : List HP) (A : HP) : Take (A :: Γ) A Γ := ⟨.refl _⟩
instance (priority := low) Take.there (B : HP) (Γ : List HP) (A : HP) (Δ : List HP) [H : Take Γ A Δ] : Take (B :: Γ) A (B :: Δ) := ⟨(H.h.cons B).trans (.swap _ _ _)⟩
/-- Several. -/
class Takes (Γ : List HP) (As : List HP) (Δ : outParam (List HP)) : Prop where
  h : Γ.Perm (As ++ Δ)
instance Takes.nil (Γ : List HP) : Takes Γ [] Γ := ⟨.refl _⟩
instance Takes.cons (Γ : List HP) (A : HP) (As : List HP) (Δ Θ : List HP) [H : Take Γ A Δ] [H' : Takes Δ As Θ] : Takes Γ (A :: As) Θ := ⟨H.h.trans (H'.h.cons A)⟩

theorem St.take {E : Env} {Γ As Δ : List HP} {w : World} [T : Takes Γ As Δ] (s : St E Γ w) : St E (As ++ Δ) w := s.perm T.h
theorem St.hasRow {E : Env} {Γ : List HP} {w : World} {b off : Nat} {vs : List Value} [H : HasRow Γ b off vs] (s : St E Γ w) {i : Nat} {v : Value} (h : vs[i]? = some v) :
    w.cell? ⟨b, off + i, none⟩ = some v ∧ w.frozen? ⟨b, off + i, none⟩ = false :=
  let ⟨_, p⟩ := H.h; (s.perm p).row_cell h
theorem St.updRow {E : Env} {Γ : List HP} {w : World} {b off : Nat} {vs : List Value} {K : HP → List HP} [H : UpdRow Γ b off vs K] (s : St E Γ w) {i : Nat} (v : Value) (h : i < vs.length) :
    St E (K (Row b off (vs.set i v))) (w.setCell ⟨b, off + i, none⟩ v) :=
  let ⟨_, p, q⟩ := H.h; ((s.perm p).row_set v h).perm (q _)

/-! ### Weakening -/
class Sub (Γ Δ : List HP) : Prop where
  h : Ent Γ Δ
instance (priority := high) Sub.same (Γ : List HP) : Sub Γ Γ := ⟨.refl _⟩
instance Sub.cons (Γ : List HP) (A : HP) (Δ Θ : List HP) [H : Take Γ A Δ] [H' : Sub Δ Θ] : Sub Γ (A :: Θ) := ⟨(Ent.perm H.h).trans (H'.h.cons A)⟩
instance (priority := high) Sub.app (Γ : List HP) (A : HP) (As Δ : List HP) [H : Sub Γ (A :: (As ++ Δ))] : Sub Γ ((A :: As) ++ Δ) := ⟨H.h⟩
instance (priority := high) Sub.app0 (Γ Δ : List HP) [H : Sub Γ Δ] : Sub Γ ([] ++ Δ) := ⟨H.h⟩
instance (priority := low) Sub.drop (Γ : List HP) (A : HP) (Δ : List HP) [H : Sub Γ Δ] : Sub (A :: Γ) Δ := ⟨(Ent.drop A Γ).trans H.h⟩
end Go.Proofs.Ythneebbmodkjiaa
