/- More operations: append, make, structs, strings. -/
import Derived.Test.YthneebbmodkjiaaSLf
namespace Go.Proofs.Ythneebbmodkjiaa
open Go.RowKit

/-- The owned slice with base a, taken out. -/
class TakeSl (Γ : List HP) (a : Option Addr) (s len cap : outParam Nat) (xs : outParam (List Value)) (Δ : outParam (List HP)) : Prop where
  h : Γ.Perm (Sl s a len cap xs :: Δ)
instance TakeSl.here (Γ : List HP) (a : Option Addr) (s len cap : Nat) (xs : List Value) : TakeSl (Sl s a len cap xs :: Γ) a s len cap xs Γ := ⟨.refl _⟩
instance (priority := low) TakeSl.there (B : HP) (Γ : List HP) (a : Option Addr) (s len cap : Nat) (xs : List Value) (Δ : List HP) [H : TakeSl Γ a s len cap xs Δ] : TakeSl (B :: Γ) a s len cap xs (B :: Δ) := ⟨(H.h.cons B).trans (.swap _ _ _)⟩

theorem St.env {E : Env} {Γ : List HP} {w w' : World} (st : St E Γ w) (hw : w'.heap = w.heap) : St (Env.of w') Γ w' := by
  obtain ⟨_, h, sat, W⟩ := st
  refine ⟨⟨rfl, rfl, rfl⟩, h, sat, fun b x f hf => ?_⟩
  have := W b x f hf
  have hh : w'.heap[b]? = w.heap[b]? := by rw [hw]
  cases x with
  | some i => cases f with
    | own z => exact ⟨(World.cell?_of_block hh).trans this.1, (World.frozen?_of_block hh).trans this.2⟩
    | obj z => exact this
  | none => cases f with
    | own z => exact this
    | obj z => exact hh.trans this

theorem Emp.intro (Γ : List HP) : Ent Γ (Emp :: Γ) := fun h s => ⟨h, ⟨PH.emp, h, rfl, s, PH.emp_disj h, (PH.emp_join h).symm⟩, fun _ _ _ x => x⟩
theorem row_nil (b off : Nat) : row b off [] = PH.emp := by
  funext k x; cases x <;> simp [row, PH.emp]
/-- A slice without room owns nothing. -/
theorem Sl.zero (s : Nat) (b off : Nat) : Sl s (some ⟨b, off, none⟩) 0 0 [] PH.emp := .inr ⟨b, off, [], rfl, by simp, by simp, Nat.le_refl _, by simp [row_nil]⟩
theorem Sl.nil (s : Nat) : Sl s none 0 0 [] PH.emp := .inl ⟨rfl, rfl, rfl, rfl, rfl⟩
theorem Ent.nilSl (s : Nat) (Γ : List HP) : Ent Γ (Sl s none 0 0 [] :: Γ) := (Emp.intro Γ).trans (Ent.one (fun _ h => h ▸ Sl.nil s) Γ)
theorem Ent.zeroSl (s b off : Nat) (Γ : List HP) : Ent Γ (Sl s (some ⟨b, off, none⟩) 0 0 [] :: Γ) := (Emp.intro Γ).trans (Ent.one (fun _ h => h ▸ Sl.zero s b off) Γ)

/-! ### Filling a struct or a row -/
def vcl : Value → List Value
  | .agg cs => cs.toList
  | v => [v]
theorem vcl_eq (v : Value) : vcl v = v.cells.toList := by cases v <;> rfl
def frcL : List Value → Option (List Value)
  | [] => some []
  | v :: vs => match frcL vs with
    | some us => some (v :: us)
    | none => none
theorem frcL_eq {vs us : List Value} (h : frcL vs = some us) : us = vs := by
  induction vs generalizing us with
  | nil => cases h; rfl
  | cons v vs ih =>
    unfold frcL at h
    split at h
    · rename_i ws hw; cases h; rw [ih hw]
    · cases h
/-- us laid over vs from off on. -/
def lay : List Value → Nat → List Value → List Value
  | v :: vs, off + 1, us => v :: lay vs off us
  | _ :: vs, 0, u :: us => u :: lay vs 0 us
  | vs, _, _ => vs
def fillL (place : Nat → Option (Nat × Nat)) (cells : List Value) : List (Nat × Value) → Option (List Value)
  | [] => frcL cells
  | (i, v) :: rest => match place i with
    | none => none
    | some (off, size) => match Nat.beq (vcl v).length size, Nat.ble (off + size) cells.length with
      | true, true => fillL place (lay cells off (vcl v)) rest
      | _, _ => none

theorem lay_length (us vs : List Value) (off : Nat) : (lay vs off us).length = vs.length := by
  induction vs, off, us using lay.induct with
  | case1 v vs off us ih => simp [lay, ih]
  | case2 v vs u us ih => simp [lay, ih]
  | case3 vs off us h1 h2 =>
    unfold lay
    split
    · exact (h1 _ _ _ rfl rfl).elim
    · exact (h2 _ _ _ _ rfl rfl rfl).elim
    · rfl
theorem lay_set (vs us : List Value) (u : Value) : ∀ (off : Nat), off < vs.length → lay vs off (u :: us) = (lay (vs.set off u) (off + 1) us) := by
  induction vs with
  | nil => intro off h; simp at h
  | cons v vs ih =>
    intro off h
    cases off with
    | zero => cases vs <;> simp [lay]
    | succ off => simp only [lay, List.set_cons_succ]; rw [ih off (by simpa using h)]
theorem lay_nil (vs : List Value) (off : Nat) : lay vs off [] = vs := by
  induction vs generalizing off with
  | nil => simp [lay]
  | cons v vs ih => cases off <;> simp [lay, ih]
theorem fold_lay (us : List Value) : ∀ (cs : Array Value) (off j : Nat), off + j + us.length ≤ cs.size →
    ((us.zipIdx j).foldl (fun (cs : Array Value) (x : Value × Nat) => cs.setIfInBounds (off + x.2) x.1) cs) = (lay cs.toList (off + j) us).toArray := by
  induction us with
  | nil => intro cs off j _; simp [lay_nil]
  | cons u us ih =>
    intro cs off j h
    simp only [List.length_cons] at h
    rw [List.zipIdx_cons, List.foldl_cons, ih _ off (j + 1) (by simp; omega), lay_set _ _ _ _ (by simp; omega)]
    congr 1
    simp [Nat.add_assoc]
theorem fillL_eq {place : Nat → Option (Nat × Nat)} : ∀ {parts : List (Nat × Value)} {cells cs : List Value}, fillL place cells parts = some cs → Instr.fill place cells.toArray parts = some cs.toArray := by
  intro parts
  induction parts with
  | nil => intro cells cs h; rw [frcL_eq h]; rfl
  | cons p rest ih =>
    intro cells cs h
    obtain ⟨i, v⟩ := p
    unfold fillL at h
    unfold Instr.fill
    cases hp : place i with
    | none => simp [hp] at h
    | some q =>
      obtain ⟨off, size⟩ := q
      simp only [hp] at h
      split at h
      · rename_i h1 h2
        have e1 : v.cells.size = size := by have := Nat.eq_of_beq_eq_true h1; rw [vcl_eq] at this; simpa using this
        have e2 := Nat.le_of_ble_eq_true h2
        simp only [e1]
        rw [if_neg (by simp; omega)]
        have e3 := fold_lay v.cells.toList cells.toArray off 0 (by simp; omega)
        rw [← Array.foldl_toList, Array.toList_zipIdx]
        simp only [Nat.add_zero] at e3
        rw [e3, ← vcl_eq]
        exact ih h
      · cases h

def structB (P : Program) (t : TypeId) (ps : List (Nat × Nat)) : Prop := ∃ fs, P.underlying t = some (.struct fs) ∧ fs.toList.mapM (fun (f : Field) => (P.info? f.type).map fun i => (f.offset, i.size)) = some ps
class TyStruct (P : Program) (t : TypeId) (ps : outParam (List (Nat × Nat))) : Prop where h : structB P t ps
def evP (ρ : Rho) : List (Nat × Operand) → Option (List (Nat × Value))
  | [] => some []
  | (i, x) :: xs => match ev ρ x with
    | some v => match evP ρ xs with
      | some vs => some ((i, v) :: vs)
      | none => none
    | none => none
theorem evP_eq {ρ : Rho} {e : Operand → Value} (he : ∀ x v, ev ρ x = some v → e x = v) : ∀ {xs : List (Nat × Operand)} {vs : List (Nat × Value)}, evP ρ xs = some vs → xs.map (fun (p : Nat × Operand) => (p.1, e p.2)) = vs := by
  intro xs
  induction xs with
  | nil => intro vs h; cases h; rfl
  | cons p xs ih =>
    intro vs h
    obtain ⟨i, x⟩ := p
    unfold evP at h
    cases h1 : ev ρ x with
    | none => simp [h1] at h
    | some v =>
      cases h2 : evP ρ xs with
      | none => simp [h1, h2] at h
      | some us => simp [h1, h2] at h; subst h; simp [he x v h1, ih h2]

theorem mapM_places {P : Program} : ∀ {fs : List Field} {ps : List (Nat × Nat)}, fs.mapM (fun (f : Field) => (P.info? f.type).map fun i => (f.offset, i.size)) = some ps →
    ∀ w, (fs.mapM (fun (f : Field) => do let z ← sizeOf f.type; pure (f.offset, z) : Field → Sem (Nat × Nat))).run P w = .ok ps w := by
  intro fs
  induction fs with
  | nil => intro ps h w; simp at h; subst h; simp
  | cons f fs ih =>
    intro ps h w
    rw [List.mapM_cons] at h
    cases h1 : P.info? f.type with
    | none => simp [h1] at h
    | some i =>
      cases h2 : fs.mapM (fun (f : Field) => (P.info? f.type).map fun i => (f.offset, i.size)) with
      | none => simp [h1, h2] at h
      | some qs =>
        simp [h1, h2] at h
        subst h
        rw [List.mapM_cons]
        simp only [Sem.run_bind, sizeOf_run h1, Result.andThen_ok, Sem.run_pure, ih h2]

section ops
variable {P : Program} {X : Cx} {n : Nat} {ds : List Deferred} {ρ : Rho} {Γ : List HP} {Nx : Value → List HP → Prop} {d : Nat} {ty : TypeId}

theorem o_build {t : Nat} {parts : List (Nat × Operand)} {vs : List (Nat × Value)} {zs cs : List Value} {ps : List (Nat × Nat)} [T : TyStruct P t ps] [Z : TyZero P t zs] (hx : evP ρ parts = some vs) (hf : fillL (ps[·]?) zs vs = some cs) (hn : Nat.blt d n = true)
    (h : Nx (.agg cs.toArray) Γ) : ExO P X n ds (some d) (.build t parts.toArray) ty Nx ρ Γ :=
  o_value (by simp) hn fun ee o w hop hty he heL hs => ⟨_, w, Γ, by
    obtain ⟨i, zv, hi, hz, rfl⟩ := Z.h
    obtain ⟨fs, hu, hm⟩ := T.h
    have h1 := mapM_places hm w
    have h2 := fillL_eq hf
    have h3 := evP_eq he hx
    have h4 : (fs.mapM (fun (f : Field) => do let z ← sizeOf f.type; pure (f.offset, z) : Field → Sem (Nat × Nat))).run P w = .ok ps.toArray w := by
      have e : fs.mapM (fun (f : Field) => do let z ← sizeOf f.type; pure (f.offset, z) : Field → Sem (Nat × Nat)) = List.toArray <$> fs.toList.mapM (fun (f : Field) => do let z ← sizeOf f.type; pure (f.offset, z) : Field → Sem (Nat × Nat)) := by
        rw [Array.mapM_eq_mapM_toList]
      rw [e, Sem.run_map, h1]; rfl
    have h5 : (List.map (fun x : Nat × Operand => (x.1, ee x.2)) parts) = vs := h3
    simp [execOp, hop, Instr.build, zeroValue, typeInfo_run hi, hz, underlying_run hu]
    simp at h4
    rw [h4]
    simp [h5]
    have h6 : (fun x => ps[x]?) = (fun (x : Nat) => ps[x]?) := rfl
    simp at h2
    rw [h2]; simp, hs, h⟩
theorem v_build {t : Nat} {parts : List (Nat × Operand)} {vs : List (Nat × Value)} {zs cs : List Value} {ps : List (Nat × Nat)} [T : TyStruct P t ps] [Z : TyZero P t zs] (hx : evP ρ parts = some vs) (hf : fillL (ps[·]?) zs vs = some cs) : OpV P (.build t parts.toArray) ty ρ Γ (.agg cs.toArray) :=
  ⟨by simp, fun ee o E w hop hty he heL hs => by
    obtain ⟨i, zv, hi, hz, rfl⟩ := Z.h
    obtain ⟨fs, hu, hm⟩ := T.h
    have h1 := mapM_places hm w
    have h2 := fillL_eq hf
    have h3 := evP_eq he hx
    have h4 : (fs.mapM (fun (f : Field) => do let z ← sizeOf f.type; pure (f.offset, z) : Field → Sem (Nat × Nat))).run P w = .ok ps.toArray w := by
      have e : fs.mapM (fun (f : Field) => do let z ← sizeOf f.type; pure (f.offset, z) : Field → Sem (Nat × Nat)) = List.toArray <$> fs.toList.mapM (fun (f : Field) => do let z ← sizeOf f.type; pure (f.offset, z) : Field → Sem (Nat × Nat)) := by
        rw [Array.mapM_eq_mapM_toList]
      rw [e, Sem.run_map, h1]; rfl
    have h5 : (List.map (fun x : Nat × Operand => (x.1, ee x.2)) parts) = vs := h3
    simp [execOp, hop, Instr.build, zeroValue, typeInfo_run hi, hz, underlying_run hu]
    simp at h4
    rw [h4]
    simp [h5]
    have h6 : (fun x => ps[x]?) = (fun (x : Nat) => ps[x]?) := rfl
    simp at h2
    rw [h2]; simp⟩
end ops
end Go.Proofs.Ythneebbmodkjiaa
