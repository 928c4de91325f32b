/- Slices of the call's own; slices that may be read. -/
import Derived.Test.YthneebbmodkjiaaSLd
namespace Go.Proofs.Ythneebbmodkjiaa
open Go.RowKit

/-- A slice that is owned: its elements' cells xs (s to each), spare room behind. -/
def Sl (s : Nat) (a : Option Addr) (len cap : Nat) (xs : List Value) : HP := fun h =>
  (a = none ∧ len = 0 ∧ cap = 0 ∧ xs = [] ∧ h = PH.emp) ∨
  ∃ b off junk, a = some ⟨b, off, none⟩ ∧ xs.length = len * s ∧ (xs ++ junk).length = cap * s ∧ len ≤ cap ∧ h = row b off (xs ++ junk)

/-- What may be read of a slice while A holds. -/
def Reads (A : HP) (s : Nat) (a : Option Addr) (len : Nat) (xs : List Value) : Prop :=
  xs.length = len * s ∧ ∀ h w, A h → Wd h w → len = 0 ∨ ∃ b off, a = some ⟨b, off, none⟩ ∧ ∀ i v, xs[i]? = some v → w.cell? ⟨b, off + i, none⟩ = some v

theorem Sl.len {s len cap : Nat} {a : Option Addr} {xs : List Value} {h : PH} (H : Sl s a len cap xs h) : xs.length = len * s ∧ len ≤ cap := by
  rcases H with ⟨_, rfl, rfl, rfl, _⟩ | ⟨b, off, junk, _, h1, _, h3, _⟩
  · simp
  · exact ⟨h1, h3⟩

theorem Sl.reads (s : Nat) (a : Option Addr) (len cap : Nat) (xs : List Value) (hl : xs.length = len * s) : Reads (Sl s a len cap xs) s a len xs := by
  refine ⟨hl, fun h w H W => ?_⟩
  rcases H with ⟨_, rfl, _, _, _⟩ | ⟨b, off, junk, rfl, h1, _, _, rfl⟩
  · exact .inl rfl
  · refine .inr ⟨b, off, rfl, fun i v hv => (W.row_cell ?_).1⟩
    rw [List.getElem?_append_left (List.getElem?_eq_some_iff.1 hv).1]; exact hv

/-- Where a cut of a slice begins. -/
def shA (s : Nat) (a : Option Addr) (cap lo : Nat) : Option Addr := if cap = lo then a else a.map (·.add (lo * s))

theorem Reads.sub {A : HP} {s len : Nat} {a : Option Addr} {xs : List Value} (R : Reads A s a len xs) (cap lo hi : Nat) (h1 : lo ≤ hi) (h2 : hi ≤ len) (h3 : len ≤ cap) :
    Reads A s (shA s a cap lo) (hi - lo) ((xs.drop (lo * s)).take ((hi - lo) * s)) := by
  obtain ⟨hl, R⟩ := R
  have hm : (hi - lo) * s + lo * s = hi * s := by rw [← Nat.add_mul, Nat.sub_add_cancel h1]
  have hm2 : hi * s ≤ len * s := Nat.mul_le_mul_right s h2
  refine ⟨by simp; omega, fun h w H W => ?_⟩
  by_cases e : hi = lo
  · exact .inl (by omega)
  · rcases R h w H W with h0 | ⟨b, off, rfl, hc⟩
    · omega
    · refine .inr ⟨b, off + lo * s, ?_, fun i v hv => ?_⟩
      · unfold shA; rw [if_neg (by omega)]; simp [Addr.add_none]
      · rw [List.getElem?_take] at hv
        split at hv
        · rw [List.getElem?_drop] at hv
          rw [Nat.add_assoc]; exact hc _ _ hv
        · cases hv

class Has (Γ : List HP) (A : HP) : Prop where
  h : ∃ Δ, Γ.Perm (A :: Δ)
instance Has.here (Γ : List HP) (A : HP) : Has (A :: Γ) A := ⟨Γ, .refl _⟩
instance (priority := low) Has.there (B : HP) (Γ : List HP) (A : HP) [H : Has Γ A] : Has (B :: Γ) A := ⟨let ⟨Δ, p⟩ := H.h; ⟨B :: Δ, (p.cons B).trans (.swap _ _ _)⟩⟩

theorem St.reads {E : Env} {Γ : List HP} {w : World} {A : HP} {s len : Nat} {a : Option Addr} {xs : List Value} [H : Has Γ A] (st : St E Γ w) (R : Reads A s a len xs) :
    len = 0 ∨ ∃ b off, a = some ⟨b, off, none⟩ ∧ ∀ i v, xs[i]? = some v → w.cell? ⟨b, off + i, none⟩ = some v := by
  obtain ⟨Δ, p⟩ := H.h
  obtain ⟨_, _, ⟨h1, r, hA, _, _, rfl⟩, W⟩ := st.perm p
  exact R.2 h1 w hA W.left

/-- The owned slice with base a, and how the state reads with it changed. -/
class UpdSl (Γ : List HP) (a : Option Addr) (s len cap : outParam Nat) (xs : outParam (List Value)) (K : outParam (HP → List HP)) : Prop where
  h : ∃ Δ, Γ.Perm (Sl s a len cap xs :: Δ) ∧ ∀ A, (A :: Δ).Perm (K A)
instance UpdSl.here (Γ : List HP) (a : Option Addr) (s len cap : Nat) (xs : List Value) : UpdSl (Sl s a len cap xs :: Γ) a s len cap xs (fun A => A :: Γ) := ⟨Γ, .refl _, fun _ => .refl _⟩
instance (priority := low) UpdSl.there (B : HP) (Γ : List HP) (a : Option Addr) (s len cap : Nat) (xs : List Value) (K : HP → List HP) [H : UpdSl Γ a s len cap xs K] : UpdSl (B :: Γ) a s len cap xs (fun A => B :: K A) :=
  ⟨let ⟨Δ, p, q⟩ := H.h; ⟨B :: Δ, (p.cons B).trans (.swap _ _ _), fun A => (List.Perm.swap _ _ _).trans ((q A).cons B)⟩⟩

section ops
variable {P : Program} {X : Cx} {n : Nat} {ds : List Deferred} {ρ : Rho} {Γ : List HP} {Nx : Value → List HP → Prop} {d : Nat} {ty : TypeId}

theorem o_indexR {A : HP} {t e s y : Nat} {x ix : Operand} {a : Option Addr} {len cap j : Nat} {xs : List Value} {kk : IntKind} {i : Int} [T : TySlice P t e s y] (hx : ev ρ x = some (.slice a len cap)) (hi : ev ρ ix = some (.int kk i)) (R : Reads A s a len xs) [H : Has Γ A]
    (hj : i = (j : Int)) (hlt : j < len) (hn : Nat.blt d n = true) (h : ∀ b off, a = some ⟨b, off, none⟩ → Nx (.pointer (some ⟨b, off + j * s, none⟩)) Γ) : ExO P X n ds (some d) (.indexAddr t x ix) ty Nx ρ Γ :=
  o_value (by simp) hn fun ee o w hop hty he heL hs => by
    rcases hs.reads R with h0 | ⟨b, off, ha, _⟩
    · omega
    · refine ⟨_, w, Γ, ?_, hs, h b off ha⟩
      obtain ⟨hu, inf, hi', hsz, _⟩ := T.und
      subst hj
      simp [execOp, hop, he x _ hx, he ix _ hi, ha, Instr.indexAt, asIntOf, underlying_run hu, sizeOf_run hi', hsz, hlt, Addr.add_none]

theorem o_loadR {A : HP} {t s : Nat} {x : Operand} {a : Option Addr} {b off o len i : Nat} {xs : List Value} {v : Value} [T : TyCell P t] (hx : ev ρ x = some (.pointer (some ⟨b, o, none⟩))) (R : Reads A s a len xs) [H : Has Γ A] (ha : a = some ⟨b, off, none⟩) (ho : o = off + i) (hv : xs[i]? = some v)
    (hn : Nat.blt d n = true) (h : Nx (v) Γ) : ExO P X n ds (some d) (.load t x) ty Nx ρ Γ :=
  o_loadC hx (fun E w s => by
    rcases s.reads R with h0 | ⟨b', off', ha', hc⟩
    · have := R.1; rw [h0] at this; simp at this; subst this; cases hv
    · rw [ha] at ha'; cases ha'; rw [ho]; exact hc _ _ hv) hn h
theorem o_loadAR {A : HP} {t s s' : Nat} {x : Operand} {a : Option Addr} {b off o len i : Nat} {xs us : List Value} [T : TyAgg P t s] (hx : ev ρ x = some (.pointer (some ⟨b, o, none⟩))) (R : Reads A s' a len xs) [H : Has Γ A] (ha : a = some ⟨b, off, none⟩) (ho : o = off + i)
    (hl : us.length = s) (hv : ∀ j v, us[j]? = some v → xs[i + j]? = some v)
    (hn : Nat.blt d n = true) (h : Nx (.agg us.toArray) Γ) : ExO P X n ds (some d) (.load t x) ty Nx ρ Γ :=
  o_loadAC hx hl (fun j v hj E w s => by
    rcases s.reads R with h0 | ⟨b', off', ha', hc⟩
    · have := R.1; rw [h0] at this; simp at this; subst this; have := hv _ _ hj; cases this
    · rw [ha] at ha'; cases ha'; rw [ho, Nat.add_assoc]; exact hc _ _ (hv _ _ hj)) hn h

theorem St.sl_set {E : Env} {Δ : List HP} {w : World} {a : Option Addr} {s len cap b off i : Nat} {xs : List Value} (v : Value) (st : St E (Sl s a len cap xs :: Δ) w) (ha : a = some ⟨b, off, none⟩) (hi : i < xs.length) :
    w.cell? ⟨b, off + i, none⟩ = some xs[i] ∧ w.frozen? ⟨b, off + i, none⟩ = false ∧ St E (Sl s a len cap (xs.set i v) :: Δ) (w.setCell ⟨b, off + i, none⟩ v) := by
  obtain ⟨e, _, ⟨h1, r, hA, hr, dj, rfl⟩, W⟩ := st
  rcases hA with ⟨h0, _⟩ | ⟨b', off', junk, ha', g1, g2, g3, rfl⟩
  · rw [ha] at h0; cases h0
  · rw [ha] at ha'; cases ha'
    have s1 : St E (Row b off (xs ++ junk) :: Δ) w := ⟨e, _, ⟨_, r, rfl, hr, dj, rfl⟩, W⟩
    have hc := s1.row_cell (i := i) (v := xs[i]) (by rw [List.getElem?_append_left hi]; exact List.getElem?_eq_getElem hi)
    have s2 := s1.row_set (i := i) v (by simp; omega)
    rw [List.set_append_left _ _ hi] at s2
    refine ⟨hc.1, hc.2, Ent.st (Ent.one (fun h hh => ?_) Δ) s2⟩
    exact .inr ⟨b, off, junk, ha, by simpa using g1, by simpa using g2, g3, hh⟩

theorem o_storeS {t : TypeId} {x y : Operand} {a : Option Addr} {b off o i s len cap : Nat} {xs : List Value} {v : Value} {K : HP → List HP} [T : TyCell P t] (hx : ev ρ x = some (.pointer (some ⟨b, o, none⟩))) (hy : ev ρ y = some v) (h1 : v.oneCell' = true) (ha : a = some ⟨b, off, none⟩)
    [H : UpdSl Γ a s len cap xs K] (ho : o = off + i) (hi : i < xs.length) (h : Nx undef (K (Sl s a len cap (xs.set i v)))) :
    ExO P X n ds none (.store t x y) ty Nx ρ Γ :=
  o_skip (by simp) fun e oo w hop hty he hs => by
    obtain ⟨inf, hinf, hsz⟩ := TyCell.size (P := P) (t := t)
    obtain ⟨Δ, p, q⟩ := H.h
    obtain ⟨c1, c2, c3⟩ := (hs.perm p).sl_set v ha hi
    subst ho
    refine ⟨_, _, ?_, c3.perm (q _), h⟩
    simp [execOp, hop, he x _ hx, he y _ hy, Instr.storeAt, Instr.sureAddr, storeVar, oneCell_cells h1, sizeOf_run hinf, hsz, storeCells, Addr.add_none, run_store _ _ _ _ _ h1, c1, c2]

/-! ### len -/
theorem o_lenS {t e s y : Nat} {x : Operand} {a : Option Addr} {len cap : Nat} [T : TySlice P t e s y] (hx : ev ρ x = some (.slice a len cap)) (hn : Nat.blt d n = true) (h : Nx (.int .i64 (len : Int)) Γ) :
    ExO P X n ds (some d) (.call ⟨.builtin .len, #[x], #[t]⟩) ty Nx ρ Γ :=
  o_value (by simp) hn fun ee o w hop hty he heL hs => ⟨_, w, Γ, by
    simp [execOp, hop, resolve, he x _ hx, invoke, builtin, Builtin.len_, underlying_run T.und.1, goInt], hs, h⟩
theorem v_lenS {t e s y : Nat} {x : Operand} {a : Option Addr} {len cap : Nat} [T : TySlice P t e s y] (hx : ev ρ x = some (.slice a len cap)) : OpV P (.call ⟨.builtin .len, #[x], #[t]⟩) ty ρ Γ (.int .i64 (len : Int)) :=
  ⟨by simp, fun ee o E w hop hty he heL hs => by
    simp [execOp, hop, resolve, he x _ hx, invoke, builtin, Builtin.len_, underlying_run T.und.1, goInt]⟩
class TyString (P : Program) (t : TypeId) : Prop where h : P.underlying t = some .string
theorem o_lenStr {t : Nat} {x : Operand} {s : ByteArray} [T : TyString P t] (hx : ev ρ x = some (.string s)) (hn : Nat.blt d n = true) (h : Nx (.int .i64 (s.size : Int)) Γ) :
    ExO P X n ds (some d) (.call ⟨.builtin .len, #[x], #[t]⟩) ty Nx ρ Γ :=
  o_value (by simp) hn fun ee o w hop hty he heL hs => ⟨_, w, Γ, by
    simp [execOp, hop, resolve, he x _ hx, invoke, builtin, Builtin.len_, underlying_run T.h, goInt], hs, h⟩
theorem v_lenStr {t : Nat} {x : Operand} {s : ByteArray} [T : TyString P t] (hx : ev ρ x = some (.string s)) : OpV P (.call ⟨.builtin .len, #[x], #[t]⟩) ty ρ Γ (.int .i64 (s.size : Int)) :=
  ⟨by simp, fun ee o E w hop hty he heL hs => by
    simp [execOp, hop, resolve, he x _ hx, invoke, builtin, Builtin.len_, underlying_run T.h, goInt]⟩
theorem o_min {x y : Operand} {ts : Array TypeId} {kk : IntKind} {a b : Int} (hx : ev ρ x = some (.int kk a)) (hy : ev ρ y = some (.int kk b)) (hn : Nat.blt d n = true) (h : Nx (.int kk (min a b)) Γ) :
    ExO P X n ds (some d) (.call ⟨.builtin .min, #[x, y], ts⟩) ty Nx ρ Γ :=
  o_value (by simp) hn fun ee o w hop hty he heL hs => ⟨_, w, Γ, by
    have : (if b < a then b else a) = min a b := by rw [Int.min_def]; split <;> split <;> omega
    simp [execOp, hop, resolve, he x _ hx, he y _ hy, invoke, builtin, Builtin.min_, Builtin.min2, this], hs, h⟩
theorem v_min {x y : Operand} {ts : Array TypeId} {kk : IntKind} {a b : Int} (hx : ev ρ x = some (.int kk a)) (hy : ev ρ y = some (.int kk b)) : OpV P (.call ⟨.builtin .min, #[x, y], ts⟩) ty ρ Γ (.int kk (min a b)) :=
  ⟨by simp, fun ee o E w hop hty he heL hs => by
    have : (if b < a then b else a) = min a b := by rw [Int.min_def]; split <;> split <;> omega
    simp [execOp, hop, resolve, he x _ hx, he y _ hy, invoke, builtin, Builtin.min_, Builtin.min2, this]⟩
theorem o_max {x y : Operand} {ts : Array TypeId} {kk : IntKind} {a b : Int} (hx : ev ρ x = some (.int kk a)) (hy : ev ρ y = some (.int kk b)) (hn : Nat.blt d n = true) (h : Nx (.int kk (max a b)) Γ) :
    ExO P X n ds (some d) (.call ⟨.builtin .max, #[x, y], ts⟩) ty Nx ρ Γ :=
  o_value (by simp) hn fun ee o w hop hty he heL hs => ⟨_, w, Γ, by
    have : (if a < b then b else a) = max a b := by rw [Int.max_def]; split <;> split <;> omega
    simp [execOp, hop, resolve, he x _ hx, he y _ hy, invoke, builtin, Builtin.max_, Builtin.max2, this], hs, h⟩

/-! ### Cuts -/
theorem v_max {x y : Operand} {ts : Array TypeId} {kk : IntKind} {a b : Int} (hx : ev ρ x = some (.int kk a)) (hy : ev ρ y = some (.int kk b)) : OpV P (.call ⟨.builtin .max, #[x, y], ts⟩) ty ρ Γ (.int kk (max a b)) :=
  ⟨by simp, fun ee o E w hop hty he heL hs => by
    have : (if a < b then b else a) = max a b := by rw [Int.max_def]; split <;> split <;> omega
    simp [execOp, hop, resolve, he x _ hx, he y _ hy, invoke, builtin, Builtin.max_, Builtin.max2, this]⟩
theorem sliceBound_run {kk : IntKind} {i : Int} {y : Nat} {c : BoundsCode} (j : Nat) (hj : i = (j : Int)) (hle : j ≤ y) (w : World) : (Instr.sliceBound (.int kk i) y c).run P w = .ok j w := by
  subst hj; simp [Instr.sliceBound, asIntOf, hle]
theorem o_slice {t e s y : Nat} {x lo hi : Operand} {a : Option Addr} {len cap jl jh : Nat} {k1 k2 : IntKind} {il ih : Int} [T : TySlice P t e s y] (hx : ev ρ x = some (.slice a len cap)) (hlo : ev ρ lo = some (.int k1 il)) (hhi : ev ρ hi = some (.int k2 ih))
    (h1 : il = (jl : Int)) (h2 : ih = (jh : Int)) (h3 : jl ≤ jh) (h4 : jh ≤ cap) (hn : Nat.blt d n = true) (h : Nx (.slice (shA s a cap jl) (jh - jl) (cap - jl)) Γ) :
    ExO P X n ds (some d) (.slice t x (some lo) (some hi) none) ty Nx ρ Γ :=
  o_value (by simp) hn fun ee o w hop hty he heL hs => ⟨_, w, Γ, by
    obtain ⟨hu, inf, hi', hsz, _⟩ := T.und
    simp [execOp, hop, he x _ hx, he lo _ hlo, he hi _ hhi, Instr.sliceAt, underlying_run hu, Instr.slice, Instr.sliceBounds, sliceBound_run jl h1 h3, sliceBound_run jh h2 h4, sizeOf_run hi', hsz, shA], hs, h⟩
theorem v_slice {t e s y : Nat} {x lo hi : Operand} {a : Option Addr} {len cap jl jh : Nat} {k1 k2 : IntKind} {il ih : Int} [T : TySlice P t e s y] (hx : ev ρ x = some (.slice a len cap)) (hlo : ev ρ lo = some (.int k1 il)) (hhi : ev ρ hi = some (.int k2 ih))
    (h1 : il = (jl : Int)) (h2 : ih = (jh : Int)) (h3 : jl ≤ jh) (h4 : jh ≤ cap) : OpV P (.slice t x (some lo) (some hi) none) ty ρ Γ (.slice (shA s a cap jl) (jh - jl) (cap - jl)) :=
  ⟨by simp, fun ee o E w hop hty he heL hs => by
    obtain ⟨hu, inf, hi', hsz, _⟩ := T.und
    simp [execOp, hop, he x _ hx, he lo _ hlo, he hi _ hhi, Instr.sliceAt, underlying_run hu, Instr.slice, Instr.sliceBounds, sliceBound_run jl h1 h3, sliceBound_run jh h2 h4, sizeOf_run hi', hsz, shA]⟩
theorem o_sliceLo {t e s y : Nat} {x lo : Operand} {a : Option Addr} {len cap jl : Nat} {k1 : IntKind} {il : Int} [T : TySlice P t e s y] (hx : ev ρ x = some (.slice a len cap)) (hlo : ev ρ lo = some (.int k1 il))
    (h1 : il = (jl : Int)) (h3 : jl ≤ len) (hn : Nat.blt d n = true) (h : Nx (.slice (shA s a cap jl) (len - jl) (cap - jl)) Γ) :
    ExO P X n ds (some d) (.slice t x (some lo) none none) ty Nx ρ Γ :=
  o_value (by simp) hn fun ee o w hop hty he heL hs => ⟨_, w, Γ, by
    obtain ⟨hu, inf, hi', hsz, _⟩ := T.und
    simp [execOp, hop, he x _ hx, he lo _ hlo, Instr.sliceAt, underlying_run hu, Instr.slice, Instr.sliceBounds, sliceBound_run jl h1 h3, sizeOf_run hi', hsz, shA], hs, h⟩
theorem v_sliceLo {t e s y : Nat} {x lo : Operand} {a : Option Addr} {len cap jl : Nat} {k1 : IntKind} {il : Int} [T : TySlice P t e s y] (hx : ev ρ x = some (.slice a len cap)) (hlo : ev ρ lo = some (.int k1 il))
    (h1 : il = (jl : Int)) (h3 : jl ≤ len) : OpV P (.slice t x (some lo) none none) ty ρ Γ (.slice (shA s a cap jl) (len - jl) (cap - jl)) :=
  ⟨by simp, fun ee o E w hop hty he heL hs => by
    obtain ⟨hu, inf, hi', hsz, _⟩ := T.und
    simp [execOp, hop, he x _ hx, he lo _ hlo, Instr.sliceAt, underlying_run hu, Instr.slice, Instr.sliceBounds, sliceBound_run jl h1 h3, sizeOf_run hi', hsz, shA]⟩
theorem shA_zero (s : Nat) (a : Option Addr) (cap : Nat) : shA s a cap 0 = a := by
  unfold shA; split
  · rfl
  · cases a <;> simp [Addr.add]
theorem o_sliceHi {t e s y : Nat} {x hi : Operand} {a : Option Addr} {len cap jh : Nat} {k2 : IntKind} {ih : Int} [T : TySlice P t e s y] (hx : ev ρ x = some (.slice a len cap)) (hhi : ev ρ hi = some (.int k2 ih))
    (h2 : ih = (jh : Int)) (h4 : jh ≤ cap) (hn : Nat.blt d n = true) (h : Nx (.slice a jh cap) Γ) :
    ExO P X n ds (some d) (.slice t x none (some hi) none) ty Nx ρ Γ :=
  o_value (by simp) hn fun ee o w hop hty he heL hs => ⟨_, w, Γ, by
    obtain ⟨hu, inf, hi', hsz, _⟩ := T.und
    have := shA_zero s a cap
    unfold shA at this
    simp [execOp, hop, he x _ hx, he hi _ hhi, Instr.sliceAt, underlying_run hu, Instr.slice, Instr.sliceBounds, sliceBound_run jh h2 h4, sizeOf_run hi', hsz]
    simpa using this, hs, h⟩
theorem v_sliceHi {t e s y : Nat} {x hi : Operand} {a : Option Addr} {len cap jh : Nat} {k2 : IntKind} {ih : Int} [T : TySlice P t e s y] (hx : ev ρ x = some (.slice a len cap)) (hhi : ev ρ hi = some (.int k2 ih))
    (h2 : ih = (jh : Int)) (h4 : jh ≤ cap) : OpV P (.slice t x none (some hi) none) ty ρ Γ (.slice a jh cap) :=
  ⟨by simp, fun ee o E w hop hty he heL hs => by
    obtain ⟨hu, inf, hi', hsz, _⟩ := T.und
    have := shA_zero s a cap
    unfold shA at this
    simp [execOp, hop, he x _ hx, he hi _ hhi, Instr.sliceAt, underlying_run hu, Instr.slice, Instr.sliceBounds, sliceBound_run jh h2 h4, sizeOf_run hi', hsz]
    simpa using this⟩
/-- x[:0:0] -/
theorem o_slice00 {t e s y : Nat} {x hi mx : Operand} {a : Option Addr} {len cap : Nat} {k2 k3 : IntKind} [T : TySlice P t e s y] (hx : ev ρ x = some (.slice a len cap)) (hhi : ev ρ hi = some (.int k2 0)) (hmx : ev ρ mx = some (.int k3 0))
    (hn : Nat.blt d n = true) (h : Nx (.slice a 0 0) Γ) :
    ExO P X n ds (some d) (.slice t x none (some hi) (some mx)) ty Nx ρ Γ :=
  o_value (by simp) hn fun ee o w hop hty he heL hs => ⟨_, w, Γ, by
    obtain ⟨hu, inf, hi', hsz, _⟩ := T.und
    simp [execOp, hop, he x _ hx, he hi _ hhi, he mx _ hmx, Instr.sliceAt, underlying_run hu, Instr.slice, Instr.sliceBounds, sliceBound_run (i := 0) 0 rfl (Nat.zero_le _), sizeOf_run hi', hsz], hs, h⟩
theorem v_slice00 {t e s y : Nat} {x hi mx : Operand} {a : Option Addr} {len cap : Nat} {k2 k3 : IntKind} [T : TySlice P t e s y] (hx : ev ρ x = some (.slice a len cap)) (hhi : ev ρ hi = some (.int k2 0)) (hmx : ev ρ mx = some (.int k3 0)) : OpV P (.slice t x none (some hi) (some mx)) ty ρ Γ (.slice a 0 0) :=
  ⟨by simp, fun ee o E w hop hty he heL hs => by
    obtain ⟨hu, inf, hi', hsz, _⟩ := T.und
    simp [execOp, hop, he x _ hx, he hi _ hhi, he mx _ hmx, Instr.sliceAt, underlying_run hu, Instr.slice, Instr.sliceBounds, sliceBound_run (i := 0) 0 rfl (Nat.zero_le _), sizeOf_run hi', hsz]⟩
/-- x == nil, x a slice. -/
theorem v_slnil {t yt e s y : Nat} {x z : Operand} {a : Option Addr} {len cap len' cap' : Nat} {op : BinOp} [T : TySlice P t e s y] (ho : op = .eql ∨ op = .neq) (hx : ev ρ x = some (.slice a len cap)) (hz : ev ρ z = some (.slice none len' cap')) :
    OpV P (.binOp op t x z yt) ty ρ Γ (.bool (if op = .neq then a.isSome else a.isNone)) :=
  ⟨by simp, fun ee o E w hop hty he heL hs => by
    have e : Op.equal t (.slice a len cap) (.slice none len' cap') = Op.equalIn (9999 + 1) t (.slice a len cap) (.slice none len' cap') := rfl
    have hr : (Op.equal t (.slice a len cap) (.slice none len' cap')).run P w = .ok a.isNone w := by
      rw [e, Op.equalIn]
      cases a <;> simp [underlying_run T.und.1]
    rcases ho with rfl | rfl
    · simp [execOp, hop, he _ _ hx, he _ _ hz, eqGuard, binOp, hr]
    · cases a <;> simp_all [execOp, he _ _ hx, he _ _ hz, eqGuard, binOp]⟩
end ops
end Go.Proofs.Ythneebbmodkjiaa
