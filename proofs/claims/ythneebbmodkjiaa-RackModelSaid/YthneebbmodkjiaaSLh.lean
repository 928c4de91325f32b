/- Slices of the call's own; slices that may be read. -/
import Derived.Test.YthneebbmodkjiaaSLd
import Derived.RowKit
namespace Go.Proofs.Ythneebbmodkjiaa
open Go.RowKit

/-- A slice that is owned: its elements' cells xs (s to each), spare room behind. -/
def Sl (s : Nat) (a : Option Addr) (len cap : Nat) (xs : List Value) : HP := fun h =>
  (a = none ∧ len = 0 ∧ cap = 0 ∧ xs = [] ∧ h = PH.emp) ∨
  ∃ b off junk, a = some ⟨b, off, none⟩ ∧ xs.length = len * s ∧ (xs ++ junk).length = cap * s ∧ len ≤ cap ∧ h = row b off (xs ++ junk)

/-- What may be read of a slice while A holds. -/
def Reads (A : HP) (s : Nat) (a : Option Addr) (len : Nat) (xs : List Value) : Prop :=
  xs.length = len * s ∧ ∀ h w, A h → Wd h w → len = 0 ∨ ∃ b off, a = some ⟨b, off, none⟩ ∧ ∀ i v, xs[i]? = some v → w.cell? ⟨b, off + i, none⟩ = some v

theorem Sl.len {s len cap : Nat} {a : Option Addr} {xs : List Value} {h : PH} (H : Sl s a len cap xs h) : xs.length = len * s ∧ len ≤ cap := by
  rcases H with ⟨_, rfl, rfl, rfl, _⟩ | ⟨b, off, junk, _, h1, _, h3, _⟩
  · simp
  · exact ⟨h1, h3⟩

theorem Sl.reads (s : Nat) (a : Option Addr) (len cap : Nat) (xs : List Value) (hl : xs.length = len * s) : Reads (Sl s a len cap xs) s a len xs := by
  refine ⟨hl, fun h w H W => ?_⟩
  rcases H with ⟨_, rfl, _, _, _⟩ | ⟨b, off, junk, rfl, h1, _, _, rfl⟩
  · exact .inl rfl
  · refine .inr ⟨b, off, rfl, fun i v hv => (W.row_cell ?_).1⟩
    rw [List.getElem?_append_left (List.getElem?_eq_some_iff.1 hv).1]; exact hv

/-- Where a cut of a slice begins. -/
def shA (s : Nat) (a : Option Addr) (cap lo : Nat) : Option Addr := if cap = lo then a else a.map (·.add (lo * s))

theorem Reads.sub {A : HP} {s len : Nat} {a : Option Addr} {xs : List Value} (R : Reads A s a len xs) (cap lo hi : Nat) (h1 : lo ≤ hi) (h2 : hi ≤ len) (h3 : len ≤ cap) :
    Reads A s (shA s a cap lo) (hi - lo) ((xs.drop (lo * s)).take ((hi - lo) * s)) := by
  obtain ⟨hl, R⟩ := R
  have hm : (hi - lo) * s + lo * s = hi * s := by rw [← Nat.add_mul, Nat.sub_add_cancel h1]
  have hm2 : hi * s ≤ len * s := Nat.mul_le_mul_right s h2
  refine ⟨by simp; omega, fun h w H W => ?_⟩
  by_cases e : hi = lo
  · exact .inl (by omega)
  · rcases R h w H W with h0 | ⟨b, off, rfl, hc⟩
    · omega
    · refine .inr ⟨b, off + lo * s, ?_, fun i v hv => ?_⟩
      · unfold shA; rw [if_neg (by omega)]; simp [Addr.add_none]
      · rw [List.getElem?_take] at hv
        split at hv
        · rw [List.getElem?_drop] at hv
          rw [Nat.add_assoc]; exact hc _ _ hv
        · cases hv

class Has (Γ : List HP) (A : HP) : Prop where
  h : ∃ Δ, Γ.Perm (A :: Δ)
instance Has.here (Γ : List HP) (A : HP) : Has (A :: Γ) A := ⟨Γ, .refl _⟩
instance (priority := low) Has.there (B : HP) (Γ : List HP) (A : HP) [H : Has Γ A] : Has (B :: Γ) A := ⟨let ⟨Δ, p⟩ := H.h; ⟨B :: Δ, (p.cons B).trans (.swap _ _ _)⟩⟩

theorem St.reads {E : Env} {Γ : List HP} {w : World} {A : HP} {s len : Nat} {a : Option Addr} {xs : List Value} [H : Has Γ A] (st : St E Γ w) (R : Reads A s a len xs) :
    len = 0 ∨ ∃ b off, a = some ⟨b, off, none⟩ ∧ ∀ i v, xs[i]? = some v → w.cell? ⟨b, off + i, none⟩ = some v := by
  obtain ⟨Δ, p⟩ := H.h
  obtain ⟨_, _, ⟨h1, r, hA, _, _, rfl⟩, W⟩ := st.perm p
  exact R.2 h1 w hA W.left

/-- The owned slice with base a, and how the state reads with it changed. -/
class UpdSl (Γ : List HP) (a : Option Addr) (s len cap : outParam Nat) (xs : outParam (List Value)) (K : outParam (HP → List HP)) : Prop where
  h : ∃ Δ, Γ.Perm (Sl s a len cap xs :: Δ) ∧ ∀ A, (A :: Δ).Perm (K A)
instance UpdSl.here (Γ : List HP) (a : Option Addr) (s len cap : Nat) (xs : List Value) : UpdSl (Sl s a len cap xs :: Γ) a s len cap xs (fun A => A :: Γ) := ⟨Γ, .refl _, fun _ => .refl _⟩
instance (priority := low) UpdSl.there (B : HP) (Γ : List HP) (a : Option Addr) (s len cap : Nat) (xs : List Value) (K : HP → List HP) [H : UpdSl Γ a s len cap xs K] : UpdSl (B :: Γ) a s len cap xs (fun A => B :: K A) :=
  ⟨let ⟨Δ, p, q⟩ := H.h; ⟨B :: Δ, (p.cons B).trans (.swap _ _ _), fun A => (List.Perm.swap _ _ _).trans ((q A).cons B)⟩⟩

section ops
variable {P : Program} {X : Cx} {n : Nat} {ds : List Deferred} {ρ : Rho} {Γ : List HP} {Nx : Value → List HP → Prop} {d : Nat} {ty : TypeId}

theorem o_indexR {A : HP} {t e s y : Nat} {x ix : Operand} {a : Option Addr} {len cap j : Nat} {xs : List Value} {kk : IntKind} {i : Int} [T : TySlice P t e s y] (hx : ev ρ x = some (.slice a len cap)) (hi : ev ρ ix = some (.int kk i)) (R : Reads A s a len xs) [H : Has Γ A]
    (hj : i = (j : Int)) (hlt : j < len) (hn : Nat.blt d n = true) (h : ∀ b off, a = some ⟨b, off, none⟩ → Nx (.pointer (some ⟨b, off + j * s, none⟩)) Γ) : ExO P X n ds (some d) (.indexAddr t x ix) ty Nx ρ Γ :=
  o_value (by simp) hn fun ee o w hop hty he heL hs => by
    rcases hs.reads R with h0 | ⟨b, off, ha, _⟩
    · omega
    · refine ⟨_, w, Γ, ?_, hs, h b off ha⟩
      obtain ⟨hu, inf, hi', hsz, _⟩ := T.und
      subst hj
      simp [execOp, hop, he x _ hx, he ix _ hi, ha, Instr.indexAt, asIntOf, underlying_run hu, sizeOf_run hi', hsz, hlt, Addr.add_none]

theorem o_loadR {A : HP} {t s : Nat} {x : Operand} {a : Option Addr} {b off o len i : Nat} {xs : List Value} {v : Value} [T : TyCell P t] (hx : ev ρ x = some (.pointer (some ⟨b, o, none⟩))) (R : Reads A s a len xs) [H : Has Γ A] (ha : a = some ⟨b, off, none⟩) (ho : o = off + i) (hv : xs[i]? = some v)
    (hn : Nat.blt d n = true) (h : Nx (v) Γ) : ExO P X n ds (some d) (.load t x) ty Nx ρ Γ :=
  o_loadC hx (fun E w s => by
    rcases s.reads R with h0 | ⟨b', off', ha', hc⟩
    · have := R.1; rw [h0] at this; simp at this; subst this; cases hv
    · rw [ha] at ha'; cases ha'; rw [ho]; exact hc _ _ hv) hn h
theorem o_loadAR {A : HP} {t s s' : Nat} {x : Operand} {a : Option Addr} {b off o len i : Nat} {xs us : List Value} [T : TyAgg P t s] (hx : ev ρ x = some (.pointer (some ⟨b, o, none⟩))) (R : Reads A s' a len xs) [H : Has Γ A] (ha : a = some ⟨b, off, none⟩) (ho : o = off + i)
    (hl : us.length = s) (hv : ∀ j v, us[j]? = some v → xs[i + j]? = some v)
    (hn : Nat.blt d n = true) (h : Nx (.agg us.toArray) Γ) : ExO P X n ds (some d) (.load t x) ty Nx ρ Γ :=
  o_loadAC hx hl (fun j v hj E w s => by
    rcases s.reads R with h0 | ⟨b', off', ha', hc⟩
    · have := R.1; rw [h0] at this; simp at this; subst this; have := hv _ _ hj; cases this
    · rw [ha] at ha'; cases ha'; rw [ho, Nat.add_assoc]; exact hc _ _ (hv _ _ hj)) hn h

theorem St.sl_set {E : Env} {Δ : List HP} {w : World} {a : Option Addr} {s len cap b off i : Nat} {xs : List Value} (v : Value) (st : St E (Sl s a len cap xs :: Δ) w) (ha : a = some ⟨b, off, none⟩) (hi : i < xs.length) :
    w.cell? ⟨b, off + i, none⟩ = some xs[i] ∧ w.frozen? ⟨b, off + i, none⟩ = false ∧ St E (Sl s a len cap (xs.set i v) :: Δ) (w.setCell ⟨b, off + i, none⟩ v) := by
  obtain ⟨e, _, ⟨h1, r, hA, hr, dj, rfl⟩, W⟩ := st
  rcases hA with ⟨h0, _⟩ | ⟨b', off', junk, ha', g1, g2, g3, rfl⟩
  · rw [ha] at h0; cases h0
  · rw [ha] at ha'; cases ha'
    have s1 : St E (Row b off (xs ++ junk) :: Δ) w := ⟨e, _, ⟨_, r, rfl, hr, dj, rfl⟩, W⟩
    have hc := s1.row_cell (i := i) (v := xs[i]) (by rw [List.getElem?_append_left hi]; exact List.getElem?_eq_getElem hi)
    have s2 := s1.row_set (i := i) v (by simp; omega)
    rw [List.set_append_left _ _ hi] at s2
    refine ⟨hc.1, hc.2, Ent.st (Ent.one (fun h hh => ?_) Δ) s2⟩
    exact .inr ⟨b, off, junk, ha, by simpa using g1, by simpa using g2, g3, hh⟩

theorem o_storeS {t : TypeId} {x y : Operand} {a : Option Addr} {b off o i s len cap : Nat} {xs : List Value} {v : Value} {K : HP → List HP} [T : TyCell P t] (hx : ev ρ x = some (.pointer (some ⟨b, o, none⟩))) (hy : ev ρ y = some v) (h1 : v.oneCell' = true) (ha : a = some ⟨b, off, none⟩)
    [H : UpdSl Γ a s len cap xs K] (ho : o = off + i) (hi : i < xs.length) (h : Nx undef (K (Sl s a len cap (xs.set i v)))) :
    ExO P X n ds none (.store t x y) ty Nx ρ Γ :=
  o_skip (by simp) fun e oo w hop hty he hs => by
    obtain ⟨inf, hinf, hsz⟩ := TyCell.size (P := P) (t := t)
    obtain ⟨Δ, p, q⟩ := H.h
    obtain ⟨c1, c2, c3⟩ := (hs.perm p).sl_set v ha hi
    subst ho
    refine ⟨_, _, ?_, c3.perm (q _), h⟩
    simp [execOp, hop, he x _ hx, he y _ hy, Instr.storeAt, Instr.sureAddr, storeVar, oneCell_cells h1, sizeOf_run hinf, hsz, storeCells, Addr.add_none, run_store _ _ _ _ _ h1, c1, c2]

/-! ### len -/
theorem o_lenS {t e s y : Nat} {x : Operand} {a : Option Addr} {len cap : Nat} [T : TySlice P t e s y] (hx : ev ρ x = some (.slice a len cap)) (hn : Nat.blt d n = true) (h : Nx (.int .i64 (len : Int)) Γ) :
    ExO P X n ds (some d) (.call ⟨.builtin .len, #[x], #[t]⟩) ty Nx ρ Γ :=
  o_value (by simp) hn fun ee o w hop hty he heL hs => ⟨_, w, Γ, by
    simp [execOp, hop, resolve, he x _ hx, invoke, builtin, Builtin.len_, underlying_run T.und.1, goInt], hs, h⟩
theorem v_lenS {t e s y : Nat} {x : Operand} {a : Option Addr} {len cap : Nat} [T : TySlice P t e s y] (hx : ev ρ x = some (.slice a len cap)) : OpV P (.call ⟨.builtin .len, #[x], #[t]⟩) ty ρ Γ (.int .i64 (len : Int)) :=
  ⟨by simp, fun ee o E w hop hty he heL hs => by
    simp [execOp, hop, resolve, he x _ hx, invoke, builtin, Builtin.len_, underlying_run T.und.1, goInt]⟩
class TyString (P : Program) (t : TypeId) : Prop where h : P.underlying t = some .string
theorem o_lenStr {t : Nat} {x : Operand} {s : ByteArray} [T : TyString P t] (hx : ev ρ x = some (.string s)) (hn : Nat.blt d n = true) (h : Nx (.int .i64 (s.size : Int)) Γ) :
    ExO P X n ds (some d) (.call ⟨.builtin .len, #[x], #[t]⟩) ty Nx ρ Γ :=
  o_value (by simp) hn fun ee o w hop hty he heL hs => ⟨_, w, Γ, by
    simp [execOp, hop, resolve, he x _ hx, invoke, builtin, Builtin.len_, underlying_run T.h, goInt], hs, h⟩
theorem v_lenStr {t : Nat} {x : Operand} {s : ByteArray} [T : TyString P t] (hx : ev ρ x = some (.string s)) : OpV P (.call ⟨.builtin .len, #[x], #[t]⟩) ty ρ Γ (.int .i64 (s.size : Int)) :=
  ⟨by simp, fun ee o E w hop hty he heL hs => by
    simp [execOp, hop, resolve, he x _ hx, invoke, builtin, Builtin.len_, underlying_run T.h, goInt]⟩
theorem o_min {x y : Operand} {ts : Array TypeId} {kk : IntKind} {a b : Int} (hx : ev ρ x = some (.int kk a)) (hy : ev ρ y = some (.int kk b)) (hn : Nat.blt d n = true) (h : Nx (.int kk (min a b)) Γ) :
    ExO P X n ds (some d) (.call ⟨.builtin .min, #[x, y], ts⟩) ty Nx ρ Γ :=
  o_value (by simp) hn fun ee o w hop hty he heL hs => ⟨_, w, Γ, by
    have : (if b < a then b else a) = min a b := by rw [Int.min_def]; split <;> split <;> omega
    simp [execOp, hop, resolve, he x _ hx, he y _ hy, invoke, builtin, Builtin.min_, Builtin.min2, this], hs, h⟩
theorem v_min {x y : Operand} {ts : Array TypeId} {kk : IntKind} {a b : Int} (hx : ev ρ x = some (.int kk a)) (hy : ev ρ y = some (.int kk b)) : OpV P (.call ⟨.builtin .min, #[x, y], ts⟩) ty ρ Γ (.int kk (min a b)) :=
  ⟨by simp, fun ee o E w hop hty he heL hs => by
    have : (if b < a then b else a) = min a b := by rw [Int.min_def]; split <;> split <;> omega
    simp [execOp, hop, resolve, he x _ hx, he y _ hy, invoke, builtin, Builtin.min_, Builtin.min2, this]⟩
theorem o_max {x y : Operand} {ts : Array TypeId} {kk : IntKind} {a b : Int} (hx : ev ρ x = some (.int kk a)) (hy : ev ρ y = some (.int kk b)) (hn : Nat.blt d n = true) (h : Nx (.int kk (max a b)) Γ) :
    ExO P X n ds (some d) (.call ⟨.builtin .max, #[x, y], ts⟩) ty Nx ρ Γ :=
  o_value (by simp) hn fun ee o w hop hty he heL hs => ⟨_, w, Γ, by
    have : (if a < b then b else a) = max a b := by rw [Int.max_def]; split <;> split <;> omega
    simp [execOp, hop, resolve, he x _ hx, he y _ hy, invoke, builtin, Builtin.max_, Builtin.max2, this], hs, h⟩

/-! ### Cuts -/
theorem v_max {x y : Operand} {ts : Array TypeId} {kk : IntKind} {a b : Int} (hx : ev ρ x = some (.int kk a)) (hy : ev ρ y = some (.int kk b)) : OpV P (.call ⟨.builtin .max, #[x, y], ts⟩) ty ρ Γ (.int kk (max a b)) :=
  ⟨by simp, fun ee o E w hop hty he heL hs => by
    have : (if a < b then b else a) = max a b := by rw [Int.max_def]; split <;> split <;> omega
    simp [execOp, hop, resolve, he x _ hx, he y _ hy, invoke, builtin, Builtin.max_, Builtin.max2, this]⟩
theorem sliceBound_run {kk : IntKind} {i : Int} {y : Nat} {c : BoundsCode} (j : Nat) (hj : i = (j : Int)) (hle : j ≤ y) (w : World) : (Instr.sliceBound (.int kk i) y c).run P w = .ok j w := by
  subst hj; simp [Instr.sliceBound, asIntOf, hle]
theorem o_slice {t e s y : Nat} {x lo hi : Operand} {a : Option Addr} {len cap jl jh : Nat} {k1 k2 : IntKind} {il ih : Int} [T : TySlice P t e s y] (hx : ev ρ x = some (.slice a len cap)) (hlo : ev ρ lo = some (.int k1 il)) (hhi : ev ρ hi = some (.int k2 ih))
    (h1 : il = (jl : Int)) (h2 : ih = (jh : Int)) (h3 : jl ≤ jh) (h4 : jh ≤ cap) (hn : Nat.blt d n = true) (h : Nx (.slice (shA s a cap jl) (jh - jl) (cap - jl)) Γ) :
    ExO P X n ds (some d) (.slice t x (some lo) (some hi) none) ty Nx ρ Γ :=
  o_value (by simp) hn fun ee o w hop hty he heL hs => ⟨_, w, Γ, by
    obtain ⟨hu, inf, hi', hsz, _⟩ := T.und
    simp [execOp, hop, he x _ hx, he lo _ hlo, he hi _ hhi, Instr.sliceAt, underlying_run hu, Instr.slice, Instr.sliceBounds, sliceBound_run jl h1 h3, sliceBound_run jh h2 h4, sizeOf_run hi', hsz, shA], hs, h⟩
theorem v_slice {t e s y : Nat} {x lo hi : Operand} {a : Option Addr} {len cap jl jh : Nat} {k1 k2 : IntKind} {il ih : Int} [T : TySlice P t e s y] (hx : ev ρ x = some (.slice a len cap)) (hlo : ev ρ lo = some (.int k1 il)) (hhi : ev ρ hi = some (.int k2 ih))
    (h1 : il = (jl : Int)) (h2 : ih = (jh : Int)) (h3 : jl ≤ jh) (h4 : jh ≤ cap) : OpV P (.slice t x (some lo) (some hi) none) ty ρ Γ (.slice (shA s a cap jl) (jh - jl) (cap - jl)) :=
  ⟨by simp, fun ee o E w hop hty he heL hs => by
    obtain ⟨hu, inf, hi', hsz, _⟩ := T.und
    simp [execOp, hop, he x _ hx, he lo _ hlo, he hi _ hhi, Instr.sliceAt, underlying_run hu, Instr.slice, Instr.sliceBounds, sliceBound_run jl h1 h3, sliceBound_run jh h2 h4, sizeOf_run hi', hsz, shA]⟩
theorem o_sliceLo {t e s y : Nat} {x lo : Operand} {a : Option Addr} {len cap jl : Nat} {k1 : IntKind} {il : Int} [T : TySlice P t e s y] (hx : ev ρ x = some (.slice a len cap)) (hlo : ev ρ lo = some (.int k1 il))
    (h1 : il = (jl : Int)) (h3 : jl ≤ len) (hn : Nat.blt d n = true) (h : Nx (.slice (shA s a cap jl) (len - jl) (cap - jl)) Γ) :
    ExO P X n ds (some d) (.slice t x (some lo) none none) ty Nx ρ Γ :=
  o_value (by simp) hn fun ee o w hop hty he heL hs => ⟨_, w, Γ, by
    obtain ⟨hu, inf, hi', hsz, _⟩ := T.und
    simp [execOp, hop, he x _ hx, he lo _ hlo, Instr.sliceAt, underlying_run hu, Instr.slice, Instr.sliceBounds, sliceBound_run jl h1 h3, sizeOf_run hi', hsz, shA], hs, h⟩
theorem v_sliceLo {t e s y : Nat} {x lo : Operand} {a : Option Addr} {len cap jl : Nat} {k1 : IntKind} {il : Int} [T : TySlice P t e s y] (hx : ev ρ x = some (.slice a len cap)) (hlo : ev ρ lo = some (.int k1 il))
    (h1 : il = (jl : Int)) (h3 : jl ≤ len) : OpV P (.slice t x (some lo) none none) ty ρ Γ (.slice (shA s a cap jl) (len - jl) (cap - jl)) :=
  ⟨by simp, fun ee o E w hop hty he heL hs => by
    obtain ⟨hu, inf, hi', hsz, _⟩ := T.und
    simp [execOp, hop, he x _ hx, he lo _ hlo, Instr.sliceAt, underlying_run hu, Instr.slice, Instr.sliceBounds, sliceBound_run jl h1 h3, sizeOf_run hi', hsz, shA]⟩
theorem shA_zero (s : Nat) (a : Option Addr) (cap : Nat) : shA s a cap 0 = a := by
  unfold shA; split
  · rfl
  · cases a <;> simp [Addr.add]
theorem o_sliceHi {t e s y : Nat} {x hi : Operand} {a : Option Addr} {len cap jh : Nat} {k2 : IntKind} {ih : Int} [T : TySlice P t e s y] (hx : ev ρ x = some (.slice a len cap)) (hhi : ev ρ hi = some (.int k2 ih))
    (h2 : ih = (jh : Int)) (h4 : jh ≤ cap) (hn : Nat.blt d n = true) (h : Nx (.slice a jh cap) Γ) :
    ExO P X n ds (some d) (.slice t x none (some hi) none) ty Nx ρ Γ :=
  o_value (by simp) hn fun ee o w hop hty he heL hs => ⟨_, w, Γ, by
    obtain ⟨hu, inf, hi', hsz, _⟩ := T.und
    have := shA_zero s a cap
    unfold shA at this
    simp [execOp, hop, he x _ hx, he hi _ hhi, Instr.sliceAt, underlying_run hu, Instr.slice, Instr.sliceBounds, sliceBound_run jh h2 h4, sizeOf_run hi', hsz]
    simpa using this, hs, h⟩
theorem v_sliceHi {t e s y : Nat} {x hi : Operand} {a : Option Addr} {len cap jh : Nat} {k2 : IntKind} {ih : Int} [T : TySlice P t e s y] (hx : ev ρ x = some (.slice a len cap)) (hhi : ev ρ hi = some (.int k2 ih))
    (h2 : ih = (jh : Int)) (h4 : jh ≤ cap) : OpV P (.slice t x none (some hi) none) ty ρ Γ (.slice a jh cap) :=
  ⟨by simp, fun ee o E w hop hty he heL hs => by
    obtain ⟨hu, inf, hi', hsz, _⟩ := T.und
    have := shA_zero s a cap
    unfold shA at this
    simp [execOp, hop, he x _ hx, he hi _ hhi, Instr.sliceAt, underlying_run hu, Instr.slice, Instr.sliceBounds, sliceBound_run jh h2 h4, sizeOf_run hi', hsz]
    simpa using this⟩
/-- x[:0:0] -/
theorem o_slice00 {t e s y : Nat} {x hi mx : Operand} {a : Option Addr} {len cap : Nat} {k2 k3 : IntKind} [T : TySlice P t e s y] (hx : ev ρ x = some (.slice a len cap)) (hhi : ev ρ hi = some (.int k2 0)) (hmx : ev ρ mx = some (.int k3 0))
    (hn : Nat.blt d n = true) (h : Nx (.slice a 0 0) Γ) :
    ExO P X n ds (some d) (.slice t x none (some hi) (some mx)) ty Nx ρ Γ :=
  o_value (by simp) hn fun ee o w hop hty he heL hs => ⟨_, w, Γ, by
    obtain ⟨hu, inf, hi', hsz, _⟩ := T.und
    simp [execOp, hop, he x _ hx, he hi _ hhi, he mx _ hmx, Instr.sliceAt, underlying_run hu, Instr.slice, Instr.sliceBounds, sliceBound_run (i := 0) 0 rfl (Nat.zero_le _), sizeOf_run hi', hsz], hs, h⟩
theorem v_slice00 {t e s y : Nat} {x hi mx : Operand} {a : Option Addr} {len cap : Nat} {k2 k3 : IntKind} [T : TySlice P t e s y] (hx : ev ρ x = some (.slice a len cap)) (hhi : ev ρ hi = some (.int k2 0)) (hmx : ev ρ mx = some (.int k3 0)) : OpV P (.slice t x none (some hi) (some mx)) ty ρ Γ (.slice a 0 0) :=
  ⟨by simp, fun ee o E w hop hty he heL hs => by
    obtain ⟨hu, inf, hi', hsz, _⟩ := T.und
    simp [execOp, hop, he x _ hx, he hi _ hhi, he mx _ hmx, Instr.sliceAt, underlying_run hu, Instr.slice, Instr.sliceBounds, sliceBound_run (i := 0) 0 rfl (Nat.zero_le _), sizeOf_run hi', hsz]⟩
/-- x == nil, x a slice. -/
theorem v_slnil {t yt e s y : Nat} {x z : Operand} {a : Option Addr} {len cap len' cap' : Nat} {op : BinOp} [T : TySlice P t e s y] (ho : op = .eql ∨ op = .neq) (hx : ev ρ x = some (.slice a len cap)) (hz : ev ρ z = some (.slice none len' cap')) :
    OpV P (.binOp op t x z yt) ty ρ Γ (.bool (if op = .neq then a.isSome else a.isNone)) :=
  ⟨by simp, fun ee o E w hop hty he heL hs => by
    have e : Op.equal t (.slice a len cap) (.slice none len' cap') = Op.equalIn (9999 + 1) t (.slice a len cap) (.slice none len' cap') := rfl
    have hr : (Op.equal t (.slice a len cap) (.slice none len' cap')).run P w = .ok a.isNone w := by
      rw [e, Op.equalIn]
      cases a <;> simp [underlying_run T.und.1]
    rcases ho with rfl | rfl
    · simp [execOp, hop, he _ _ hx, he _ _ hz, eqGuard, binOp, hr]
    · cases a <;> simp_all [execOp, he _ _ hx, he _ _ hz, eqGuard, binOp]⟩
end ops
end Go.Proofs.Ythneebbmodkjiaa

namespace Go.Proofs.Ythneebbmodkjiaa
open Go.RowKit

theorem nextcap_le (newLen oldCap : Nat) (h : oldCap < newLen) : Builtin.nextslicecap newLen oldCap ≤ 2 * newLen + 192 := by
  unfold Builtin.nextslicecap
  have key : ∀ r c, c < newLen + (newLen + 768) / 4 + 1 → Builtin.growBy newLen r c ≤ newLen + (newLen + 768) / 4 := by
    intro r
    induction r with
    | zero => intro c hc; simp [Builtin.growBy]; omega
    | succ r ih =>
      intro c hc
      unfold Builtin.growBy
      split
      · omega
      · exact ih _ (by omega)
  split
  · omega
  · split
    · omega
    · have := key 4 oldCap (by omega); omega

theorem zeroCells_size (zero : Array Value) (m : Nat) : (Builtin.zeroCells zero m).size = m * zero.size := by simp [Builtin.zeroCells]

section ops
variable {P : Program} {X : Cx} {n : Nat} {ds : List Deferred} {ρ : Rho} {Γ : List HP} {Nx : Value → List HP → Prop} {d : Nat} {ty : TypeId}

theorem firstCells_run {A : HP} {Γ : List HP} {E : Env} {w : World} {s len cap : Nat} {a : Option Addr} {xs : List Value} (st : St E Γ w) (R : Reads A s a len xs) [H : Has Γ A] : (Builtin.firstCells s len (.slice a len cap)).run P w = .ok xs.toArray w := by
  rcases st.reads R with h0 | ⟨b, off, ha, hc⟩
  · have := R.1
    subst h0
    simp at this
    subst this
    cases a with
    | none => simp [Builtin.firstCells]
    | some a => simp [Builtin.firstCells, loadCells, loadCellsFrom]
  · subst ha
    simp only [Builtin.firstCells]
    exact loadCells_run R.1 hc

/-- No numbers' type (append of a made slice is another thing). -/
class NoInt (P : Program) (t : TypeId) : Prop where h : (∃ e, P.underlying t = some (.slice e)) ∨ P.underlying t = some .string
instance {t e s y : Nat} [T : TySlice P t e s y] : NoInt P t := ⟨.inl ⟨_, T.und.1⟩⟩
instance {t : Nat} [T : TyString P t] : NoInt P t := ⟨.inr T.h⟩

theorem St.sl_split {E : Env} {Δ : List HP} {w : World} {a : Option Addr} {s len cap : Nat} {xs : List Value} (st : St E (Sl s a len cap xs :: Δ) w) : xs.length = len * s ∧ len ≤ cap ∧
    ((a = none ∧ len = 0 ∧ cap = 0 ∧ xs = [] ∧ St E Δ w) ∨ ∃ b off junk, a = some ⟨b, off, none⟩ ∧ (xs ++ junk).length = cap * s ∧ St E (Row b off (xs ++ junk) :: Δ) w) := by
  obtain ⟨e, _, ⟨h1, r, hA, hr, dj, rfl⟩, W⟩ := st
  obtain ⟨g1, g2⟩ := Sl.len hA
  refine ⟨g1, g2, ?_⟩
  rcases hA with ⟨rfl, h2, h3, h4, rfl⟩ | ⟨b, off, junk, ha, q1, q2, q3, rfl⟩
  · exact .inl ⟨rfl, h2, h3, h4, e, r, hr, W.right dj⟩
  · exact .inr ⟨b, off, junk, ha, q2, e, _, ⟨_, r, rfl, hr, dj, rfl⟩, W⟩
theorem St.sl_join {E : Env} {Δ : List HP} {w : World} {b off s len cap : Nat} {xs junk : List Value} (h1 : xs.length = len * s) (h2 : (xs ++ junk).length = cap * s) (h3 : len ≤ cap) (st : St E (Row b off (xs ++ junk) :: Δ) w) : St E (Sl s (some ⟨b, off, none⟩) len cap xs :: Δ) w :=
  Ent.st (Ent.one (fun _ hh => .inr ⟨b, off, junk, rfl, h1, h2, h3, hh⟩) Δ) st

/-- append's own text, where the second operand is no number. -/
theorem append_text {w : World} {t t2 e s y : Nat} {base : Option Addr} {len cap m : Nat} {yv : Value} {new : Array Value} [T : TySlice P t e s y] [NI : NoInt P t2]
    (hlen : ∀ w, (Builtin.lenOf yv).run P w = .ok m w) (hnew : ∀ (w' : World), w'.heap = w.heap → (Builtin.firstCells s m yv).run P w' = .ok new w') (hy0 : 0 < y) (hb : (2 * (len + m) + 192) * y ≤ 2 ^ 48) (ty : TypeId)
    (old : Array Value) (hold : ∀ (w' : World), w'.heap = w.heap → (Builtin.firstCells s len (.slice base len cap)).run P w' = .ok old w') (zv : Value) (hz : ∃ i, P.info? e = some i ∧ i.zero = some zv) :
    (len + m ≤ cap ∧ (Builtin.append_ #[t, t2] ty #[.slice base len cap, yv]).run P w = ((match base with | some a => storeCells (a.add (len * s)) new.toList | none => pure ()) >>= fun _ => pure (Value.slice base (len + m) cap)).run P w) ∨
    (cap < len + m ∧ ∃ c, len + m ≤ c ∧ (Builtin.append_ #[t, t2] ty #[.slice base len cap, yv]).run P w = .ok (.slice (some ⟨w.heap.size, 0, none⟩) (len + m) c) (w.drew.alloc (.cells (old ++ new ++ Builtin.zeroCells zv.cells (c - (len + m))) e))) := by
  obtain ⟨hu, inf, hinf, hsz, hby⟩ := T.und
  obtain ⟨inf', hinf', hzero⟩ := hz
  rw [hinf] at hinf'; cases hinf'
  have hnw := hnew w rfl
  by_cases hfit : len + m ≤ cap
  · refine .inl ⟨hfit, ?_⟩
    rcases NI.h with ⟨e2, hu2⟩ | hu2 <;>
    · simp [Builtin.append_, underlying_run hu, underlying_run hu2, sizeOf_run hinf, hsz, hlen, hfit, hnw]
      cases base <;> simp
  · refine .inr ⟨by omega, len + m + (w.tape w.drawn (.appendCap (len + m) cap e)) % (2 ^ 63 - (len + m)), by omega, ?_⟩
    have hnc := nextcap_le (len + m) cap (by omega)
    have hle : ¬ (2 ^ 48 < Builtin.nextslicecap (len + m) cap * y) := by
      have := Nat.mul_le_mul_right y hnc; omega
    have hle' : ¬ (281474976710656 < Builtin.nextslicecap (len + m) cap * y) := hle
    have h1 := hnew w.drew rfl
    have h2 := hold w.drew rfl
    have hyne : ¬ y = 0 := by omega
    rcases NI.h with ⟨e2, hu2⟩ | hu2 <;>
    · simp [Builtin.append_, underlying_run hu, underlying_run hu2, sizeOf_run hinf, typeInfo_run hinf, hsz, hby, hlen, hfit, hyne, hle', Question.forced, Question.cut, h1, h2, zeroValue, hzero, newRow]

theorem zeroCells_zero (m : Nat) (zero : Array Value) : (Builtin.zeroCells zero m).toList.length = m * zero.size := by simp [Builtin.zeroCells]

/-- append(x, y...): x is owned, y may be read beside it. -/
theorem append_run {E : Env} {Δ : List HP} {w : World} {t t2 e s y : Nat} {a : Option Addr} {len cap m : Nat} {xs ys : List Value} {zv yv : Value} [T : TySlice P t e s y] [NI : NoInt P t2]
    (hz : ∃ i, P.info? e = some i ∧ i.zero = some zv) (hzs : zv.cells.size = s) (hy0 : 0 < y)
    (st : St E (Sl s a len cap xs :: Δ) w) (hlen : ∀ w, (Builtin.lenOf yv).run P w = .ok m w) (hym : ys.length = m * s)
    (hnew : ∀ (w' : World), w'.heap = w.heap → (Builtin.firstCells s m yv).run P w' = .ok ys.toArray w') (h1 : ys.all Value.oneCell' = true) (hb : (2 * (len + m) + 192) * y ≤ 2 ^ 48) (ty : TypeId) :
    ∃ a' cap' w', (Builtin.append_ #[t, t2] ty #[.slice a len cap, yv]).run P w = .ok (.slice a' (len + m) cap') w' ∧ len + m ≤ cap' ∧ St E (Sl s a' (len + m) cap' (xs ++ ys) :: Δ) w' := by
  obtain ⟨g1, g2, hcase⟩ := st.sl_split
  have hold : ∀ (w' : World), w'.heap = w.heap → (Builtin.firstCells s len (.slice a len cap)).run P w' = .ok xs.toArray w' := fun w' hw' => by
    have st' : St (Env.of w') (Sl s a len cap xs :: Δ) w' := by
      obtain ⟨_, h, sat, W⟩ := st
      refine ⟨⟨rfl, rfl, rfl⟩, h, sat, fun b x f hf => ?_⟩
      have := W b x f hf
      have hh : w'.heap[b]? = w.heap[b]? := by rw [hw']
      cases x with
      | some i => cases f with
        | own z => exact ⟨(World.cell?_of_block hh).trans this.1, (World.frozen?_of_block hh).trans this.2⟩
        | obj z => exact this
      | none => cases f with
        | own z => exact this
        | obj z => exact hh.trans this
    exact firstCells_run (P := P) (cap := cap) st' (Sl.reads s a len cap xs g1)
  rcases append_text (P := P) (t := t) (t2 := t2) (e := e) (s := s) (y := y) (w := w) (base := a) (cap := cap) hlen hnew hy0 hb ty xs.toArray hold zv hz with ⟨hfit, hr⟩ | ⟨hno, c, hc, hr⟩
  · rcases hcase with ⟨rfl, rfl, rfl, rfl, st0⟩ | ⟨b, off, junk, rfl, q2, st0⟩
    · obtain rfl : m = 0 := by omega
      simp at hym; subst hym
      exact ⟨none, 0, w, by rw [hr]; simp, by omega, by simpa using st⟩
    · have hjl : ys.length ≤ junk.length := by
        have : (len + m) * s ≤ cap * s := Nat.mul_le_mul_right s hfit
        rw [Nat.add_mul] at this
        simp at q2; omega
      obtain ⟨w', hr2, s1⟩ := storeCells_run (P := P) (off := off) ys xs.length w (fun B => B :: Δ) (xs ++ junk) E _ (UpdRow.here Δ b off _) st0 (by simp; omega) (fun v hv => List.all_eq_true.1 h1 v hv) (off + len * s) 0 (by omega)
      refine ⟨some ⟨b, off, none⟩, cap, w', ?_, hfit, ?_⟩
      · rw [hr]; simp [Addr.add_none, hr2]
      · have e1 : (xs ++ junk).take xs.length ++ ys ++ (xs ++ junk).drop (xs.length + ys.length) = (xs ++ ys) ++ junk.drop ys.length := by
          rw [List.take_left, ← List.drop_drop, List.drop_left]
        rw [e1] at s1
        exact St.sl_join (by simp [g1, hym, Nat.add_mul]) (by simp at q2 ⊢; omega) hfit s1
  · have st0 : St E Δ w := st.drop
    refine ⟨_, c, _, hr, hc, ?_⟩
    have s1 := st0.drew.alloc_row (xs ++ ys ++ (Builtin.zeroCells zv.cells (c - (len + m))).toList) e
    have e1 : (xs ++ ys ++ (Builtin.zeroCells zv.cells (c - (len + m))).toList).toArray = xs.toArray ++ ys.toArray ++ Builtin.zeroCells zv.cells (c - (len + m)) := by
      apply Array.ext'; simp
    rw [e1] at s1
    refine St.sl_join (by simp [g1, hym, Nat.add_mul]) ?_ hc s1
    have h3 := zeroCells_zero (c - (len + m)) zv.cells
    rw [hzs] at h3
    rw [List.length_append, h3, List.length_append, g1, hym, ← Nat.add_mul, ← Nat.add_mul]
    congr 1; omega
end ops
end Go.Proofs.Ythneebbmodkjiaa

namespace Go.Proofs.Ythneebbmodkjiaa
open Go.RowKit

/-- The owned slice with base a, taken out. -/
class TakeSl (Γ : List HP) (a : Option Addr) (s len cap : outParam Nat) (xs : outParam (List Value)) (Δ : outParam (List HP)) : Prop where
  h : Γ.Perm (Sl s a len cap xs :: Δ)
instance TakeSl.here (Γ : List HP) (a : Option Addr) (s len cap : Nat) (xs : List Value) : TakeSl (Sl s a len cap xs :: Γ) a s len cap xs Γ := ⟨.refl _⟩
instance (priority := low) TakeSl.there (B : HP) (Γ : List HP) (a : Option Addr) (s len cap : Nat) (xs : List Value) (Δ : List HP) [H : TakeSl Γ a s len cap xs Δ] : TakeSl (B :: Γ) a s len cap xs (B :: Δ) := ⟨(H.h.cons B).trans (.swap _ _ _)⟩

theorem St.env {E : Env} {Γ : List HP} {w w' : World} (st : St E Γ w) (hw : w'.heap = w.heap) : St (Env.of w') Γ w' := by
  obtain ⟨_, h, sat, W⟩ := st
  refine ⟨⟨rfl, rfl, rfl⟩, h, sat, fun b x f hf => ?_⟩
  have := W b x f hf
  have hh : w'.heap[b]? = w.heap[b]? := by rw [hw]
  cases x with
  | some i => cases f with
    | own z => exact ⟨(World.cell?_of_block hh).trans this.1, (World.frozen?_of_block hh).trans this.2⟩
    | obj z => exact this
  | none => cases f with
    | own z => exact this
    | obj z => exact hh.trans this

theorem Emp.intro (Γ : List HP) : Ent Γ (Emp :: Γ) := fun h s => ⟨h, ⟨PH.emp, h, rfl, s, PH.emp_disj h, (PH.emp_join h).symm⟩, fun _ _ _ x => x⟩
theorem row_nil (b off : Nat) : row b off [] = PH.emp := by
  funext k x; cases x <;> simp [row, PH.emp]
/-- A slice without room owns nothing. -/
theorem Sl.zero (s : Nat) (b off : Nat) : Sl s (some ⟨b, off, none⟩) 0 0 [] PH.emp := .inr ⟨b, off, [], rfl, by simp, by simp, Nat.le_refl _, by simp [row_nil]⟩
theorem Sl.nil (s : Nat) : Sl s none 0 0 [] PH.emp := .inl ⟨rfl, rfl, rfl, rfl, rfl⟩
theorem Ent.nilSl (s : Nat) (Γ : List HP) : Ent Γ (Sl s none 0 0 [] :: Γ) := (Emp.intro Γ).trans (Ent.one (fun _ h => h ▸ Sl.nil s) Γ)
theorem Ent.zeroSl (s b off : Nat) (Γ : List HP) : Ent Γ (Sl s (some ⟨b, off, none⟩) 0 0 [] :: Γ) := (Emp.intro Γ).trans (Ent.one (fun _ h => h ▸ Sl.zero s b off) Γ)

/-! ### Filling a struct or a row -/
def vcl : Value → List Value
  | .agg cs => cs.toList
  | v => [v]
theorem vcl_eq (v : Value) : vcl v = v.cells.toList := by cases v <;> rfl
def frcL : List Value → Option (List Value)
  | [] => some []
  | v :: vs => match frcL vs with
    | some us => some (v :: us)
    | none => none
theorem frcL_eq {vs us : List Value} (h : frcL vs = some us) : us = vs := by
  induction vs generalizing us with
  | nil => cases h; rfl
  | cons v vs ih =>
    unfold frcL at h
    split at h
    · rename_i ws hw; cases h; rw [ih hw]
    · cases h
/-- us laid over vs from off on. -/
def lay : List Value → Nat → List Value → List Value
  | v :: vs, off + 1, us => v :: lay vs off us
  | _ :: vs, 0, u :: us => u :: lay vs 0 us
  | vs, _, _ => vs
def fillL (place : Nat → Option (Nat × Nat)) (cells : List Value) : List (Nat × Value) → Option (List Value)
  | [] => frcL cells
  | (i, v) :: rest => match place i with
    | none => none
    | some (off, size) => match Nat.beq (vcl v).length size, Nat.ble (off + size) cells.length with
      | true, true => fillL place (lay cells off (vcl v)) rest
      | _, _ => none

theorem lay_length (us vs : List Value) (off : Nat) : (lay vs off us).length = vs.length := by
  induction vs, off, us using lay.induct with
  | case1 v vs off us ih => simp [lay, ih]
  | case2 v vs u us ih => simp [lay, ih]
  | case3 vs off us h1 h2 =>
    unfold lay
    split
    · exact (h1 _ _ _ rfl rfl).elim
    · exact (h2 _ _ _ _ rfl rfl rfl).elim
    · rfl
theorem lay_set (vs us : List Value) (u : Value) : ∀ (off : Nat), off < vs.length → lay vs off (u :: us) = (lay (vs.set off u) (off + 1) us) := by
  induction vs with
  | nil => intro off h; simp at h
  | cons v vs ih =>
    intro off h
    cases off with
    | zero => cases vs <;> simp [lay]
    | succ off => simp only [lay, List.set_cons_succ]; rw [ih off (by simpa using h)]
theorem lay_nil (vs : List Value) (off : Nat) : lay vs off [] = vs := by
  induction vs generalizing off with
  | nil => simp [lay]
  | cons v vs ih => cases off <;> simp [lay, ih]
theorem fold_lay (us : List Value) : ∀ (cs : Array Value) (off j : Nat), off + j + us.length ≤ cs.size →
    ((us.zipIdx j).foldl (fun (cs : Array Value) (x : Value × Nat) => cs.setIfInBounds (off + x.2) x.1) cs) = (lay cs.toList (off + j) us).toArray := by
  induction us with
  | nil => intro cs off j _; simp [lay_nil]
  | cons u us ih =>
    intro cs off j h
    simp only [List.length_cons] at h
    rw [List.zipIdx_cons, List.foldl_cons, ih _ off (j + 1) (by simp; omega), lay_set _ _ _ _ (by simp; omega)]
    congr 1
    simp [Nat.add_assoc]
theorem fillL_eq {place : Nat → Option (Nat × Nat)} : ∀ {parts : List (Nat × Value)} {cells cs : List Value}, fillL place cells parts = some cs → Instr.fill place cells.toArray parts = some cs.toArray := by
  intro parts
  induction parts with
  | nil => intro cells cs h; rw [frcL_eq h]; rfl
  | cons p rest ih =>
    intro cells cs h
    obtain ⟨i, v⟩ := p
    unfold fillL at h
    unfold Instr.fill
    cases hp : place i with
    | none => simp [hp] at h
    | some q =>
      obtain ⟨off, size⟩ := q
      simp only [hp] at h
      split at h
      · rename_i h1 h2
        have e1 : v.cells.size = size := by have := Nat.eq_of_beq_eq_true h1; rw [vcl_eq] at this; simpa using this
        have e2 := Nat.le_of_ble_eq_true h2
        simp only [e1]
        rw [if_neg (by simp; omega)]
        have e3 := fold_lay v.cells.toList cells.toArray off 0 (by simp; omega)
        rw [← Array.foldl_toList, Array.toList_zipIdx]
        simp only [Nat.add_zero] at e3
        rw [e3, ← vcl_eq]
        exact ih h
      · cases h

def structB (P : Program) (t : TypeId) (ps : List (Nat × Nat)) : Prop := ∃ fs, P.underlying t = some (.struct fs) ∧ fs.toList.mapM (fun (f : Field) => (P.info? f.type).map fun i => (f.offset, i.size)) = some ps
class TyStruct (P : Program) (t : TypeId) (ps : outParam (List (Nat × Nat))) : Prop where h : structB P t ps
def evP (ρ : Rho) : List (Nat × Operand) → Option (List (Nat × Value))
  | [] => some []
  | (i, x) :: xs => match ev ρ x with
    | some v => match evP ρ xs with
      | some vs => some ((i, v) :: vs)
      | none => none
    | none => none
theorem evP_eq {ρ : Rho} {e : Operand → Value} (he : ∀ x v, ev ρ x = some v → e x = v) : ∀ {xs : List (Nat × Operand)} {vs : List (Nat × Value)}, evP ρ xs = some vs → xs.map (fun (p : Nat × Operand) => (p.1, e p.2)) = vs := by
  intro xs
  induction xs with
  | nil => intro vs h; cases h; rfl
  | cons p xs ih =>
    intro vs h
    obtain ⟨i, x⟩ := p
    unfold evP at h
    cases h1 : ev ρ x with
    | none => simp [h1] at h
    | some v =>
      cases h2 : evP ρ xs with
      | none => simp [h1, h2] at h
      | some us => simp [h1, h2] at h; subst h; simp [he x v h1, ih h2]

theorem mapM_places {P : Program} : ∀ {fs : List Field} {ps : List (Nat × Nat)}, fs.mapM (fun (f : Field) => (P.info? f.type).map fun i => (f.offset, i.size)) = some ps →
    ∀ w, (fs.mapM (fun (f : Field) => do let z ← sizeOf f.type; pure (f.offset, z) : Field → Sem (Nat × Nat))).run P w = .ok ps w := by
  intro fs
  induction fs with
  | nil => intro ps h w; simp at h; subst h; simp
  | cons f fs ih =>
    intro ps h w
    rw [List.mapM_cons] at h
    cases h1 : P.info? f.type with
    | none => simp [h1] at h
    | some i =>
      cases h2 : fs.mapM (fun (f : Field) => (P.info? f.type).map fun i => (f.offset, i.size)) with
      | none => simp [h1, h2] at h
      | some qs =>
        simp [h1, h2] at h
        subst h
        rw [List.mapM_cons]
        simp only [Sem.run_bind, sizeOf_run h1, Result.andThen_ok, Sem.run_pure, ih h2]

section ops
variable {P : Program} {X : Cx} {n : Nat} {ds : List Deferred} {ρ : Rho} {Γ : List HP} {Nx : Value → List HP → Prop} {d : Nat} {ty : TypeId}

theorem o_build {t : Nat} {parts : List (Nat × Operand)} {vs : List (Nat × Value)} {zs cs : List Value} {ps : List (Nat × Nat)} [T : TyStruct P t ps] [Z : TyZero P t zs] (hx : evP ρ parts = some vs) (hf : fillL (ps[·]?) zs vs = some cs) (hn : Nat.blt d n = true)
    (h : Nx (.agg cs.toArray) Γ) : ExO P X n ds (some d) (.build t parts.toArray) ty Nx ρ Γ :=
  o_value (by simp) hn fun ee o w hop hty he heL hs => ⟨_, w, Γ, by
    obtain ⟨i, zv, hi, hz, rfl⟩ := Z.h
    obtain ⟨fs, hu, hm⟩ := T.h
    have h1 := mapM_places hm w
    have h2 := fillL_eq hf
    have h3 := evP_eq he hx
    have h4 : (fs.mapM (fun (f : Field) => do let z ← sizeOf f.type; pure (f.offset, z) : Field → Sem (Nat × Nat))).run P w = .ok ps.toArray w := by
      have e : fs.mapM (fun (f : Field) => do let z ← sizeOf f.type; pure (f.offset, z) : Field → Sem (Nat × Nat)) = List.toArray <$> fs.toList.mapM (fun (f : Field) => do let z ← sizeOf f.type; pure (f.offset, z) : Field → Sem (Nat × Nat)) := by
        rw [Array.mapM_eq_mapM_toList]
      rw [e, Sem.run_map, h1]; rfl
    have h5 : (List.map (fun x : Nat × Operand => (x.1, ee x.2)) parts) = vs := h3
    simp [execOp, hop, Instr.build, zeroValue, typeInfo_run hi, hz, underlying_run hu]
    simp at h4
    rw [h4]
    simp [h5]
    have h6 : (fun x => ps[x]?) = (fun (x : Nat) => ps[x]?) := rfl
    simp at h2
    rw [h2]; simp, hs, h⟩
theorem v_build {t : Nat} {parts : List (Nat × Operand)} {vs : List (Nat × Value)} {zs cs : List Value} {ps : List (Nat × Nat)} [T : TyStruct P t ps] [Z : TyZero P t zs] (hx : evP ρ parts = some vs) (hf : fillL (ps[·]?) zs vs = some cs) : OpV P (.build t parts.toArray) ty ρ Γ (.agg cs.toArray) :=
  ⟨by simp, fun ee o E w hop hty he heL hs => by
    obtain ⟨i, zv, hi, hz, rfl⟩ := Z.h
    obtain ⟨fs, hu, hm⟩ := T.h
    have h1 := mapM_places hm w
    have h2 := fillL_eq hf
    have h3 := evP_eq he hx
    have h4 : (fs.mapM (fun (f : Field) => do let z ← sizeOf f.type; pure (f.offset, z) : Field → Sem (Nat × Nat))).run P w = .ok ps.toArray w := by
      have e : fs.mapM (fun (f : Field) => do let z ← sizeOf f.type; pure (f.offset, z) : Field → Sem (Nat × Nat)) = List.toArray <$> fs.toList.mapM (fun (f : Field) => do let z ← sizeOf f.type; pure (f.offset, z) : Field → Sem (Nat × Nat)) := by
        rw [Array.mapM_eq_mapM_toList]
      rw [e, Sem.run_map, h1]; rfl
    have h5 : (List.map (fun x : Nat × Operand => (x.1, ee x.2)) parts) = vs := h3
    simp [execOp, hop, Instr.build, zeroValue, typeInfo_run hi, hz, underlying_run hu]
    simp at h4
    rw [h4]
    simp [h5]
    have h6 : (fun x => ps[x]?) = (fun (x : Nat) => ps[x]?) := rfl
    simp at h2
    rw [h2]; simp⟩
end ops
end Go.Proofs.Ythneebbmodkjiaa


namespace Go.Proofs.Ythneebbmodkjiaa
open Go.RowKit

/-- A byte as a value. -/
def bv (x : UInt8) : Value := .int .u8 (x.toNat : Int)
theorem bv_one (l : List UInt8) : (l.map bv).all Value.oneCell' = true := by simp [bv, Value.oneCell']
/-- A byte string out of its bytes. -/
def bstr (l : List UInt8) : ByteArray := ⟨l.toArray⟩
theorem bstr_size (l : List UInt8) : (bstr l).size = l.length := by simp [bstr, ByteArray.size]
theorem bstr_toList (s : ByteArray) : bstr s.data.toList = s := rfl
theorem bstr_inj {a b : List UInt8} (h : bstr a = bstr b) : a = b := by
  simpa [bstr] using h

theorem map_range0 (f : Nat → Value) : Array.map f (Array.range 0) = #[] := by apply Array.ext'; simp

def zs (zv : List Value) : Nat → List Value
  | 0 => []
  | m + 1 => zv ++ zs zv m
theorem zs_length (zv : List Value) (m : Nat) : (zs zv m).length = m * zv.length := by
  induction m with
  | zero => simp [zs]
  | succ m ih => simp [zs, ih, Nat.succ_mul, Nat.add_comm]
theorem zs_one (v : Value) (m : Nat) : zs [v] m = List.replicate m v := by
  induction m with
  | zero => rfl
  | succ m ih => simp [zs, ih, List.replicate_succ]
theorem zs_get (zv : List Value) (m i : Nat) (h : i < m * zv.length) : (zs zv m)[i]? = zv[i % zv.length]? := by
  induction m generalizing i with
  | zero => simp at h
  | succ m ih =>
    unfold zs
    by_cases hi : i < zv.length
    · rw [List.getElem?_append_left hi, Nat.mod_eq_of_lt hi]
    · rw [List.getElem?_append_right (by omega), ih _ (by rw [Nat.succ_mul] at h; omega)]
      rw [← Nat.mod_eq_sub_mod (by omega)]
theorem zeroCells_toList (zero : Array Value) (m : Nat) : (Builtin.zeroCells zero m).toList = zs zero.toList m := by
  apply List.ext_getElem?
  intro i
  by_cases hi : i < m * zero.size
  · rw [zs_get _ _ _ (by simpa using hi)]
    have hz : 0 < zero.size := by
      apply Nat.pos_of_ne_zero; intro h0; rw [h0] at hi; simp at hi
    have hm : i % zero.size < zero.size := Nat.mod_lt _ hz
    simp only [Builtin.zeroCells, Array.toList_map, List.getElem?_map, Array.toList_range, List.getElem?_range hi, Option.map_some, Array.length_toList]
    rw [getElem!_pos zero _ hm]
    simp [hm]
  · rw [List.getElem?_eq_none (by simp [Builtin.zeroCells]; omega), List.getElem?_eq_none (by rw [zs_length]; simp; omega)]

section ops
variable {P : Program} {X : Cx} {n : Nat} {ds : List Deferred} {ρ : Rho} {Γ : List HP} {Nx : Value → List HP → Prop} {d : Nat} {ty : TypeId}

theorem o_buildSlice {t e s y m : Nat} {parts : List (Nat × Operand)} {vs : List (Nat × Value)} {zv cs : List Value} [T : TySlice P t e s y] [Z : TyZero P e zv] (hx : evP ρ parts = some vs) (hzl : zv.length = s) (hm : Nat.ble (m * s) 16777216 = true)
    (hf : fillL (fun i => some (i * s, s)) (zs zv m) vs = some cs) (hcl : Nat.beq cs.length (m * s) = true) (hn : Nat.blt d n = true)
    (h : ∀ a, Nx (.slice a m m) (Sl s a m m cs :: Γ)) : ExO P X n ds (some d) (.buildSlice t m parts.toArray) ty Nx ρ Γ :=
  o_value (by simp) hn fun ee o w hop hty he heL hs => by
    obtain ⟨i, z, hi, hz, hzz⟩ := Z.h
    obtain ⟨hu, inf, hinf, hsz, hby⟩ := T.und
    rw [hi] at hinf; cases hinf
    have h2 := fillL_eq hf
    have h3 : (List.map (fun x : Nat × Operand => (x.1, ee x.2)) parts) = vs := evP_eq he hx
    have hle := Nat.le_of_ble_eq_true hm
    have hcl' := Nat.eq_of_beq_eq_true hcl
    have s1 := hs.alloc_row cs e
    have hzs : z.cells.size = s := by rw [← hzl, ← hzz]; simp
    refine ⟨.slice (some ⟨w.heap.size, 0, none⟩) m m, _, Sl s (some ⟨w.heap.size, 0, none⟩) m m cs :: Γ, ?_, St.sl_join (junk := []) hcl' (by simpa using hcl') (Nat.le_refl _) (by simpa using s1), h _⟩
    have hzc : ((Array.range (m * s)).map (z.cells[· % z.cells.size]!)).toList = zs zv m := by
      have := zeroCells_toList z.cells m
      rw [hzz] at this
      rw [← this]
      simp [Builtin.zeroCells, hzs]
    have h4 : (Array.range (m * s)).map (z.cells[· % z.cells.size]!) = (zs zv m).toArray := by rw [← hzc]
    by_cases h0 : m * s = 0
    · have e0 : zs zv m = [] := by
        apply List.length_eq_zero_iff.1; rw [zs_length, hzl]; exact h0
      rw [e0] at h2
      simp [execOp, hop, Instr.buildSlice, underlying_run hu, sizeOf_run hi, hsz, h0, h3]
      rw [map_range0, h2]
      simp [newRow]
    · have h5 : ¬ (16777216 < m * s) := by omega
      simp [execOp, hop, Instr.buildSlice, underlying_run hu, sizeOf_run hi, hsz, h0, h3, h5, zeroValue, typeInfo_run hi, hz]
      rw [h4, h2]
      simp [newRow]

theorem TyZero.get {t : Nat} {zv : List Value} [Z : TyZero P t zv] : ∃ z : Value, z.cells.toList = zv ∧ ∃ i, P.info? t = some i ∧ i.zero = some z :=
  let ⟨i, z, hi, hz, hh⟩ := Z.h; ⟨z, hh, i, hi, hz⟩

/-- append(x, y...) -/
theorem o_append {A : HP} {t t2 e s y : Nat} {x z : Operand} {a a2 : Option Addr} {len cap m cap2 : Nat} {xs ys zv : List Value} {Δ : List HP} [T : TySlice P t e s y] [NI : NoInt P t2] [Z : TyZero P e zv] (hx : ev ρ x = some (.slice a len cap)) (hz : ev ρ z = some (.slice a2 m cap2))
    [TS : TakeSl Γ a s len cap xs Δ] (R : Reads A s a2 m ys) [H : Has Δ A] (hzl : zv.length = s) (hy0 : Nat.blt 0 y = true) (h1 : ys.all Value.oneCell' = true) (hb : (2 * (len + m) + 192) * y ≤ 2 ^ 48) (hn : Nat.blt d n = true)
    (h : ∀ a' cap', len + m ≤ cap' → Nx (.slice a' (len + m) cap') (Sl s a' (len + m) cap' (xs ++ ys) :: Δ)) :
    ExO P X n ds (some d) (.call ⟨.builtin .append, #[x, z], #[t, t2]⟩) ty Nx ρ Γ :=
  o_value (by simp) hn fun ee o w hop hty he heL hs => by
    obtain ⟨z0, hz0, hzi⟩ := TyZero.get (P := P) (t := e)
    have st := hs.perm TS.h
    have hzs : z0.cells.size = s := by rw [← hzl, ← hz0]; simp
    obtain ⟨a', cap', w', hr, hc, s1⟩ := append_run (P := P) (t := t) (t2 := t2) (y := y) (m := m) (yv := .slice a2 m cap2) hzi hzs (by simpa [Nat.blt_eq] using hy0) st (fun w => by simp [Builtin.lenOf]) R.1
      (fun w' hw' => firstCells_run (P := P) (cap := cap2) (Γ := Δ) (st.drop.env hw') R) h1 hb o.type
    refine ⟨_, w', _, ?_, s1, h a' cap' hc⟩
    simp [execOp, hop, resolve, he x _ hx, he z _ hz, invoke, builtin, hr]

theorem Sl.lenOf {E : Env} {Γ : List HP} {w : World} {s len cap : Nat} {a : Option Addr} {xs : List Value} (st : St E (Sl s a len cap xs :: Γ) w) : xs.length = len * s := st.sl_split.1
/-- append(x, y...), y a slice made for that alone. -/
theorem o_appendT {t t2 e s y : Nat} {x z : Operand} {a a2 : Option Addr} {len cap m cap2 : Nat} {xs ys zv : List Value} {Δ Θ : List HP} [T : TySlice P t e s y] [NI : NoInt P t2] [Z : TyZero P e zv] (hx : ev ρ x = some (.slice a len cap)) (hz : ev ρ z = some (.slice a2 m cap2))
    [TS2 : TakeSl Γ a2 s m cap2 ys Δ] [TS : TakeSl Δ a s len cap xs Θ] (hzl : zv.length = s) (hy0 : Nat.blt 0 y = true) (h1 : ys.all Value.oneCell' = true) (hb : (2 * (len + m) + 192) * y ≤ 2 ^ 48) (hn : Nat.blt d n = true)
    (h : ∀ a' cap', len + m ≤ cap' → Nx (.slice a' (len + m) cap') (Sl s a' (len + m) cap' (xs ++ ys) :: Θ)) :
    ExO P X n ds (some d) (.call ⟨.builtin .append, #[x, z], #[t, t2]⟩) ty Nx ρ Γ :=
  o_value (by simp) hn fun ee o w hop hty he heL hs => by
    obtain ⟨z0, hz0, hzi⟩ := TyZero.get (P := P) (t := e)
    have st2 := hs.perm TS2.h
    have R := Sl.reads s a2 m cap2 ys st2.sl_split.1
    have st := st2.perm ((TS.h.cons _).trans (.swap _ _ _))
    have hzs : z0.cells.size = s := by rw [← hzl, ← hz0]; simp
    obtain ⟨a', cap', w', hr, hc, s1⟩ := append_run (P := P) (t := t) (t2 := t2) (y := y) (m := m) (yv := .slice a2 m cap2) hzi hzs (by simpa [Nat.blt_eq] using hy0) st (fun w => by simp [Builtin.lenOf]) R.1
      (fun w' hw' => firstCells_run (P := P) (cap := cap2) (A := Sl s a2 m cap2 ys) (Γ := Sl s a2 m cap2 ys :: Δ) (st2.env hw') R) h1 hb o.type
    refine ⟨_, w', _, ?_, Ent.st ((Ent.drop _ _).cons _) s1, h a' cap' hc⟩
    simp [execOp, hop, resolve, he x _ hx, he z _ hz, invoke, builtin, hr]

/-- append(x[:0:0], y...): nothing is owned of the first; or append(nil, y...). -/
theorem o_append0 {A : HP} {t t2 e s y : Nat} {x z : Operand} {a a2 : Option Addr} {m cap2 : Nat} {ys zv : List Value} [T : TySlice P t e s y] [NI : NoInt P t2] [Z : TyZero P e zv] (hx : ev ρ x = some (.slice a 0 0)) (ha : a = none ∨ ∃ b off, a = some ⟨b, off, none⟩) (hz : ev ρ z = some (.slice a2 m cap2))
    (R : Reads A s a2 m ys) [H : Has Γ A] (hzl : zv.length = s) (hy0 : Nat.blt 0 y = true) (h1 : ys.all Value.oneCell' = true) (hb : (2 * m + 192) * y ≤ 2 ^ 48) (hn : Nat.blt d n = true)
    (h : ∀ a' cap', m ≤ cap' → Nx (.slice a' m cap') (Sl s a' m cap' ys :: Γ)) :
    ExO P X n ds (some d) (.call ⟨.builtin .append, #[x, z], #[t, t2]⟩) ty Nx ρ Γ :=
  o_value (by simp) hn fun ee o w hop hty he heL hs => by
    obtain ⟨z0, hz0, hzi⟩ := TyZero.get (P := P) (t := e)
    have hzs : z0.cells.size = s := by rw [← hzl, ← hz0]; simp
    have st : St X.E (Sl s a 0 0 [] :: Γ) w := by
      rcases ha with rfl | ⟨b, off, rfl⟩
      · exact (Ent.nilSl s Γ).st hs
      · exact (Ent.zeroSl s b off Γ).st hs
    obtain ⟨a', cap', w', hr, hc, s1⟩ := append_run (P := P) (t := t) (t2 := t2) (y := y) (m := m) (yv := .slice a2 m cap2) hzi hzs (by simpa [Nat.blt_eq] using hy0) st (fun w => by simp [Builtin.lenOf]) R.1
      (fun w' hw' => firstCells_run (P := P) (cap := cap2) (Γ := Γ) (hs.env hw') R) h1 (by simpa using hb) o.type
    simp at hc s1
    refine ⟨_, w', _, ?_, s1, h a' cap' hc⟩
    simp [execOp, hop, resolve, he x _ hx, he z _ hz, invoke, builtin]
    simp at hr; rw [hr]; rfl

/-! ### make -/
theorem o_make {t e s y m : Nat} {x z : Operand} {k1 k2 : IntKind} {i j : Int} {zv : List Value} [T : TySlice P t e s y] [Z : TyZero P e zv] (hx : ev ρ x = some (.int k1 i)) (hz : ev ρ z = some (.int k2 j)) (hi : i = (m : Int)) (hj : j = (m : Int)) (hzl : zv.length = s) (hb : y * m ≤ 281474976710656) (hm : m < 9223372036854775808) (hn : Nat.blt d n = true)
    (h : ∀ a, Nx (.slice a m m) (Sl s a m m (zs zv m) :: Γ)) : ExO P X n ds (some d) (.makeSlice t x z) ty Nx ρ Γ :=
  o_value (by simp) hn fun ee o w hop hty he heL hs => by
    subst hi hj
    obtain ⟨inf, z0, hi, hz0, hzz⟩ := Z.h
    obtain ⟨hu, inf', hinf, hsz, hby⟩ := T.und
    rw [hi] at hinf; cases hinf
    have hzs : z0.cells.size = s := by rw [← hzl, ← hzz]; simp
    have s1 := hs.alloc_row (zs zv m) e
    refine ⟨.slice (some ⟨w.heap.size, 0, none⟩) m m, _, Sl s (some ⟨w.heap.size, 0, none⟩) m m (zs zv m) :: Γ, ?_, St.sl_join (junk := []) (by rw [zs_length, hzl]) (by simp [zs_length, hzl]) (Nat.le_refl _) (by simpa using s1), h _⟩
    have hw : IntKind.i64.wrap (m : Int) = m := by
      have h0 : (m : Int) < 9223372036854775808 := by omega
      rw [IntKind.wrap_i64]; omega
    have h1 : ¬ ((281474976710656 : Int) < y * m) := by
      rw [← Int.natCast_mul]; omega
    have h2 : ¬ ((m : Int) < 0) := by omega
    have hzc : ((Array.range (m * s)).map (z0.cells[· % z0.cells.size]!)) = (zs zv m).toArray := by
      have := zeroCells_toList z0.cells m
      rw [hzz] at this
      rw [← this]
      unfold Builtin.zeroCells; rw [hzs]
    by_cases h0 : m * s = 0
    · have e0 : zs zv m = [] := by apply List.length_eq_zero_iff.1; rw [zs_length, hzl]; exact h0
      simp [execOp, hop, he x _ hx, he z _ hz, Instr.makeSlice, underlying_run hu, asInt, asIntOf, typeInfo_run hi, hby, hw, h1, h2, sizeOf_run hi, hsz, h0, e0, newRow]
      rw [map_range0]
    · simp [execOp, hop, he x _ hx, he z _ hz, Instr.makeSlice, underlying_run hu, asInt, asIntOf, typeInfo_run hi, hby, hw, h1, h2, sizeOf_run hi, hsz, h0, zeroValue, hz0, newRow]
      rw [hzc]
end ops
end Go.Proofs.Ythneebbmodkjiaa
