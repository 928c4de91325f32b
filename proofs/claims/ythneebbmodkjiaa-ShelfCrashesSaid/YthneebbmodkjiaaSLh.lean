/- More operations: rows made at once, append, make, copy, strings. -/
import Derived.Test.YthneebbmodkjiaaSLg
import Derived.RowKit
namespace Go.Proofs.Ythneebbmodkjiaa
open Go.RowKit

/-- A byte as a value. -/
def bv (x : UInt8) : Value := .int .u8 (x.toNat : Int)
theorem bv_one (l : List UInt8) : (l.map bv).all Value.oneCell' = true := by simp [bv, Value.oneCell']
/-- A byte string out of its bytes. -/
def bstr (l : List UInt8) : ByteArray := ⟨l.toArray⟩
theorem bstr_size (l : List UInt8) : (bstr l).size = l.length := by simp [bstr, ByteArray.size]
theorem bstr_toList (s : ByteArray) : bstr s.data.toList = s := rfl
theorem bstr_inj {a b : List UInt8} (h : bstr a = bstr b) : a = b := by
  simpa [bstr] using h

theorem map_range0 (f : Nat → Value) : Array.map f (Array.range 0) = #[] := by apply Array.ext'; simp

def zs (zv : List Value) : Nat → List Value
  | 0 => []
  | m + 1 => zv ++ zs zv m
theorem zs_length (zv : List Value) (m : Nat) : (zs zv m).length = m * zv.length := by
  induction m with
  | zero => simp [zs]
  | succ m ih => simp [zs, ih, Nat.succ_mul, Nat.add_comm]
theorem zs_one (v : Value) (m : Nat) : zs [v] m = List.replicate m v := by
  induction m with
  | zero => rfl
  | succ m ih => simp [zs, ih, List.replicate_succ]
theorem zs_get (zv : List Value) (m i : Nat) (h : i < m * zv.length) : (zs zv m)[i]? = zv[i % zv.length]? := by
  induction m generalizing i with
  | zero => simp at h
  | succ m ih =>
    unfold zs
    by_cases hi : i < zv.length
    · rw [List.getElem?_append_left hi, Nat.mod_eq_of_lt hi]
    · rw [List.getElem?_append_right (by omega), ih _ (by rw [Nat.succ_mul] at h; omega)]
      rw [← Nat.mod_eq_sub_mod (by omega)]
theorem zeroCells_toList (zero : Array Value) (m : Nat) : (Builtin.zeroCells zero m).toList = zs zero.toList m := by
  apply List.ext_getElem?
  intro i
  by_cases hi : i < m * zero.size
  · rw [zs_get _ _ _ (by simpa using hi)]
    have hz : 0 < zero.size := by
      apply Nat.pos_of_ne_zero; intro h0; rw [h0] at hi; simp at hi
    have hm : i % zero.size < zero.size := Nat.mod_lt _ hz
    simp only [Builtin.zeroCells, Array.toList_map, List.getElem?_map, Array.toList_range, List.getElem?_range hi, Option.map_some, Array.length_toList]
    rw [getElem!_pos zero _ hm]
    simp [hm]
  · rw [List.getElem?_eq_none (by simp [Builtin.zeroCells]; omega), List.getElem?_eq_none (by rw [zs_length]; simp; omega)]

section ops
variable {P : Program} {X : Cx} {n : Nat} {ds : List Deferred} {ρ : Rho} {Γ : List HP} {Nx : Value → List HP → Prop} {d : Nat} {ty : TypeId}

theorem o_buildSlice {t e s y m : Nat} {parts : List (Nat × Operand)} {vs : List (Nat × Value)} {zv cs : List Value} [T : TySlice P t e s y] [Z : TyZero P e zv] (hx : evP ρ parts = some vs) (hzl : zv.length = s) (hm : Nat.ble (m * s) 16777216 = true)
    (hf : fillL (fun i => some (i * s, s)) (zs zv m) vs = some cs) (hcl : Nat.beq cs.length (m * s) = true) (hn : Nat.blt d n = true)
    (h : ∀ a, Nx (.slice a m m) (Sl s a m m cs :: Γ)) : ExO P X n ds (some d) (.buildSlice t m parts.toArray) ty Nx ρ Γ :=
  o_value (by simp) hn fun ee o w hop hty he heL hs => by
    obtain ⟨i, z, hi, hz, hzz⟩ := Z.h
    obtain ⟨hu, inf, hinf, hsz, hby⟩ := T.und
    rw [hi] at hinf; cases hinf
    have h2 := fillL_eq hf
    have h3 : (List.map (fun x : Nat × Operand => (x.1, ee x.2)) parts) = vs := evP_eq he hx
    have hle := Nat.le_of_ble_eq_true hm
    have hcl' := Nat.eq_of_beq_eq_true hcl
    have s1 := hs.alloc_row cs e
    have hzs : z.cells.size = s := by rw [← hzl, ← hzz]; simp
    refine ⟨.slice (some ⟨w.heap.size, 0, none⟩) m m, _, Sl s (some ⟨w.heap.size, 0, none⟩) m m cs :: Γ, ?_, St.sl_join (junk := []) hcl' (by simpa using hcl') (Nat.le_refl _) (by simpa using s1), h _⟩
    have hzc : ((Array.range (m * s)).map (z.cells[· % z.cells.size]!)).toList = zs zv m := by
      have := zeroCells_toList z.cells m
      rw [hzz] at this
      rw [← this]
      simp [Builtin.zeroCells, hzs]
    have h4 : (Array.range (m * s)).map (z.cells[· % z.cells.size]!) = (zs zv m).toArray := by rw [← hzc]
    by_cases h0 : m * s = 0
    · have e0 : zs zv m = [] := by
        apply List.length_eq_zero_iff.1; rw [zs_length, hzl]; exact h0
      rw [e0] at h2
      simp [execOp, hop, Instr.buildSlice, underlying_run hu, sizeOf_run hi, hsz, h0, h3]
      rw [map_range0, h2]
      simp [newRow]
    · have h5 : ¬ (16777216 < m * s) := by omega
      simp [execOp, hop, Instr.buildSlice, underlying_run hu, sizeOf_run hi, hsz, h0, h3, h5, zeroValue, typeInfo_run hi, hz]
      rw [h4, h2]
      simp [newRow]

theorem TyZero.get {t : Nat} {zv : List Value} [Z : TyZero P t zv] : ∃ z : Value, z.cells.toList = zv ∧ ∃ i, P.info? t = some i ∧ i.zero = some z :=
  let ⟨i, z, hi, hz, hh⟩ := Z.h; ⟨z, hh, i, hi, hz⟩

/-- append(x, y...) -/
theorem o_append {A : HP} {t t2 e s y : Nat} {x z : Operand} {a a2 : Option Addr} {len cap m cap2 : Nat} {xs ys zv : List Value} {Δ : List HP} [T : TySlice P t e s y] [NI : NoInt P t2] [Z : TyZero P e zv] (hx : ev ρ x = some (.slice a len cap)) (hz : ev ρ z = some (.slice a2 m cap2))
    [TS : TakeSl Γ a s len cap xs Δ] (R : Reads A s a2 m ys) [H : Has Δ A] (hzl : zv.length = s) (hy0 : Nat.blt 0 y = true) (h1 : ys.all Value.oneCell' = true) (hb : (2 * (len + m) + 192) * y ≤ 2 ^ 48) (hn : Nat.blt d n = true)
    (h : ∀ a' cap', len + m ≤ cap' → Nx (.slice a' (len + m) cap') (Sl s a' (len + m) cap' (xs ++ ys) :: Δ)) :
    ExO P X n ds (some d) (.call ⟨.builtin .append, #[x, z], #[t, t2]⟩) ty Nx ρ Γ :=
  o_value (by simp) hn fun ee o w hop hty he heL hs => by
    obtain ⟨z0, hz0, hzi⟩ := TyZero.get (P := P) (t := e)
    have st := hs.perm TS.h
    have hzs : z0.cells.size = s := by rw [← hzl, ← hz0]; simp
    obtain ⟨a', cap', w', hr, hc, s1⟩ := append_run (P := P) (t := t) (t2 := t2) (y := y) (m := m) (yv := .slice a2 m cap2) hzi hzs (by simpa [Nat.blt_eq] using hy0) st (fun w => by simp [Builtin.lenOf]) R.1
      (fun w' hw' => firstCells_run (P := P) (cap := cap2) (Γ := Δ) (st.drop.env hw') R) h1 hb o.type
    refine ⟨_, w', _, ?_, s1, h a' cap' hc⟩
    simp [execOp, hop, resolve, he x _ hx, he z _ hz, invoke, builtin, hr]

theorem Sl.lenOf {E : Env} {Γ : List HP} {w : World} {s len cap : Nat} {a : Option Addr} {xs : List Value} (st : St E (Sl s a len cap xs :: Γ) w) : xs.length = len * s := st.sl_split.1
/-- append(x, y...), y a slice made for that alone. -/
theorem o_appendT {t t2 e s y : Nat} {x z : Operand} {a a2 : Option Addr} {len cap m cap2 : Nat} {xs ys zv : List Value} {Δ Θ : List HP} [T : TySlice P t e s y] [NI : NoInt P t2] [Z : TyZero P e zv] (hx : ev ρ x = some (.slice a len cap)) (hz : ev ρ z = some (.slice a2 m cap2))
    [TS2 : TakeSl Γ a2 s m cap2 ys Δ] [TS : TakeSl Δ a s len cap xs Θ] (hzl : zv.length = s) (hy0 : Nat.blt 0 y = true) (h1 : ys.all Value.oneCell' = true) (hb : (2 * (len + m) + 192) * y ≤ 2 ^ 48) (hn : Nat.blt d n = true)
    (h : ∀ a' cap', len + m ≤ cap' → Nx (.slice a' (len + m) cap') (Sl s a' (len + m) cap' (xs ++ ys) :: Θ)) :
    ExO P X n ds (some d) (.call ⟨.builtin .append, #[x, z], #[t, t2]⟩) ty Nx ρ Γ :=
  o_value (by simp) hn fun ee o w hop hty he heL hs => by
    obtain ⟨z0, hz0, hzi⟩ := TyZero.get (P := P) (t := e)
    have st2 := hs.perm TS2.h
    have R := Sl.reads s a2 m cap2 ys st2.sl_split.1
    have st := st2.perm ((TS.h.cons _).trans (.swap _ _ _))
    have hzs : z0.cells.size = s := by rw [← hzl, ← hz0]; simp
    obtain ⟨a', cap', w', hr, hc, s1⟩ := append_run (P := P) (t := t) (t2 := t2) (y := y) (m := m) (yv := .slice a2 m cap2) hzi hzs (by simpa [Nat.blt_eq] using hy0) st (fun w => by simp [Builtin.lenOf]) R.1
      (fun w' hw' => firstCells_run (P := P) (cap := cap2) (A := Sl s a2 m cap2 ys) (Γ := Sl s a2 m cap2 ys :: Δ) (st2.env hw') R) h1 hb o.type
    refine ⟨_, w', _, ?_, Ent.st ((Ent.drop _ _).cons _) s1, h a' cap' hc⟩
    simp [execOp, hop, resolve, he x _ hx, he z _ hz, invoke, builtin, hr]

/-- append(x[:0:0], y...): nothing is owned of the first; or append(nil, y...). -/
theorem o_append0 {A : HP} {t t2 e s y : Nat} {x z : Operand} {a a2 : Option Addr} {m cap2 : Nat} {ys zv : List Value} [T : TySlice P t e s y] [NI : NoInt P t2] [Z : TyZero P e zv] (hx : ev ρ x = some (.slice a 0 0)) (ha : a = none ∨ ∃ b off, a = some ⟨b, off, none⟩) (hz : ev ρ z = some (.slice a2 m cap2))
    (R : Reads A s a2 m ys) [H : Has Γ A] (hzl : zv.length = s) (hy0 : Nat.blt 0 y = true) (h1 : ys.all Value.oneCell' = true) (hb : (2 * m + 192) * y ≤ 2 ^ 48) (hn : Nat.blt d n = true)
    (h : ∀ a' cap', m ≤ cap' → Nx (.slice a' m cap') (Sl s a' m cap' ys :: Γ)) :
    ExO P X n ds (some d) (.call ⟨.builtin .append, #[x, z], #[t, t2]⟩) ty Nx ρ Γ :=
  o_value (by simp) hn fun ee o w hop hty he heL hs => by
    obtain ⟨z0, hz0, hzi⟩ := TyZero.get (P := P) (t := e)
    have hzs : z0.cells.size = s := by rw [← hzl, ← hz0]; simp
    have st : St X.E (Sl s a 0 0 [] :: Γ) w := by
      rcases ha with rfl | ⟨b, off, rfl⟩
      · exact (Ent.nilSl s Γ).st hs
      · exact (Ent.zeroSl s b off Γ).st hs
    obtain ⟨a', cap', w', hr, hc, s1⟩ := append_run (P := P) (t := t) (t2 := t2) (y := y) (m := m) (yv := .slice a2 m cap2) hzi hzs (by simpa [Nat.blt_eq] using hy0) st (fun w => by simp [Builtin.lenOf]) R.1
      (fun w' hw' => firstCells_run (P := P) (cap := cap2) (Γ := Γ) (hs.env hw') R) h1 (by simpa using hb) o.type
    simp at hc s1
    refine ⟨_, w', _, ?_, s1, h a' cap' hc⟩
    simp [execOp, hop, resolve, he x _ hx, he z _ hz, invoke, builtin]
    simp at hr; rw [hr]; rfl

/-! ### make -/
theorem o_make {t e s y m : Nat} {x z : Operand} {k1 k2 : IntKind} {i j : Int} {zv : List Value} [T : TySlice P t e s y] [Z : TyZero P e zv] (hx : ev ρ x = some (.int k1 i)) (hz : ev ρ z = some (.int k2 j)) (hi : i = (m : Int)) (hj : j = (m : Int)) (hzl : zv.length = s) (hb : y * m ≤ 281474976710656) (hm : m < 9223372036854775808) (hn : Nat.blt d n = true)
    (h : ∀ a, Nx (.slice a m m) (Sl s a m m (zs zv m) :: Γ)) : ExO P X n ds (some d) (.makeSlice t x z) ty Nx ρ Γ :=
  o_value (by simp) hn fun ee o w hop hty he heL hs => by
    subst hi hj
    obtain ⟨inf, z0, hi, hz0, hzz⟩ := Z.h
    obtain ⟨hu, inf', hinf, hsz, hby⟩ := T.und
    rw [hi] at hinf; cases hinf
    have hzs : z0.cells.size = s := by rw [← hzl, ← hzz]; simp
    have s1 := hs.alloc_row (zs zv m) e
    refine ⟨.slice (some ⟨w.heap.size, 0, none⟩) m m, _, Sl s (some ⟨w.heap.size, 0, none⟩) m m (zs zv m) :: Γ, ?_, St.sl_join (junk := []) (by rw [zs_length, hzl]) (by simp [zs_length, hzl]) (Nat.le_refl _) (by simpa using s1), h _⟩
    have hw : IntKind.i64.wrap (m : Int) = m := by
      have h0 : (m : Int) < 9223372036854775808 := by omega
      rw [IntKind.wrap_i64]; omega
    have h1 : ¬ ((281474976710656 : Int) < y * m) := by
      rw [← Int.natCast_mul]; omega
    have h2 : ¬ ((m : Int) < 0) := by omega
    have hzc : ((Array.range (m * s)).map (z0.cells[· % z0.cells.size]!)) = (zs zv m).toArray := by
      have := zeroCells_toList z0.cells m
      rw [hzz] at this
      rw [← this]
      unfold Builtin.zeroCells; rw [hzs]
    by_cases h0 : m * s = 0
    · have e0 : zs zv m = [] := by apply List.length_eq_zero_iff.1; rw [zs_length, hzl]; exact h0
      simp [execOp, hop, he x _ hx, he z _ hz, Instr.makeSlice, underlying_run hu, asInt, asIntOf, typeInfo_run hi, hby, hw, h1, h2, sizeOf_run hi, hsz, h0, e0, newRow]
      rw [map_range0]
    · simp [execOp, hop, he x _ hx, he z _ hz, Instr.makeSlice, underlying_run hu, asInt, asIntOf, typeInfo_run hi, hby, hw, h1, h2, sizeOf_run hi, hsz, h0, zeroValue, hz0, newRow]
      rw [hzc]
end ops
end Go.Proofs.Ythneebbmodkjiaa
