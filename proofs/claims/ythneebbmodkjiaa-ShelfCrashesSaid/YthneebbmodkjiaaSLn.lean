/- append(x, make(.., n)...). -/
import Derived.Test.YthneebbmodkjiaaSLm
namespace Go.Proofs.Ythneebbmodkjiaa
open Go.RowKit
section ops
variable {P : Program} {X : Cx} {n : Nat} {ds : List Deferred} {ρ : Rho} {Γ : List HP} {Nx : Value → List HP → Prop} {d : Nat} {ty : TypeId}

theorem append_textZ {w : World} {t t2 e s y : Nat} {base : Option Addr} {len cap m : Nat} {kk : IntKind} {zv : Value} [T : TySlice P t e s y] [NI : TyInt P t2 kk]
    (hy0 : 0 < y) (hb : (2 * (len + m) + 192) * y ≤ 2 ^ 48) (ty : TypeId) (hm1 : zv.cells.size = s)
    (old : Array Value) (hold : ∀ (w' : World), w'.heap = w.heap → (Builtin.firstCells s len (.slice base len cap)).run P w' = .ok old w') (hz : ∃ i, P.info? e = some i ∧ i.zero = some zv) :
    (len + m ≤ cap ∧ (Builtin.append_ #[t, t2] ty #[.slice base len cap, .int .i64 m]).run P w = ((match base with | some a => storeCells (a.add (len * s)) (zs zv.cells.toList m) | none => pure ()) >>= fun _ => pure (Value.slice base (len + m) cap)).run P w) ∨
    (cap < len + m ∧ ∃ c, len + m ≤ c ∧ (Builtin.append_ #[t, t2] ty #[.slice base len cap, .int .i64 m]).run P w = .ok (.slice (some ⟨w.heap.size, 0, none⟩) (len + m) c) (w.drew.alloc (.cells (old ++ (zs zv.cells.toList m).toArray ++ Builtin.zeroCells zv.cells (c - (len + m))) e))) := by
  obtain ⟨hu, inf, hinf, hsz, hby⟩ := T.und
  obtain ⟨inf', hinf', hzero⟩ := hz
  rw [hinf] at hinf'; cases hinf'
  have hu2 := NI.h
  have hmy : m * y ≤ 2 ^ 48 := by
    have : m * y ≤ (2 * (len + m) + 192) * y := Nat.mul_le_mul_right y (by omega)
    omega
  have hm0 : m ≤ 2 ^ 48 := by
    have : m * 1 ≤ m * y := Nat.mul_le_mul_left m hy0
    omega
  have hw : IntKind.i64.wrap (m : Int) = m := by rw [IntKind.wrap_i64]; omega
  have h1 : ¬ ((281474976710656 : Int) < m * y) := by rw [← Int.natCast_mul]; omega
  have h2 : ¬ ((m : Int) < 0) := by omega
  have hzc : (Builtin.zeroCells zv.cells m) = (zs zv.cells.toList m).toArray := by
    have := zeroCells_toList zv.cells m
    rw [← this]
  have e0 : m * s = 0 → zs zv.cells.toList m = [] := fun h0 => by apply List.length_eq_zero_iff.1; rw [zs_length]; simpa [hm1] using h0
  by_cases hfit : len + m ≤ cap
  · refine .inl ⟨hfit, ?_⟩
    by_cases h0 : m * s = 0
    · simp [Builtin.append_, underlying_run hu, underlying_run hu2, sizeOf_run hinf, hsz, hfit, asInt, asIntOf, hw, h2, typeInfo_run hinf, hby, h1, h0, e0 h0]
      cases base <;> simp
    · simp [Builtin.append_, underlying_run hu, underlying_run hu2, sizeOf_run hinf, hsz, hfit, asInt, asIntOf, hw, h2, typeInfo_run hinf, hby, h1, h0, zeroValue, hzero, hzc]
      cases base <;> simp
  · refine .inr ⟨by omega, len + m + (w.tape w.drawn (.appendCap (len + m) cap e)) % (2 ^ 63 - (len + m)), by omega, ?_⟩
    have hnc := nextcap_le (len + m) cap (by omega)
    have hle : ¬ (2 ^ 48 < Builtin.nextslicecap (len + m) cap * y) := by
      have := Nat.mul_le_mul_right y hnc; omega
    have hle' : ¬ (281474976710656 < Builtin.nextslicecap (len + m) cap * y) := hle
    have h4 := hold w.drew rfl
    have hyne : ¬ y = 0 := by omega
    have h6 : ¬ ((len + m : Nat) : Int) > IntKind.i64.max := by
      have : IntKind.i64.max = 9223372036854775807 := by decide
      have h7 : (len + m) * 1 ≤ (len + m) * y := Nat.mul_le_mul_left _ hy0
      have h8 : (len + m) * y ≤ (2 * (len + m) + 192) * y := Nat.mul_le_mul_right y (by omega)
      rw [this]; omega
    simp at h6
    by_cases h0 : m * s = 0
    · simp [Builtin.append_, underlying_run hu, underlying_run hu2, sizeOf_run hinf, typeInfo_run hinf, hsz, hby, hfit, hyne, hle', asInt, asIntOf, hw, h2, h1, Question.forced, Question.cut, h4, h0, e0 h0, zeroValue, hzero, newRow]
      intro h; omega
    · simp [Builtin.append_, underlying_run hu, underlying_run hu2, sizeOf_run hinf, typeInfo_run hinf, hsz, hby, hfit, hyne, hle', asInt, asIntOf, hw, h2, h1, Question.forced, Question.cut, h4, h0, hzc, zeroValue, hzero, newRow]
      intro h; omega

/-- append(x, make([]T, m)...). -/
theorem o_appendZ {t t2 e s y : Nat} {x z : Operand} {a : Option Addr} {len cap m : Nat} {i : Int} {kk : IntKind} {xs zv : List Value} {Δ : List HP} [T : TySlice P t e s y] [NI : TyInt P t2 kk] [Z : TyZero P e zv] (hx : ev ρ x = some (.slice a len cap)) (hz : ev ρ z = some (.int .i64 i)) (hi : i = (m : Int))
    [TS : TakeSl Γ a s len cap xs Δ] (hzl : zv.length = s) (hy0 : Nat.blt 0 y = true) (h1 : zv.all Value.oneCell' = true) (hb : (2 * (len + m) + 192) * y ≤ 2 ^ 48) (hn : Nat.blt d n = true)
    (h : ∀ a' cap', len + m ≤ cap' → Nx (.slice a' (len + m) cap') (Sl s a' (len + m) cap' (xs ++ zs zv m) :: Δ)) :
    ExO P X n ds (some d) (.call ⟨.builtin .append, #[x, z], #[t, t2]⟩) ty Nx ρ Γ :=
  o_value (by simp) hn fun ee o w hop hty he heL hs => by
    subst hi
    obtain ⟨z0, hz0, hzi⟩ := TyZero.get (P := P) (t := e)
    have st := hs.perm TS.h
    have hzs : z0.cells.size = s := by rw [← hzl, ← hz0]; simp
    have hone : (zs zv m).all Value.oneCell' = true := by
      rw [List.all_eq_true]
      intro v hv
      obtain ⟨j, hj⟩ := List.mem_iff_getElem?.1 hv
      have hlt := (List.getElem?_eq_some_iff.1 hj).1
      rw [zs_length] at hlt
      rw [zs_get zv m j hlt] at hj
      exact List.all_eq_true.1 h1 v (List.mem_of_getElem? hj)
    have key : ∃ a' cap' w', (Builtin.append_ #[t, t2] o.type #[.slice a len cap, .int .i64 m]).run P w = .ok (.slice a' (len + m) cap') w' ∧ len + m ≤ cap' ∧ St X.E (Sl s a' (len + m) cap' (xs ++ zs zv m) :: Δ) w' := by
      obtain ⟨g1, g2, hcase⟩ := st.sl_split
      have hold : ∀ (w' : World), w'.heap = w.heap → (Builtin.firstCells s len (.slice a len cap)).run P w' = .ok xs.toArray w' := fun w' hw' =>
        firstCells_run (P := P) (cap := cap) (st.env hw') (Sl.reads s a len cap xs g1)
      rcases append_textZ (P := P) (t := t) (t2 := t2) (e := e) (s := s) (y := y) (w := w) (base := a) (cap := cap) (m := m) (by simpa [Nat.blt_eq] using hy0) hb o.type hzs xs.toArray hold hzi with ⟨hfit, hr⟩ | ⟨hno, c, hc, hr⟩
      · rw [hz0] at hr
        rcases hcase with ⟨rfl, rfl, rfl, rfl, st0⟩ | ⟨b, off, junk, rfl, q2, st0⟩
        · obtain rfl : m = 0 := by omega
          have e0 : zs zv 0 = [] := by apply List.length_eq_zero_iff.1; rw [zs_length]; omega
          exact ⟨none, 0, w, by rw [hr]; simp, by omega, by simpa [e0] using st⟩
        · have hjl : (zs zv m).length ≤ junk.length := by
            have : (len + m) * s ≤ cap * s := Nat.mul_le_mul_right s hfit
            rw [Nat.add_mul] at this
            rw [zs_length, hzl]
            simp at q2; omega
          obtain ⟨w', hr2, s1⟩ := storeCells_run (P := P) (off := off) (zs zv m) xs.length w (fun B => B :: Δ) (xs ++ junk) X.E _ (UpdRow.here Δ b off _) st0 (by simp; omega) (fun v hv => List.all_eq_true.1 hone v hv) (off + len * s) 0 (by omega)
          refine ⟨some ⟨b, off, none⟩, cap, w', ?_, hfit, ?_⟩
          · rw [hr]; simp [Addr.add_none, hr2]
          · have e1 : (xs ++ junk).take xs.length ++ zs zv m ++ (xs ++ junk).drop (xs.length + (zs zv m).length) = (xs ++ zs zv m) ++ junk.drop (zs zv m).length := by
              rw [List.take_left, ← List.drop_drop, List.drop_left]
            rw [e1] at s1
            exact St.sl_join (by simp [g1, zs_length, hzl, Nat.add_mul]) (by simp at q2 ⊢; omega) hfit s1
      · rw [hz0] at hr
        have st0 : St X.E Δ w := st.drop
        refine ⟨_, c, _, hr, hc, ?_⟩
        have s1 := st0.drew.alloc_row (xs ++ zs zv m ++ (Builtin.zeroCells z0.cells (c - (len + m))).toList) e
        have e1 : (xs ++ zs zv m ++ (Builtin.zeroCells z0.cells (c - (len + m))).toList).toArray = xs.toArray ++ (zs zv m).toArray ++ Builtin.zeroCells z0.cells (c - (len + m)) := by
          apply Array.ext'; simp
        rw [e1] at s1
        refine St.sl_join (by simp [g1, zs_length, hzl, Nat.add_mul]) ?_ hc s1
        have h3 := zeroCells_zero (c - (len + m)) z0.cells
        rw [hzs] at h3
        rw [List.length_append, h3, List.length_append, g1, zs_length, hzl, ← Nat.add_mul, ← Nat.add_mul]
        congr 1; omega
    obtain ⟨a', cap', w', hr, hc, s1⟩ := key
    refine ⟨_, w', _, ?_, s1, h a' cap' hc⟩
    simp [execOp, hop, resolve, he x _ hx, he z _ hz, invoke, builtin, hr]
end ops
end Go.Proofs.Ythneebbmodkjiaa
namespace Go.Proofs.Ythneebbmodkjiaa
/-- What comes behind is shown once, whichever way was gone ahead of it. -/
theorem x_cut {P : Program} {X : Cx} {n : Nat} {ds : List Deferred} {k : List Item} {ρ : Rho} {Γ : List HP} {a b : Code} {α : Type} (I : α → Prop) (ρI : α → Rho) (ΓI : α → List HP)
    (tail : ∀ x, I x → Ex P X n ds (.code b :: k) (ρI x) (ΓI x)) (head : ∀ td, (∀ x, I x → Ex P X n ds td (ρI x) (ΓI x)) → Ex P X n ds (.code a :: td) ρ Γ) : Ex P X n ds (.code (.seq a b) :: k) ρ Γ :=
  x_seq (head _ tail)
/-- The same in the middle of what is still to do: what comes behind the first item. -/
theorem x_cutK {P : Program} {X : Cx} {n : Nat} {ds : List Deferred} {k : List Item} {ρ : Rho} {Γ : List HP} {a : Item} {α : Type} (I : α → Prop) (ρI : α → Rho) (ΓI : α → List HP)
    (tail : ∀ x, I x → Ex P X n ds k (ρI x) (ΓI x)) (head : ∀ td, (∀ x, I x → Ex P X n ds td (ρI x) (ΓI x)) → Ex P X n ds (a :: td) ρ Γ) : Ex P X n ds (a :: k) ρ Γ :=
  head _ tail
end Go.Proofs.Ythneebbmodkjiaa
