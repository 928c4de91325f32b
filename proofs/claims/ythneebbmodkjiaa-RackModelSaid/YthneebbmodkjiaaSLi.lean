/- More operations: copy, strings, conversions, equality of pointers and bools. -/
import Derived.Test.YthneebbmodkjiaaSLh
import Derived.Laws.Strings
import Derived.Laws.BytesString
import Derived.Laws.Concat
namespace Go.Proofs.Ythneebbmodkjiaa
open Go.RowKit

theorem Reads.firstN {A : HP} {s m : Nat} {a : Option Addr} {ys : List Value} (R : Reads A s a m ys) (c : Nat) (h : c ≤ m) : Reads A s a c (ys.take (c * s)) := by
  have := R.sub m 0 c (Nat.zero_le _) h (Nat.le_refl _)
  simpa [shA_zero] using this

theorem firstCells_any {P : Program} (s c m cap cap' : Nat) (a : Option Addr) (w : World) : (Builtin.firstCells s c (.slice a m cap)).run P w = (Builtin.firstCells s c (.slice a c cap')).run P w := by
  cases a <;> rfl

section ops
variable {P : Program} {X : Cx} {n : Nat} {ds : List Deferred} {ρ : Rho} {Γ : List HP} {Nx : Value → List HP → Prop} {d : Nat} {ty : TypeId}

/-- copy's store: ys over the owned bytes from lo on. -/
theorem copy_store {E : Env} {Δ : List HP} {w : World} {a : Option Addr} {len cap lo : Nat} {xs ys : List Value} (st : St E (Sl 1 a len cap xs :: Δ) w) (hlo : lo + ys.length ≤ len) (h1 : ys.all Value.oneCell' = true) :
    ∃ w', ((match shA 1 a cap lo with | some a => storeCells a ys | none => pure ()) : Sem Unit).run P w = .ok () w' ∧ St E (Sl 1 a len cap (xs.take lo ++ ys ++ xs.drop (lo + ys.length)) :: Δ) w' := by
  obtain ⟨g1, g2, hcase⟩ := st.sl_split
  rw [Nat.mul_one] at g1
  rcases hcase with ⟨rfl, rfl, rfl, rfl, st0⟩ | ⟨b, off, junk, rfl, q2, st0⟩
  · obtain rfl : lo = 0 := by omega
    have : ys = [] := List.length_eq_zero_iff.1 (by omega)
    subst this
    exact ⟨w, by simp [shA], by simpa using st⟩
  · by_cases h0 : ys = []
    · subst h0
      refine ⟨w, ?_, by simpa using st⟩
      unfold shA; split <;> simp [storeCells]
    · have hpos : 0 < ys.length := List.length_pos_iff.2 h0
      have e0 : shA 1 (some ⟨b, off, none⟩) cap lo = some ⟨b, off + lo, none⟩ := by
        unfold shA; rw [if_neg (by omega)]; simp [Addr.add_none]
      obtain ⟨w', hr2, s1⟩ := storeCells_run (P := P) (off := off) ys lo w (fun B => B :: Δ) (xs ++ junk) E _ (UpdRow.here Δ b off _) st0 (by simp; omega) (fun v hv => List.all_eq_true.1 h1 v hv) (off + lo) 0 (by omega)
      refine ⟨w', by rw [e0]; exact hr2, ?_⟩
      have e1 : (xs ++ junk).take lo ++ ys ++ (xs ++ junk).drop (lo + ys.length) = (xs.take lo ++ ys ++ xs.drop (lo + ys.length)) ++ junk := by
        rw [List.take_append_of_le_length (by omega), List.drop_append_of_le_length (by omega)]
        simp
      rw [e1] at s1
      exact St.sl_join (by simp; omega) (by simp at q2 ⊢; omega) g2 s1

theorem o_copy {A : HP} {t t2 e y : Nat} {x z : Operand} {a a2 : Option Addr} {len cap lo m cap2 : Nat} {xs ys : List Value} {Δ : List HP} [T : TySlice P t e 1 y] (hx : ev ρ x = some (.slice (shA 1 a cap lo) (len - lo) (cap - lo))) (hz : ev ρ z = some (.slice a2 m cap2))
    [TS : TakeSl Γ a 1 len cap xs Δ] (R : Reads A 1 a2 m ys) [H : Has Δ A] (hlo : lo ≤ len) (h1 : ys.all Value.oneCell' = true) (hn : Nat.blt d n = true)
    (h : Nx (.int .i64 ((min m (len - lo) : Nat) : Int)) (Sl 1 a len cap (xs.take lo ++ ys.take (min m (len - lo)) ++ xs.drop (lo + min m (len - lo))) :: Δ)) :
    ExO P X n ds (some d) (.call ⟨.builtin .copy, #[x, z], #[t, t2]⟩) ty Nx ρ Γ :=
  o_value (by simp) hn fun ee o w hop hty he heL hs => by
    obtain ⟨hu, inf, hinf, hsz, hby⟩ := T.und
    have st := hs.perm TS.h
    have R1 := R.firstN (min m (len - lo)) (Nat.min_le_left _ _)
    rw [Nat.mul_one] at R1
    have hl1 : (ys.take (min m (len - lo))).length = min m (len - lo) := by have := R.1; simp; omega
    obtain ⟨w', hr, s1⟩ := copy_store (P := P) (lo := lo) (ys := ys.take (min m (len - lo))) st (by rw [hl1]; omega) (List.all_eq_true.2 fun v hv => List.all_eq_true.1 h1 v (List.mem_of_mem_take hv))
    have hf := firstCells_run (P := P) (cap := cap2) (Γ := Δ) (st.drop) R1
    rw [← firstCells_any 1 (min m (len - lo)) m cap2 cap2] at hf
    rw [hl1] at s1
    refine ⟨_, w', _, ?_, s1, h⟩
    have hm : Nat.min m (len - lo) = min m (len - lo) := rfl
    simp only [execOp, hop, resolve, List.map_toArray, List.map_cons, List.map_nil, he x _ hx, he z _ hz, invoke, builtin, Builtin.copy_, Sem.run_bind, Sem.run_pure, Result.andThen_ok, underlying_run hu, Builtin.lenOf, sizeOf_run hinf, hsz, hm, hf,
      List.getElem?_toArray, List.getElem?_cons_zero, List.getElem?_cons_succ]
    cases hsh : shA 1 a cap lo with
    | none => rw [hsh] at hr; simp at hr; subst hr; simp [goInt]
    | some q => rw [hsh] at hr; simp only at hr; simp only [Sem.run_bind, hr, Result.andThen_ok, Sem.run_pure, goInt]
/-- copy(b[lo:], s), s a string. -/
theorem o_copyStr {t t2 e y : Nat} {x z : Operand} {a : Option Addr} {len cap lo : Nat} {xs : List Value} {bs : List UInt8} {Δ : List HP} [T : TySlice P t e 1 y] (hx : ev ρ x = some (.slice (shA 1 a cap lo) (len - lo) (cap - lo))) (hz : ev ρ z = some (.string (bstr bs)))
    [TS : TakeSl Γ a 1 len cap xs Δ] (hlo : lo ≤ len) (hn : Nat.blt d n = true)
    (h : Nx (.int .i64 ((min bs.length (len - lo) : Nat) : Int)) (Sl 1 a len cap (xs.take lo ++ (bs.take (min bs.length (len - lo))).map bv ++ xs.drop (lo + min bs.length (len - lo))) :: Δ)) :
    ExO P X n ds (some d) (.call ⟨.builtin .copy, #[x, z], #[t, t2]⟩) ty Nx ρ Γ :=
  o_value (by simp) hn fun ee o w hop hty he heL hs => by
    obtain ⟨hu, inf, hinf, hsz, hby⟩ := T.und
    have st := hs.perm TS.h
    have hl1 : ((bs.take (min bs.length (len - lo))).map bv).length = min bs.length (len - lo) := by simp
    obtain ⟨w', hr, s1⟩ := copy_store (P := P) (lo := lo) (ys := (bs.take (min bs.length (len - lo))).map bv) st (by rw [hl1]; omega) (bv_one _)
    rw [hl1] at s1
    refine ⟨_, w', _, ?_, s1, h⟩
    have hm : Nat.min bs.length (len - lo) = min bs.length (len - lo) := rfl
    have hf : (Builtin.firstCells 1 (min bs.length (len - lo)) (.string (bstr bs))).run P w = .ok ((bs.take (min bs.length (len - lo))).map bv).toArray w := by
      simp only [Builtin.firstCells, Sem.run_pure]
      congr 1
      apply Array.ext'
      simp [bstr, ByteArray.data_extract]
      rfl
    simp only [execOp, hop, resolve, List.map_toArray, List.map_cons, List.map_nil, he x _ hx, he z _ hz, invoke, builtin, Builtin.copy_, Sem.run_bind, Sem.run_pure, Result.andThen_ok, underlying_run hu, Builtin.lenOf, sizeOf_run hinf, hsz, bstr_size, hm, hf,
      List.getElem?_toArray, List.getElem?_cons_zero, List.getElem?_cons_succ]
    cases hsh : shA 1 a cap lo with
    | none => rw [hsh] at hr; simp at hr; subst hr; simp [goInt]
    | some q => rw [hsh] at hr; simp only at hr; simp only [Sem.run_bind, hr, Result.andThen_ok, Sem.run_pure, goInt]

/-! ### Strings -/
theorem o_seql_t {t yt : TypeId} {x y : Operand} {a b : ByteArray} (hx : ev ρ x = some (.string a)) (hy : ev ρ y = some (.string b)) (c : a = b) (hn : Nat.blt d n = true) (h : Nx (.bool true) Γ) : ExO P X n ds (some d) (.binOp .eql t x y yt) ty Nx ρ Γ :=
  o_value (by simp) hn fun e o w hop hty he heL hs => ⟨_, w, Γ, by subst c; simp [execOp, hop, he _ _ hx, he _ _ hy, eqGuard, binOp_string_eql], hs, h⟩
theorem v_seql_t {t yt : TypeId} {x y : Operand} {a b : ByteArray} (hx : ev ρ x = some (.string a)) (hy : ev ρ y = some (.string b)) (c : a = b) : OpV P (.binOp .eql t x y yt) ty ρ Γ (.bool true) :=
  ⟨by simp, fun e o E w hop hty he heL hs => by subst c; simp [execOp, hop, he _ _ hx, he _ _ hy, eqGuard, binOp_string_eql]⟩
theorem o_seql_f {t yt : TypeId} {x y : Operand} {a b : ByteArray} (hx : ev ρ x = some (.string a)) (hy : ev ρ y = some (.string b)) (c : a ≠ b) (hn : Nat.blt d n = true) (h : Nx (.bool false) Γ) : ExO P X n ds (some d) (.binOp .eql t x y yt) ty Nx ρ Γ :=
  o_value (by simp) hn fun e o w hop hty he heL hs => ⟨_, w, Γ, by
    have : ¬ a.toList = b.toList := fun e => c (by rw [ByteArray.toList_eq, ByteArray.toList_eq] at e; cases a; cases b; simpa using e)
    simp [execOp, hop, he _ _ hx, he _ _ hy, eqGuard, binOp_string_eql, this], hs, h⟩
theorem v_seql_f {t yt : TypeId} {x y : Operand} {a b : ByteArray} (hx : ev ρ x = some (.string a)) (hy : ev ρ y = some (.string b)) (c : a ≠ b) : OpV P (.binOp .eql t x y yt) ty ρ Γ (.bool false) :=
  ⟨by simp, fun e o E w hop hty he heL hs => by
    have : ¬ a.toList = b.toList := fun e => c (by rw [ByteArray.toList_eq, ByteArray.toList_eq] at e; cases a; cases b; simpa using e)
    simp [execOp, hop, he _ _ hx, he _ _ hy, eqGuard, binOp_string_eql, this]⟩
theorem o_sneq_f {t yt : TypeId} {x y : Operand} {a b : ByteArray} (hx : ev ρ x = some (.string a)) (hy : ev ρ y = some (.string b)) (c : a = b) (hn : Nat.blt d n = true) (h : Nx (.bool false) Γ) : ExO P X n ds (some d) (.binOp .neq t x y yt) ty Nx ρ Γ :=
  o_value (by simp) hn fun e o w hop hty he heL hs => ⟨_, w, Γ, by subst c; simp [execOp, hop, he _ _ hx, he _ _ hy, eqGuard, binOp_string_neq], hs, h⟩
theorem v_sneq_f {t yt : TypeId} {x y : Operand} {a b : ByteArray} (hx : ev ρ x = some (.string a)) (hy : ev ρ y = some (.string b)) (c : a = b) : OpV P (.binOp .neq t x y yt) ty ρ Γ (.bool false) :=
  ⟨by simp, fun e o E w hop hty he heL hs => by subst c; simp [execOp, hop, he _ _ hx, he _ _ hy, eqGuard, binOp_string_neq]⟩
theorem o_sneq_t {t yt : TypeId} {x y : Operand} {a b : ByteArray} (hx : ev ρ x = some (.string a)) (hy : ev ρ y = some (.string b)) (c : a ≠ b) (hn : Nat.blt d n = true) (h : Nx (.bool true) Γ) : ExO P X n ds (some d) (.binOp .neq t x y yt) ty Nx ρ Γ :=
  o_value (by simp) hn fun e o w hop hty he heL hs => ⟨_, w, Γ, by
    have : ¬ a.toList = b.toList := fun e => c (by rw [ByteArray.toList_eq, ByteArray.toList_eq] at e; cases a; cases b; simpa using e)
    simp [execOp, hop, he _ _ hx, he _ _ hy, eqGuard, binOp_string_neq, this], hs, h⟩
theorem v_sneq_t {t yt : TypeId} {x y : Operand} {a b : ByteArray} (hx : ev ρ x = some (.string a)) (hy : ev ρ y = some (.string b)) (c : a ≠ b) : OpV P (.binOp .neq t x y yt) ty ρ Γ (.bool true) :=
  ⟨by simp, fun e o E w hop hty he heL hs => by
    have : ¬ a.toList = b.toList := fun e => c (by rw [ByteArray.toList_eq, ByteArray.toList_eq] at e; cases a; cases b; simpa using e)
    simp [execOp, hop, he _ _ hx, he _ _ hy, eqGuard, binOp_string_neq, this]⟩
theorem o_concat {t yt : TypeId} {x y : Operand} {a b : ByteArray} (hx : ev ρ x = some (.string a)) (hy : ev ρ y = some (.string b)) (hb : a.size + b.size ≤ 9223372036854775807) (hn : Nat.blt d n = true) (h : Nx (.string (a ++ b)) Γ) : ExO P X n ds (some d) (.binOp .add t x y yt) ty Nx ρ Γ :=
  o_value (by simp) hn fun e o w hop hty he heL hs => ⟨_, w, Γ, by simp [execOp, hop, he _ _ hx, he _ _ hy, eqGuard, binOp_string_add, run_string_add_sum w a b hb], hs, h⟩

theorem v_concat {t yt : TypeId} {x y : Operand} {a b : ByteArray} (hx : ev ρ x = some (.string a)) (hy : ev ρ y = some (.string b)) (hb : a.size + b.size ≤ 9223372036854775807) : OpV P (.binOp .add t x y yt) ty ρ Γ (.string (a ++ b)) :=
  ⟨by simp, fun e o E w hop hty he heL hs => by simp [execOp, hop, he _ _ hx, he _ _ hy, eqGuard, binOp_string_add, run_string_add_sum w a b hb]⟩
class TyU8 (P : Program) (t : TypeId) : Prop where h : P.underlying t = some (.int .u8)
/-- string(b) -/
theorem o_toStr {A : HP} {src dst e y : Nat} {x : Operand} {a : Option Addr} {len cap : Nat} {bs : List UInt8} [T : TySlice P src e 1 y] [U : TyU8 P e] [S : TyString P dst] (hx : ev ρ x = some (.slice a len cap)) (R : Reads A 1 a len (bs.map bv)) [H : Has Γ A] (hn : Nat.blt d n = true)
    (h : Nx (.string (bstr bs)) Γ) : ExO P X n ds (some d) (.convert src dst x) ty Nx ρ Γ :=
  o_value (by simp) hn fun ee o w hop hty he heL hs => ⟨_, w, Γ, by
    have hr : (Conv.bytesToString (.slice a len cap)).run P w = .ok (.string (bstr bs)) w := by
      cases a with
      | none =>
        rcases hs.reads R with h0 | ⟨b, off, ha, _⟩
        · have := R.1; rw [h0] at this
          have : bs = [] := by simpa using this
          subst this; rfl
        · cases ha
      | some q =>
        have hl : (loadCells q len).run P w = .ok ((bs.map fun (z : UInt8) => (z.toNat : Int)).map (Value.int .u8)).toArray w := by
          have := firstCells_run (P := P) (cap := cap) hs R
          simp only [Builtin.firstCells, Nat.mul_one] at this
          rw [this]; simp [bv, Function.comp_def]
        rw [run_bytesToString w q len cap _ hl]
        congr 2
        have key : ∀ (l : List UInt8) (s : ByteArray), (l.map fun (z : UInt8) => (z.toNat : Int)).foldl (fun r n => r.push (UInt8.ofNat n.toNat)) s = ⟨s.data ++ l.toArray⟩ := by
          intro l
          induction l with
          | nil => intro s; simp
          | cons z l ih =>
            intro s
            rw [List.map_cons, List.foldl_cons, ih]
            have : UInt8.ofNat ((z.toNat : Int).toNat) = z := by simp
            rw [this]
            congr 1
            apply Array.ext'; simp [ByteArray.push]
        rw [key]; simp [bstr]
    simp [execOp, hop, he _ _ hx, run_convert_bytes_string w src dst e a len cap T.und.1 U.h S.h, hr], hs, h⟩

theorem v_toStr {A : HP} {src dst e y : Nat} {x : Operand} {a : Option Addr} {len cap : Nat} {bs : List UInt8} [T : TySlice P src e 1 y] [U : TyU8 P e] [S : TyString P dst] (hx : ev ρ x = some (.slice a len cap)) (R : Reads A 1 a len (bs.map bv)) [H : Has Γ A] : OpV P (.convert src dst x) ty ρ Γ (.string (bstr bs)) :=
  ⟨by simp, fun ee o E w hop hty he heL hs => by
    have hr : (Conv.bytesToString (.slice a len cap)).run P w = .ok (.string (bstr bs)) w := by
      cases a with
      | none =>
        rcases hs.reads R with h0 | ⟨b, off, ha, _⟩
        · have := R.1; rw [h0] at this
          have : bs = [] := by simpa using this
          subst this; rfl
        · cases ha
      | some q =>
        have hl : (loadCells q len).run P w = .ok ((bs.map fun (z : UInt8) => (z.toNat : Int)).map (Value.int .u8)).toArray w := by
          have := firstCells_run (P := P) (cap := cap) hs R
          simp only [Builtin.firstCells, Nat.mul_one] at this
          rw [this]; simp [bv, Function.comp_def]
        rw [run_bytesToString w q len cap _ hl]
        congr 2
        have key : ∀ (l : List UInt8) (s : ByteArray), (l.map fun (z : UInt8) => (z.toNat : Int)).foldl (fun r n => r.push (UInt8.ofNat n.toNat)) s = ⟨s.data ++ l.toArray⟩ := by
          intro l
          induction l with
          | nil => intro s; simp
          | cons z l ih =>
            intro s
            rw [List.map_cons, List.foldl_cons, ih]
            have : UInt8.ofNat ((z.toNat : Int).toNat) = z := by simp
            rw [this]
            congr 1
            apply Array.ext'; simp [ByteArray.push]
        rw [key]; simp [bstr]
    simp [execOp, hop, he _ _ hx, run_convert_bytes_string w src dst e a len cap T.und.1 U.h S.h, hr]⟩
/-- A new row, however its block came about. -/
theorem St.new_row {E : Env} {Γ : List HP} {w w' : World} {vs : List Value} (st : St E Γ w) (hE : w'.os = w.os ∧ w'.tape = w.tape ∧ w'.output = w.output) (hpre : ∀ k, k < w.heap.size → w'.heap[k]? = w.heap[k]?)
    (hc : ∀ i v, vs[i]? = some v → w'.cell? ⟨w.heap.size, i, none⟩ = some v ∧ w'.frozen? ⟨w.heap.size, i, none⟩ = false) : St E (Row w.heap.size 0 vs :: Γ) w' := by
  obtain ⟨⟨e1, e2, e3⟩, h, a, H⟩ := st
  refine ⟨⟨hE.1.trans e1, hE.2.1.trans e2, hE.2.2.trans e3⟩, _, ⟨_, h, rfl, a, ?_, rfl⟩, ?_⟩
  · intro k x y hx hy
    cases x with
    | none => exact absurd rfl hx
    | some i =>
      obtain ⟨f, hf⟩ := Option.ne_none_iff_exists'.1 hx
      obtain ⟨rfl, _⟩ := row_some hf
      exact absurd H.new_ne hy
  · intro k x f hf
    unfold PH.join at hf
    cases hrow : row w.heap.size 0 vs k x with
    | none =>
      rw [hrow] at hf
      have h0 := H k x f (by simpa using hf)
      have hlt := h0.lt
      cases x with
      | some i => cases f with
        | own z => exact ⟨(World.cell?_of_block (hpre k hlt)).trans h0.1, (World.frozen?_of_block (hpre k hlt)).trans h0.2⟩
        | obj z => exact h0
      | none => cases f with
        | own z => exact h0
        | obj z => exact (hpre k hlt).trans h0
    | some f' =>
      rw [hrow] at hf
      obtain rfl : f' = f := by simpa using hf
      cases x with
      | none => cases hrow
      | some j =>
        obtain ⟨rfl, _, z, hz, rfl⟩ := row_some hrow
        exact hc j z (by simpa using hz)

/-- []byte(s) -/
theorem o_toBytes {src dst e y : Nat} {x : Operand} {bs : List UInt8} [T : TySlice P dst e 1 y] [U : TyU8 P e] [S : TyString P src] (hx : ev ρ x = some (.string (bstr bs))) (hn : Nat.blt d n = true)
    (h : ∀ a cap, bs.length ≤ cap → Nx (.slice a bs.length cap) (Sl 1 a bs.length cap (bs.map bv) :: Γ)) : ExO P X n ds (some d) (.convert src dst x) ty Nx ρ Γ :=
  o_value (by simp) hn fun ee o w hop hty he heL hs => by
    obtain ⟨c, hcd⟩ : ∃ c, bs.length + (w.tape w.drawn (.appendCap bs.length 0 e)) % (2 ^ 63 - bs.length) = c := ⟨_, rfl⟩
    have hle : bs.length ≤ c := by omega
    have hs' := hs.drew
    obtain ⟨w', hw'⟩ : ∃ w', ((w.drew.alloc (.cells (bs.map bv ++ List.replicate (c - bs.length) (Value.int .u8 0)).toArray e)).freeze { block := w.heap.size, off := c } 1) = w' := ⟨_, rfl⟩
    have hlen : (bs.map bv ++ List.replicate (c - bs.length) (Value.int .u8 0)).length = c := by simp; omega
    have hself : w'.heap[w.heap.size]? = some (.cells (bs.map bv ++ List.replicate (c - bs.length) (Value.int .u8 0)).toArray e (c, c + 1)) := by
      rw [← hw']
      simp only [World.freeze, if_neg (Nat.one_ne_zero)]
      rw [Array.getElem?_modify, if_pos rfl]
      have : (w.drew.alloc (.cells (bs.map bv ++ List.replicate (c - bs.length) (Value.int .u8 0)).toArray e)).heap[w.heap.size]? = some (.cells (bs.map bv ++ List.replicate (c - bs.length) (Value.int .u8 0)).toArray e) := by
        show (w.heap.push _)[w.heap.size]? = _
        exact Array.getElem?_push_size
      rw [this]; rfl
    have s1 : St X.E (Row w.heap.size 0 (bs.map bv ++ List.replicate (c - bs.length) (Value.int .u8 0)) :: Γ) w' := by
      refine St.new_row (w := w.drew) hs' ?_ ?_ ?_
      · rw [← hw']; exact ⟨rfl, rfl, rfl⟩
      · intro k hk
        rw [← hw']
        simp only [World.freeze, if_neg (Nat.one_ne_zero)]
        have hk' : k < w.heap.size := hk
        rw [Array.getElem?_modify, if_neg (by omega)]
        exact Below.heap_alloc w.drew _ k hk
      · intro i v hv
        have hi := (List.getElem?_eq_some_iff.1 hv).1
        rw [hlen] at hi
        refine ⟨?_, ?_⟩
        · simp only [World.cell?]; rw [show w.drew.heap.size = w.heap.size from rfl, hself]; simpa using hv
        · simp only [World.frozen?]; rw [show w.drew.heap.size = w.heap.size from rfl, hself]; simp; omega
    refine ⟨.slice (some ⟨w.heap.size, 0, none⟩) bs.length c, w', _, ?_, St.sl_join (by simp) (by simp; omega) hle s1, h _ c hle⟩
    have hr : (Conv.stringToBytes e (bstr bs)).run P w = .ok (.slice (some ⟨w.heap.size, 0, none⟩) bs.length c) w' := by
      have e1 : ((bstr bs).data.map fun b => Value.int .u8 (b.toNat : Int)) ++ Array.replicate (c - bs.length) (Value.int .u8 0) = (bs.map bv ++ List.replicate (c - bs.length) (Value.int .u8 0)).toArray := by
        apply Array.ext'; simp [bstr, bv]
      have hsh : (w.drew.alloc (.cells (bs.map bv ++ List.replicate (c - bs.length) (Value.int .u8 0)).toArray e)).shape? w.heap.size = some (e, c) := by
        simp only [World.shape?, World.alloc]
        rw [show w.drew.heap = w.heap from rfl]
        simp only [Array.getElem?_push_size, List.size_toArray, hlen]
      simp only [Conv.stringToBytes, Sem.run_bind, run_choose, Question.forced, bstr_size, Question.cut, hcd, Bool.false_eq_true, if_false, Result.andThen_ok, World.drew_eq, e1, newRow, run_newObj, World.alloc_eq, Sem.run_pure, markStringish, run_shape]
      have hsz : w.drew.heap.size = w.heap.size := rfl
      rw [hsz, hsh]
      simp only [Result.andThen_ok, run_freeze, hw']
    simp [execOp, hop, he _ _ hx, convert, underlying_run S.h, underlying_run T.und.1, underlying_run U.h, hr]

/-! ### Conversions of numbers -/
def intB (P : Program) (t : TypeId) (kk : IntKind) : Bool := match P.underlying t with
  | some (.int k') => k' == kk
  | _ => false
class TyInt (P : Program) (t : TypeId) (kk : outParam IntKind) : Prop where h : P.underlying t = some (.int kk)
theorem o_conv {src dst : Nat} {x : Operand} {k1 k2 k3 : IntKind} {a : Int} [S : TyInt P src k1] [T : TyInt P dst k2] (hx : ev ρ x = some (.int k3 a)) (hn : Nat.blt d n = true)
    (h : Nx (.int k2 (k2.wrap a)) Γ) : ExO P X n ds (some d) (.convert src dst x) ty Nx ρ Γ :=
  o_value (by simp) hn fun ee o w hop hty he heL hs => ⟨_, w, Γ, by
    simp [execOp, hop, he _ _ hx, convert, underlying_run S.h, underlying_run T.h, Conv.intToInt], hs, h⟩

/-! ### Equality of pointers, functions, bools -/
theorem v_conv {src dst : Nat} {x : Operand} {k1 k2 k3 : IntKind} {a : Int} [S : TyInt P src k1] [T : TyInt P dst k2] (hx : ev ρ x = some (.int k3 a)) : OpV P (.convert src dst x) ty ρ Γ (.int k2 (k2.wrap a)) :=
  ⟨by simp, fun ee o E w hop hty he heL hs => by
    simp [execOp, hop, he _ _ hx, convert, underlying_run S.h, underlying_run T.h, Conv.intToInt]⟩
class TyPtr (P : Program) (t : TypeId) : Prop where h : ∃ e, P.underlying t = some (.pointer e)
class TyBool (P : Program) (t : TypeId) : Prop where h : P.underlying t = some .bool
class TyFunc (P : Program) (t : TypeId) : Prop where h : ∃ a b c, P.underlying t = some (.func a b c)
theorem equal_one (t : TypeId) (x y : Value) : Op.equal t x y = Op.equalIn (9999 + 1) t x y := rfl
theorem eqlRun {t yt : TypeId} {x y : Operand} {v u : Value} {b : Bool} {w : World} {e : Operand → Value} {o : Oper} (op : BinOp) (hop : o.op = .binOp op t x y yt) (hx : e x = v) (hy : e y = u)
    (hg : (eqGuard op t x y v u).run P w = .ok () w) (hbin : binOp op t v u = (do let z ← Op.equal t v u; pure (.bool (if op = .neq then !z else z)))) (hr : (Op.equal t v u).run P w = .ok b w) :
    (execOp e o).run P w = .ok (.value (.bool (if op = .neq then !b else b))) w := by
  simp [execOp, hop, hx, hy, hg, hbin, hr]
theorem o_peq {t yt : TypeId} {x y : Operand} {op : BinOp} {a b : Option Addr} [T : TyPtr P t] (ho : op = .eql ∨ op = .neq) (hx : ev ρ x = some (.pointer a)) (hy : ev ρ y = some (.pointer b)) (hab : a = none ∨ b = none) (hn : Nat.blt d n = true)
    (h : Nx (.bool (if op = .neq then !(a.isNone && b.isNone) else a.isNone && b.isNone)) Γ) : ExO P X n ds (some d) (.binOp op t x y yt) ty Nx ρ Γ :=
  o_value (by simp) hn fun ee o w hop hty he heL hs => ⟨_, w, Γ, by
    obtain ⟨e, hu⟩ := T.h
    refine eqlRun op hop (he _ _ hx) (he _ _ hy) ?_ ?_ ?_
    · rcases ho with rfl | rfl <;> simp [eqGuard]
    · rcases ho with rfl | rfl <;> simp [binOp]
    · rw [equal_one, Op.equalIn]
      simp only [Sem.run_bind, underlying_run hu, Result.andThen_ok]
      rcases hab with rfl | rfl
      · cases b <;> simp
      · cases a <;> simp, hs, h⟩
theorem v_peq {t yt : TypeId} {x y : Operand} {op : BinOp} {a b : Option Addr} [T : TyPtr P t] (ho : op = .eql ∨ op = .neq) (hx : ev ρ x = some (.pointer a)) (hy : ev ρ y = some (.pointer b)) (hab : a = none ∨ b = none) : OpV P (.binOp op t x y yt) ty ρ Γ (.bool (if op = .neq then !(a.isNone && b.isNone) else a.isNone && b.isNone)) :=
  ⟨by simp, fun ee o E w hop hty he heL hs => by
    obtain ⟨e, hu⟩ := T.h
    refine eqlRun op hop (he _ _ hx) (he _ _ hy) ?_ ?_ ?_
    · rcases ho with rfl | rfl <;> simp [eqGuard]
    · rcases ho with rfl | rfl <;> simp [binOp]
    · rw [equal_one, Op.equalIn]
      simp only [Sem.run_bind, underlying_run hu, Result.andThen_ok]
      rcases hab with rfl | rfl
      · cases b <;> simp
      · cases a <;> simp⟩
theorem o_feq {t yt : TypeId} {x y : Operand} {op : BinOp} {f : Fn} {a b : Array Value} [T : TyFunc P t] (ho : op = .eql ∨ op = .neq) (hx : ev ρ x = some (.func f a b)) (hy : ev ρ y = some .nilFunc) (hn : Nat.blt d n = true)
    (h : Nx (.bool (if op = .neq then true else false)) Γ) : ExO P X n ds (some d) (.binOp op t x y yt) ty Nx ρ Γ :=
  o_value (by simp) hn fun ee o w hop hty he heL hs => ⟨_, w, Γ, by
    obtain ⟨u1, u2, u3, hu⟩ := T.h
    refine eqlRun (b := false) op hop (he _ _ hx) (he _ _ hy) ?_ ?_ ?_
    · rcases ho with rfl | rfl <;> simp [eqGuard]
    · rcases ho with rfl | rfl <;> simp [binOp]
    · rw [equal_one, Op.equalIn]; simp [underlying_run hu], hs, h⟩
theorem v_feq {t yt : TypeId} {x y : Operand} {op : BinOp} {f : Fn} {a b : Array Value} [T : TyFunc P t] (ho : op = .eql ∨ op = .neq) (hx : ev ρ x = some (.func f a b)) (hy : ev ρ y = some .nilFunc) : OpV P (.binOp op t x y yt) ty ρ Γ (.bool (if op = .neq then true else false)) :=
  ⟨by simp, fun ee o E w hop hty he heL hs => by
    obtain ⟨u1, u2, u3, hu⟩ := T.h
    refine eqlRun (b := false) op hop (he _ _ hx) (he _ _ hy) ?_ ?_ ?_
    · rcases ho with rfl | rfl <;> simp [eqGuard]
    · rcases ho with rfl | rfl <;> simp [binOp]
    · rw [equal_one, Op.equalIn]; simp [underlying_run hu]⟩
theorem o_beq {t yt : TypeId} {x y : Operand} {op : BinOp} {a b : Bool} [T : TyBool P t] (ho : op = .eql ∨ op = .neq) (hx : ev ρ x = some (.bool a)) (hy : ev ρ y = some (.bool b)) (hn : Nat.blt d n = true)
    (h : Nx (.bool (if op = .neq then !(a == b) else (a == b))) Γ) : ExO P X n ds (some d) (.binOp op t x y yt) ty Nx ρ Γ :=
  o_value (by simp) hn fun ee o w hop hty he heL hs => ⟨_, w, Γ, by
    refine eqlRun op hop (he _ _ hx) (he _ _ hy) ?_ ?_ ?_
    · rcases ho with rfl | rfl <;> simp [eqGuard]
    · rcases ho with rfl | rfl <;> simp [binOp]
    · rw [equal_one, Op.equalIn]; simp [underlying_run T.h], hs, h⟩
theorem v_beq {t yt : TypeId} {x y : Operand} {op : BinOp} {a b : Bool} [T : TyBool P t] (ho : op = .eql ∨ op = .neq) (hx : ev ρ x = some (.bool a)) (hy : ev ρ y = some (.bool b)) : OpV P (.binOp op t x y yt) ty ρ Γ (.bool (if op = .neq then !(a == b) else (a == b))) :=
  ⟨by simp, fun ee o E w hop hty he heL hs => by
    refine eqlRun op hop (he _ _ hx) (he _ _ hy) ?_ ?_ ?_
    · rcases ho with rfl | rfl <;> simp [eqGuard]
    · rcases ho with rfl | rfl <;> simp [binOp]
    · rw [equal_one, Op.equalIn]; simp [underlying_run T.h]⟩
end ops
end Go.Proofs.Ythneebbmodkjiaa
