/- Rules for single operations: the walk's own. -/
import Derived.Test.YthneebbmodkjiaaSLc
namespace Go.Proofs.Ythneebbmodkjiaa
open Go.RowKit
section ops
variable {P : Program} {X : Cx} {n : Nat} {ds : List Deferred} {ρ : Rho} {Γ : List HP} {Nx : Value → List HP → Prop} {d : Nat} {ty : TypeId}

theorem o_move {x : Operand} {v : Value} (hx : ev ρ x = some v) (hn : Nat.blt d n = true) (h : Nx (v) Γ) : ExO P X n ds (some d) (.move x) ty Nx ρ Γ :=
  o_value (by simp) hn fun e o w hop hty he heL hs => ⟨v, w, Γ, by simp [execOp, hop, he x v hx], hs, h⟩
theorem v_move {x : Operand} {v : Value} (hx : ev ρ x = some v) : OpV P (.move x) ty ρ Γ (v) :=
  ⟨by simp, fun e o E w hop hty he heL hs => by simp [execOp, hop, he x v hx]⟩
theorem o_assign {x : Operand} {v : Value} (hx : ev ρ x = some v) (hn : Nat.blt d n = true) (h : Nx (v) Γ) : ExO P X n ds (some d) (.assign x) ty Nx ρ Γ :=
  o_value (by simp) hn fun e o w hop hty he heL hs => ⟨v, w, Γ, by simp [execOp, hop, he x v hx], hs, h⟩
theorem v_assign {x : Operand} {v : Value} (hx : ev ρ x = some v) : OpV P (.assign x) ty ρ Γ (v) :=
  ⟨by simp, fun e o E w hop hty he heL hs => by simp [execOp, hop, he x v hx]⟩
theorem o_pick_t {c x y : Operand} {v : Value} (hc : ev ρ c = some (.bool true)) (hx : ev ρ x = some v) (hn : Nat.blt d n = true) (h : Nx (v) Γ) : ExO P X n ds (some d) (.pick c x y) ty Nx ρ Γ :=
  o_value (by simp) hn fun e o w hop hty he heL hs => ⟨v, w, Γ, by simp [execOp, hop, he x v hx, he c _ hc, asBool], hs, h⟩
theorem v_pick_t {c x y : Operand} {v : Value} (hc : ev ρ c = some (.bool true)) (hx : ev ρ x = some v) : OpV P (.pick c x y) ty ρ Γ (v) :=
  ⟨by simp, fun e o E w hop hty he heL hs => by simp [execOp, hop, he x v hx, he c _ hc, asBool]⟩
theorem o_pick_f {c x y : Operand} {v : Value} (hc : ev ρ c = some (.bool false)) (hy : ev ρ y = some v) (hn : Nat.blt d n = true) (h : Nx (v) Γ) : ExO P X n ds (some d) (.pick c x y) ty Nx ρ Γ :=
  o_value (by simp) hn fun e o w hop hty he heL hs => ⟨v, w, Γ, by simp [execOp, hop, he y v hy, he c _ hc, asBool], hs, h⟩
theorem v_pick_f {c x y : Operand} {v : Value} (hc : ev ρ c = some (.bool false)) (hy : ev ρ y = some v) : OpV P (.pick c x y) ty ρ Γ (v) :=
  ⟨by simp, fun e o E w hop hty he heL hs => by simp [execOp, hop, he y v hy, he c _ hc, asBool]⟩
theorem o_nilCheck {x : Operand} {a : Addr} (hx : ev ρ x = some (.pointer (some a))) (hn : Nat.blt d n = true) (h : Nx (.pointer (some a)) Γ) : ExO P X n ds (some d) (.nilCheck x) ty Nx ρ Γ :=
  o_value (by simp) hn fun e o w hop hty he heL hs => ⟨_, w, Γ, by simp [execOp, hop, he x _ hx], hs, h⟩
theorem v_nilCheck {x : Operand} {a : Addr} (hx : ev ρ x = some (.pointer (some a))) : OpV P (.nilCheck x) ty ρ Γ (.pointer (some a)) :=
  ⟨by simp, fun e o E w hop hty he heL hs => by simp [execOp, hop, he x _ hx]⟩
theorem o_nilCheckF {x : Operand} {f : FuncId} {a b : Array Value} (hx : ev ρ x = some (.func (.func f) a b)) (hn : Nat.blt d n = true) (h : Nx (.func (.func f) a b) Γ) : ExO P X n ds (some d) (.nilCheck x) ty Nx ρ Γ :=
  o_value (by simp) hn fun e o w hop hty he heL hs => ⟨_, w, Γ, by simp [execOp, hop, he x _ hx], hs, h⟩
theorem v_nilCheckF {x : Operand} {f : FuncId} {a b : Array Value} (hx : ev ρ x = some (.func (.func f) a b)) : OpV P (.nilCheck x) ty ρ Γ (.func (.func f) a b) :=
  ⟨by simp, fun e o E w hop hty he heL hs => by simp [execOp, hop, he x _ hx]⟩
theorem o_nilCheckY {x : Operand} {f : Nat} {a b : Array Value} (hx : ev ρ x = some (.func (.yield f) a b)) (hn : Nat.blt d n = true) (h : Nx (.func (.yield f) a b) Γ) : ExO P X n ds (some d) (.nilCheck x) ty Nx ρ Γ :=
  o_value (by simp) hn fun e o w hop hty he heL hs => ⟨_, w, Γ, by simp [execOp, hop, he x _ hx], hs, h⟩
theorem v_nilCheckY {x : Operand} {f : Nat} {a b : Array Value} (hx : ev ρ x = some (.func (.yield f) a b)) : OpV P (.nilCheck x) ty ρ Γ (.func (.yield f) a b) :=
  ⟨by simp, fun e o E w hop hty he heL hs => by simp [execOp, hop, he x _ hx]⟩
theorem o_extract {x : Operand} {i : Nat} {vs : List Value} {v : Value} (hx : ev ρ x = some (.tuple vs.toArray)) (hv : vs[i]? = some v) (hn : Nat.blt d n = true) (h : Nx (v) Γ) : ExO P X n ds (some d) (.extract x i) ty Nx ρ Γ :=
  o_value (by simp) hn fun e o w hop hty he heL hs => ⟨v, w, Γ, by simp [execOp, hop, he x _ hx, Instr.extract, hv], hs, h⟩
theorem v_extract {x : Operand} {i : Nat} {vs : List Value} {v : Value} (hx : ev ρ x = some (.tuple vs.toArray)) (hv : vs[i]? = some v) : OpV P (.extract x i) ty ρ Γ (v) :=
  ⟨by simp, fun e o E w hop hty he heL hs => by simp [execOp, hop, he x _ hx, Instr.extract, hv]⟩
theorem o_makeFunc {fn : Fn} {first caps : List Operand} {vs us : List Value} (hx : evL ρ first = some vs) (hy : evL ρ caps = some us) (hn : Nat.blt d n = true) (h : Nx (.func fn vs.toArray us.toArray) Γ) :
    ExO P X n ds (some d) (.makeFunc fn first.toArray caps.toArray) ty Nx ρ Γ :=
  o_value (by simp) hn fun e o w hop hty he heL hs => ⟨_, w, Γ, by simp [execOp, hop, Instr.makeFunc, heL _ _ hx, heL _ _ hy], hs, h⟩
theorem v_makeFunc {fn : Fn} {first caps : List Operand} {vs us : List Value} (hx : evL ρ first = some vs) (hy : evL ρ caps = some us) : OpV P (.makeFunc fn first.toArray caps.toArray) ty ρ Γ (.func fn vs.toArray us.toArray) :=
  ⟨by simp, fun e o E w hop hty he heL hs => by simp [execOp, hop, Instr.makeFunc, heL _ _ hx, heL _ _ hy]⟩
theorem o_not {t : TypeId} {x : Operand} {b : Bool} (hx : ev ρ x = some (.bool b)) (hn : Nat.blt d n = true) (h : Nx (.bool (!b)) Γ) : ExO P X n ds (some d) (.unOp .not t x) ty Nx ρ Γ :=
  o_value (by simp) hn fun e o w hop hty he heL hs => ⟨_, w, Γ, by simp [execOp, hop, he x _ hx, Op.unary], hs, h⟩

/-! ### Whole numbers -/
theorem v_not {t : TypeId} {x : Operand} {b : Bool} (hx : ev ρ x = some (.bool b)) : OpV P (.unOp .not t x) ty ρ Γ (.bool (!b)) :=
  ⟨by simp, fun e o E w hop hty he heL hs => by simp [execOp, hop, he x _ hx, Op.unary]⟩
theorem binOp_int {op : BinOp} {t : TypeId} {x y : Operand} {yt : TypeId} {kk : IntKind} {a b : Int} {r : Value} (hop : op ≠ .shl ∧ op ≠ .shr) {e : Operand → Value} {o : Oper} {w : World}
    (ho : o.op = .binOp op t x y yt) (hx : e x = .int kk a) (hy : e y = .int kk b)
    (hr : (match op with | .add | .sub | .mul => Op.intArith op kk a b | .quo | .rem => Op.intDiv op kk a b | .and | .or | .xor | .andNot => Op.intBits op kk a b | _ => Op.intCmp op a b).run P w = .ok r w) :
    (execOp e o).run P w = .ok (.value r) w := by
  have hg : (eqGuard op t x y (.int kk a) (.int kk b)).run P w = .ok () w := by
    unfold eqGuard; cases op <;> simp
  have hb : (binOp op t (.int kk a) (.int kk b)).run P w = .ok r w := by
    cases op <;> first | (exact absurd rfl hop.1) | (exact absurd rfl hop.2) | (simpa [binOp] using hr)
  simp only [execOp, ho, hx, hy, Sem.run_bind, hg, Result.andThen_ok, hb, Sem.run_pure]
theorem o_add {t yt : TypeId} {x y : Operand} {kk : IntKind} {a b : Int} (hx : ev ρ x = some (.int kk a)) (hy : ev ρ y = some (.int kk b)) (hw : kk.wrap (a + b) = a + b) (hn : Nat.blt d n = true)
    (h : Nx (.int kk (a + b)) Γ) : ExO P X n ds (some d) (.binOp .add t x y yt) ty Nx ρ Γ :=
  o_value (by simp) hn fun e o w hop hty he heL hs => ⟨_, w, Γ, binOp_int (by simp) hop (he _ _ hx) (he _ _ hy) (by simp [Op.intArith, hw]), hs, h⟩
theorem v_add {t yt : TypeId} {x y : Operand} {kk : IntKind} {a b : Int} (hx : ev ρ x = some (.int kk a)) (hy : ev ρ y = some (.int kk b)) (hw : kk.wrap (a + b) = a + b) : OpV P (.binOp .add t x y yt) ty ρ Γ (.int kk (a + b)) :=
  ⟨by simp, fun e o E w hop hty he heL hs => binOp_int (by simp) hop (he _ _ hx) (he _ _ hy) (by simp [Op.intArith, hw])⟩
theorem o_addW {t yt : TypeId} {x y : Operand} {kk : IntKind} {a b : Int} (hx : ev ρ x = some (.int kk a)) (hy : ev ρ y = some (.int kk b)) (hn : Nat.blt d n = true)
    (h : Nx (.int kk (kk.wrap (a + b))) Γ) : ExO P X n ds (some d) (.binOp .add t x y yt) ty Nx ρ Γ :=
  o_value (by simp) hn fun e o w hop hty he heL hs => ⟨_, w, Γ, binOp_int (by simp) hop (he _ _ hx) (he _ _ hy) (by simp [Op.intArith]), hs, h⟩
theorem v_addW {t yt : TypeId} {x y : Operand} {kk : IntKind} {a b : Int} (hx : ev ρ x = some (.int kk a)) (hy : ev ρ y = some (.int kk b)) : OpV P (.binOp .add t x y yt) ty ρ Γ (.int kk (kk.wrap (a + b))) :=
  ⟨by simp, fun e o E w hop hty he heL hs => binOp_int (by simp) hop (he _ _ hx) (he _ _ hy) (by simp [Op.intArith])⟩
theorem o_sub {t yt : TypeId} {x y : Operand} {kk : IntKind} {a b : Int} (hx : ev ρ x = some (.int kk a)) (hy : ev ρ y = some (.int kk b)) (hw : kk.wrap (a - b) = a - b) (hn : Nat.blt d n = true)
    (h : Nx (.int kk (a - b)) Γ) : ExO P X n ds (some d) (.binOp .sub t x y yt) ty Nx ρ Γ :=
  o_value (by simp) hn fun e o w hop hty he heL hs => ⟨_, w, Γ, binOp_int (by simp) hop (he _ _ hx) (he _ _ hy) (by simp [Op.intArith, hw]), hs, h⟩
theorem v_sub {t yt : TypeId} {x y : Operand} {kk : IntKind} {a b : Int} (hx : ev ρ x = some (.int kk a)) (hy : ev ρ y = some (.int kk b)) (hw : kk.wrap (a - b) = a - b) : OpV P (.binOp .sub t x y yt) ty ρ Γ (.int kk (a - b)) :=
  ⟨by simp, fun e o E w hop hty he heL hs => binOp_int (by simp) hop (he _ _ hx) (he _ _ hy) (by simp [Op.intArith, hw])⟩
theorem o_subW {t yt : TypeId} {x y : Operand} {kk : IntKind} {a b : Int} (hx : ev ρ x = some (.int kk a)) (hy : ev ρ y = some (.int kk b)) (hn : Nat.blt d n = true)
    (h : Nx (.int kk (kk.wrap (a - b))) Γ) : ExO P X n ds (some d) (.binOp .sub t x y yt) ty Nx ρ Γ :=
  o_value (by simp) hn fun e o w hop hty he heL hs => ⟨_, w, Γ, binOp_int (by simp) hop (he _ _ hx) (he _ _ hy) (by simp [Op.intArith]), hs, h⟩
theorem v_subW {t yt : TypeId} {x y : Operand} {kk : IntKind} {a b : Int} (hx : ev ρ x = some (.int kk a)) (hy : ev ρ y = some (.int kk b)) : OpV P (.binOp .sub t x y yt) ty ρ Γ (.int kk (kk.wrap (a - b))) :=
  ⟨by simp, fun e o E w hop hty he heL hs => binOp_int (by simp) hop (he _ _ hx) (he _ _ hy) (by simp [Op.intArith])⟩
theorem o_mul {t yt : TypeId} {x y : Operand} {kk : IntKind} {a b : Int} (hx : ev ρ x = some (.int kk a)) (hy : ev ρ y = some (.int kk b)) (hw : kk.wrap (a * b) = a * b) (hn : Nat.blt d n = true)
    (h : Nx (.int kk (a * b)) Γ) : ExO P X n ds (some d) (.binOp .mul t x y yt) ty Nx ρ Γ :=
  o_value (by simp) hn fun e o w hop hty he heL hs => ⟨_, w, Γ, binOp_int (by simp) hop (he _ _ hx) (he _ _ hy) (by simp [Op.intArith, hw]), hs, h⟩
theorem v_mul {t yt : TypeId} {x y : Operand} {kk : IntKind} {a b : Int} (hx : ev ρ x = some (.int kk a)) (hy : ev ρ y = some (.int kk b)) (hw : kk.wrap (a * b) = a * b) : OpV P (.binOp .mul t x y yt) ty ρ Γ (.int kk (a * b)) :=
  ⟨by simp, fun e o E w hop hty he heL hs => binOp_int (by simp) hop (he _ _ hx) (he _ _ hy) (by simp [Op.intArith, hw])⟩
theorem o_mulW {t yt : TypeId} {x y : Operand} {kk : IntKind} {a b : Int} (hx : ev ρ x = some (.int kk a)) (hy : ev ρ y = some (.int kk b)) (hn : Nat.blt d n = true)
    (h : Nx (.int kk (kk.wrap (a * b))) Γ) : ExO P X n ds (some d) (.binOp .mul t x y yt) ty Nx ρ Γ :=
  o_value (by simp) hn fun e o w hop hty he heL hs => ⟨_, w, Γ, binOp_int (by simp) hop (he _ _ hx) (he _ _ hy) (by simp [Op.intArith]), hs, h⟩
theorem v_mulW {t yt : TypeId} {x y : Operand} {kk : IntKind} {a b : Int} (hx : ev ρ x = some (.int kk a)) (hy : ev ρ y = some (.int kk b)) : OpV P (.binOp .mul t x y yt) ty ρ Γ (.int kk (kk.wrap (a * b))) :=
  ⟨by simp, fun e o E w hop hty he heL hs => binOp_int (by simp) hop (he _ _ hx) (he _ _ hy) (by simp [Op.intArith])⟩
theorem o_rem {t yt : TypeId} {x y : Operand} {kk : IntKind} {a b : Int} (hx : ev ρ x = some (.int kk a)) (hy : ev ρ y = some (.int kk b)) (ha : 0 ≤ a) (hb : 0 < b) (hn : Nat.blt d n = true)
    (h : Nx (.int kk (a % b)) Γ) : ExO P X n ds (some d) (.binOp .rem t x y yt) ty Nx ρ Γ :=
  o_value (by simp) hn fun e o w hop hty he heL hs => ⟨_, w, Γ, binOp_int (by simp) hop (he _ _ hx) (he _ _ hy) (by
    have : b ≠ 0 := by omega
    simp [Op.intDiv, this, Int.tmod_eq_emod_of_nonneg ha]), hs, h⟩
theorem v_rem {t yt : TypeId} {x y : Operand} {kk : IntKind} {a b : Int} (hx : ev ρ x = some (.int kk a)) (hy : ev ρ y = some (.int kk b)) (ha : 0 ≤ a) (hb : 0 < b) : OpV P (.binOp .rem t x y yt) ty ρ Γ (.int kk (a % b)) :=
  ⟨by simp, fun e o E w hop hty he heL hs => binOp_int (by simp) hop (he _ _ hx) (he _ _ hy) (by
    have : b ≠ 0 := by omega
    simp [Op.intDiv, this, Int.tmod_eq_emod_of_nonneg ha])⟩
theorem o_quo {t yt : TypeId} {x y : Operand} {kk : IntKind} {a b : Int} (hx : ev ρ x = some (.int kk a)) (hy : ev ρ y = some (.int kk b)) (ha : 0 ≤ a) (hb : 0 < b) (hw : kk.wrap (a / b) = a / b) (hn : Nat.blt d n = true)
    (h : Nx (.int kk (a / b)) Γ) : ExO P X n ds (some d) (.binOp .quo t x y yt) ty Nx ρ Γ :=
  o_value (by simp) hn fun e o w hop hty he heL hs => ⟨_, w, Γ, binOp_int (by simp) hop (he _ _ hx) (he _ _ hy) (by
    have : b ≠ 0 := by omega
    simp [Op.intDiv, this, Int.tdiv_eq_ediv_of_nonneg ha, hw]), hs, h⟩
theorem v_quo {t yt : TypeId} {x y : Operand} {kk : IntKind} {a b : Int} (hx : ev ρ x = some (.int kk a)) (hy : ev ρ y = some (.int kk b)) (ha : 0 ≤ a) (hb : 0 < b) (hw : kk.wrap (a / b) = a / b) : OpV P (.binOp .quo t x y yt) ty ρ Γ (.int kk (a / b)) :=
  ⟨by simp, fun e o E w hop hty he heL hs => binOp_int (by simp) hop (he _ _ hx) (he _ _ hy) (by
    have : b ≠ 0 := by omega
    simp [Op.intDiv, this, Int.tdiv_eq_ediv_of_nonneg ha, hw])⟩
theorem o_bits {t yt : TypeId} {x y : Operand} {kk : IntKind} {a b : Int} {op : BinOp} {r : Value} (hop' : op = .and ∨ op = .or ∨ op = .xor ∨ op = .andNot) (hx : ev ρ x = some (.int kk a)) (hy : ev ρ y = some (.int kk b)) (hr : ∀ w, (Op.intBits op kk a b).run P w = .ok r w) (hn : Nat.blt d n = true)
    (h : Nx (r) Γ) : ExO P X n ds (some d) (.binOp op t x y yt) ty Nx ρ Γ :=
  o_value (by simp) hn fun e o w hop hty he heL hs => ⟨_, w, Γ, binOp_int (by rcases hop' with rfl | rfl | rfl | rfl <;> simp) hop (he _ _ hx) (he _ _ hy) (by rcases hop' with rfl | rfl | rfl | rfl <;> exact hr w), hs, h⟩
theorem v_bits {t yt : TypeId} {x y : Operand} {kk : IntKind} {a b : Int} {op : BinOp} {r : Value} (hop' : op = .and ∨ op = .or ∨ op = .xor ∨ op = .andNot) (hx : ev ρ x = some (.int kk a)) (hy : ev ρ y = some (.int kk b)) (hr : ∀ w, (Op.intBits op kk a b).run P w = .ok r w) : OpV P (.binOp op t x y yt) ty ρ Γ (r) :=
  ⟨by simp, fun e o E w hop hty he heL hs => binOp_int (by rcases hop' with rfl | rfl | rfl | rfl <;> simp) hop (he _ _ hx) (he _ _ hy) (by rcases hop' with rfl | rfl | rfl | rfl <;> exact hr w)⟩
theorem o_shl {t yt : TypeId} {x y : Operand} {kk ky : IntKind} {a b : Int} (hx : ev ρ x = some (.int kk a)) (hy : ev ρ y = some (.int ky b)) (hb : 0 ≤ b ∧ b < kk.bits) (hw : kk.wrap (a * 2 ^ b.toNat) = a * 2 ^ b.toNat) (hn : Nat.blt d n = true)
    (h : Nx (.int kk (a * 2 ^ b.toNat)) Γ) : ExO P X n ds (some d) (.binOp .shl t x y yt) ty Nx ρ Γ :=
  o_value (by simp) hn fun e o w hop hty he heL hs => ⟨_, w, Γ, by
    have h1 : ¬ b < 0 := by omega
    have h2 : min b.toNat kk.bits = b.toNat := by omega
    simp [execOp, hop, he _ _ hx, he _ _ hy, eqGuard, binOp, Op.shift, h1, h2, hw], hs, h⟩
theorem v_shl {t yt : TypeId} {x y : Operand} {kk ky : IntKind} {a b : Int} (hx : ev ρ x = some (.int kk a)) (hy : ev ρ y = some (.int ky b)) (hb : 0 ≤ b ∧ b < kk.bits) (hw : kk.wrap (a * 2 ^ b.toNat) = a * 2 ^ b.toNat) : OpV P (.binOp .shl t x y yt) ty ρ Γ (.int kk (a * 2 ^ b.toNat)) :=
  ⟨by simp, fun e o E w hop hty he heL hs => by
    have h1 : ¬ b < 0 := by omega
    have h2 : min b.toNat kk.bits = b.toNat := by omega
    simp [execOp, hop, he _ _ hx, he _ _ hy, eqGuard, binOp, Op.shift, h1, h2, hw]⟩
theorem o_shr {t yt : TypeId} {x y : Operand} {kk ky : IntKind} {a b : Int} (hx : ev ρ x = some (.int kk a)) (hy : ev ρ y = some (.int ky b)) (hb : 0 ≤ b ∧ b < kk.bits) (hn : Nat.blt d n = true)
    (h : Nx (.int kk (a.fdiv (2 ^ b.toNat))) Γ) : ExO P X n ds (some d) (.binOp .shr t x y yt) ty Nx ρ Γ :=
  o_value (by simp) hn fun e o w hop hty he heL hs => ⟨_, w, Γ, by
    have h1 : ¬ b < 0 := by omega
    have h2 : min b.toNat kk.bits = b.toNat := by omega
    simp [execOp, hop, he _ _ hx, he _ _ hy, eqGuard, binOp, Op.shift, h1, h2], hs, h⟩
theorem v_shr {t yt : TypeId} {x y : Operand} {kk ky : IntKind} {a b : Int} (hx : ev ρ x = some (.int kk a)) (hy : ev ρ y = some (.int ky b)) (hb : 0 ≤ b ∧ b < kk.bits) : OpV P (.binOp .shr t x y yt) ty ρ Γ (.int kk (a.fdiv (2 ^ b.toNat))) :=
  ⟨by simp, fun e o E w hop hty he heL hs => by
    have h1 : ¬ b < 0 := by omega
    have h2 : min b.toNat kk.bits = b.toNat := by omega
    simp [execOp, hop, he _ _ hx, he _ _ hy, eqGuard, binOp, Op.shift, h1, h2]⟩
theorem o_lss_t {t yt : TypeId} {x y : Operand} {kk : IntKind} {a b : Int} (hx : ev ρ x = some (.int kk a)) (hy : ev ρ y = some (.int kk b)) (c : a < b) (hn : Nat.blt d n = true)
    (h : Nx (.bool true) Γ) : ExO P X n ds (some d) (.binOp .lss t x y yt) ty Nx ρ Γ :=
  o_value (by simp) hn fun e o w hop hty he heL hs => ⟨_, w, Γ, binOp_int (by simp) hop (he _ _ hx) (he _ _ hy) (by simp [Op.intCmp, c]), hs, h⟩
theorem v_lss_t {t yt : TypeId} {x y : Operand} {kk : IntKind} {a b : Int} (hx : ev ρ x = some (.int kk a)) (hy : ev ρ y = some (.int kk b)) (c : a < b) : OpV P (.binOp .lss t x y yt) ty ρ Γ (.bool true) :=
  ⟨by simp, fun e o E w hop hty he heL hs => binOp_int (by simp) hop (he _ _ hx) (he _ _ hy) (by simp [Op.intCmp, c])⟩
theorem o_lss_f {t yt : TypeId} {x y : Operand} {kk : IntKind} {a b : Int} (hx : ev ρ x = some (.int kk a)) (hy : ev ρ y = some (.int kk b)) (c : ¬ a < b) (hn : Nat.blt d n = true)
    (h : Nx (.bool false) Γ) : ExO P X n ds (some d) (.binOp .lss t x y yt) ty Nx ρ Γ :=
  o_value (by simp) hn fun e o w hop hty he heL hs => ⟨_, w, Γ, binOp_int (by simp) hop (he _ _ hx) (he _ _ hy) (by simp [Op.intCmp]; omega), hs, h⟩
theorem v_lss_f {t yt : TypeId} {x y : Operand} {kk : IntKind} {a b : Int} (hx : ev ρ x = some (.int kk a)) (hy : ev ρ y = some (.int kk b)) (c : ¬ a < b) : OpV P (.binOp .lss t x y yt) ty ρ Γ (.bool false) :=
  ⟨by simp, fun e o E w hop hty he heL hs => binOp_int (by simp) hop (he _ _ hx) (he _ _ hy) (by simp [Op.intCmp]; omega)⟩
theorem o_lss {t yt : TypeId} {x y : Operand} {kk : IntKind} {a b : Int} (hx : ev ρ x = some (.int kk a)) (hy : ev ρ y = some (.int kk b)) (hn : Nat.blt d n = true)
    (h : (a < b) → Nx (.bool true) Γ) (h' : (¬ a < b) → Nx (.bool false) Γ) : ExO P X n ds (some d) (.binOp .lss t x y yt) ty Nx ρ Γ := by
  by_cases c : a < b
  · exact o_lss_t hx hy c hn (h c)
  · exact o_lss_f hx hy (by exact c) hn (h' (by exact c))
theorem o_leq_t {t yt : TypeId} {x y : Operand} {kk : IntKind} {a b : Int} (hx : ev ρ x = some (.int kk a)) (hy : ev ρ y = some (.int kk b)) (c : a ≤ b) (hn : Nat.blt d n = true)
    (h : Nx (.bool true) Γ) : ExO P X n ds (some d) (.binOp .leq t x y yt) ty Nx ρ Γ :=
  o_value (by simp) hn fun e o w hop hty he heL hs => ⟨_, w, Γ, binOp_int (by simp) hop (he _ _ hx) (he _ _ hy) (by simp [Op.intCmp, c]), hs, h⟩
theorem v_leq_t {t yt : TypeId} {x y : Operand} {kk : IntKind} {a b : Int} (hx : ev ρ x = some (.int kk a)) (hy : ev ρ y = some (.int kk b)) (c : a ≤ b) : OpV P (.binOp .leq t x y yt) ty ρ Γ (.bool true) :=
  ⟨by simp, fun e o E w hop hty he heL hs => binOp_int (by simp) hop (he _ _ hx) (he _ _ hy) (by simp [Op.intCmp, c])⟩
theorem o_leq_f {t yt : TypeId} {x y : Operand} {kk : IntKind} {a b : Int} (hx : ev ρ x = some (.int kk a)) (hy : ev ρ y = some (.int kk b)) (c : ¬ a ≤ b) (hn : Nat.blt d n = true)
    (h : Nx (.bool false) Γ) : ExO P X n ds (some d) (.binOp .leq t x y yt) ty Nx ρ Γ :=
  o_value (by simp) hn fun e o w hop hty he heL hs => ⟨_, w, Γ, binOp_int (by simp) hop (he _ _ hx) (he _ _ hy) (by simp [Op.intCmp]; omega), hs, h⟩
theorem v_leq_f {t yt : TypeId} {x y : Operand} {kk : IntKind} {a b : Int} (hx : ev ρ x = some (.int kk a)) (hy : ev ρ y = some (.int kk b)) (c : ¬ a ≤ b) : OpV P (.binOp .leq t x y yt) ty ρ Γ (.bool false) :=
  ⟨by simp, fun e o E w hop hty he heL hs => binOp_int (by simp) hop (he _ _ hx) (he _ _ hy) (by simp [Op.intCmp]; omega)⟩
theorem o_leq {t yt : TypeId} {x y : Operand} {kk : IntKind} {a b : Int} (hx : ev ρ x = some (.int kk a)) (hy : ev ρ y = some (.int kk b)) (hn : Nat.blt d n = true)
    (h : (a ≤ b) → Nx (.bool true) Γ) (h' : (¬ a ≤ b) → Nx (.bool false) Γ) : ExO P X n ds (some d) (.binOp .leq t x y yt) ty Nx ρ Γ := by
  by_cases c : a ≤ b
  · exact o_leq_t hx hy c hn (h c)
  · exact o_leq_f hx hy (by exact c) hn (h' (by exact c))
theorem o_gtr_t {t yt : TypeId} {x y : Operand} {kk : IntKind} {a b : Int} (hx : ev ρ x = some (.int kk a)) (hy : ev ρ y = some (.int kk b)) (c : b < a) (hn : Nat.blt d n = true)
    (h : Nx (.bool true) Γ) : ExO P X n ds (some d) (.binOp .gtr t x y yt) ty Nx ρ Γ :=
  o_value (by simp) hn fun e o w hop hty he heL hs => ⟨_, w, Γ, binOp_int (by simp) hop (he _ _ hx) (he _ _ hy) (by simp [Op.intCmp, c]), hs, h⟩
theorem v_gtr_t {t yt : TypeId} {x y : Operand} {kk : IntKind} {a b : Int} (hx : ev ρ x = some (.int kk a)) (hy : ev ρ y = some (.int kk b)) (c : b < a) : OpV P (.binOp .gtr t x y yt) ty ρ Γ (.bool true) :=
  ⟨by simp, fun e o E w hop hty he heL hs => binOp_int (by simp) hop (he _ _ hx) (he _ _ hy) (by simp [Op.intCmp, c])⟩
theorem o_gtr_f {t yt : TypeId} {x y : Operand} {kk : IntKind} {a b : Int} (hx : ev ρ x = some (.int kk a)) (hy : ev ρ y = some (.int kk b)) (c : ¬ b < a) (hn : Nat.blt d n = true)
    (h : Nx (.bool false) Γ) : ExO P X n ds (some d) (.binOp .gtr t x y yt) ty Nx ρ Γ :=
  o_value (by simp) hn fun e o w hop hty he heL hs => ⟨_, w, Γ, binOp_int (by simp) hop (he _ _ hx) (he _ _ hy) (by simp [Op.intCmp]; omega), hs, h⟩
theorem v_gtr_f {t yt : TypeId} {x y : Operand} {kk : IntKind} {a b : Int} (hx : ev ρ x = some (.int kk a)) (hy : ev ρ y = some (.int kk b)) (c : ¬ b < a) : OpV P (.binOp .gtr t x y yt) ty ρ Γ (.bool false) :=
  ⟨by simp, fun e o E w hop hty he heL hs => binOp_int (by simp) hop (he _ _ hx) (he _ _ hy) (by simp [Op.intCmp]; omega)⟩
theorem o_gtr {t yt : TypeId} {x y : Operand} {kk : IntKind} {a b : Int} (hx : ev ρ x = some (.int kk a)) (hy : ev ρ y = some (.int kk b)) (hn : Nat.blt d n = true)
    (h : (b < a) → Nx (.bool true) Γ) (h' : (¬ b < a) → Nx (.bool false) Γ) : ExO P X n ds (some d) (.binOp .gtr t x y yt) ty Nx ρ Γ := by
  by_cases c : b < a
  · exact o_gtr_t hx hy c hn (h c)
  · exact o_gtr_f hx hy (by exact c) hn (h' (by exact c))
theorem o_geq_t {t yt : TypeId} {x y : Operand} {kk : IntKind} {a b : Int} (hx : ev ρ x = some (.int kk a)) (hy : ev ρ y = some (.int kk b)) (c : b ≤ a) (hn : Nat.blt d n = true)
    (h : Nx (.bool true) Γ) : ExO P X n ds (some d) (.binOp .geq t x y yt) ty Nx ρ Γ :=
  o_value (by simp) hn fun e o w hop hty he heL hs => ⟨_, w, Γ, binOp_int (by simp) hop (he _ _ hx) (he _ _ hy) (by simp [Op.intCmp, c]), hs, h⟩
theorem v_geq_t {t yt : TypeId} {x y : Operand} {kk : IntKind} {a b : Int} (hx : ev ρ x = some (.int kk a)) (hy : ev ρ y = some (.int kk b)) (c : b ≤ a) : OpV P (.binOp .geq t x y yt) ty ρ Γ (.bool true) :=
  ⟨by simp, fun e o E w hop hty he heL hs => binOp_int (by simp) hop (he _ _ hx) (he _ _ hy) (by simp [Op.intCmp, c])⟩
theorem o_geq_f {t yt : TypeId} {x y : Operand} {kk : IntKind} {a b : Int} (hx : ev ρ x = some (.int kk a)) (hy : ev ρ y = some (.int kk b)) (c : ¬ b ≤ a) (hn : Nat.blt d n = true)
    (h : Nx (.bool false) Γ) : ExO P X n ds (some d) (.binOp .geq t x y yt) ty Nx ρ Γ :=
  o_value (by simp) hn fun e o w hop hty he heL hs => ⟨_, w, Γ, binOp_int (by simp) hop (he _ _ hx) (he _ _ hy) (by simp [Op.intCmp]; omega), hs, h⟩
theorem v_geq_f {t yt : TypeId} {x y : Operand} {kk : IntKind} {a b : Int} (hx : ev ρ x = some (.int kk a)) (hy : ev ρ y = some (.int kk b)) (c : ¬ b ≤ a) : OpV P (.binOp .geq t x y yt) ty ρ Γ (.bool false) :=
  ⟨by simp, fun e o E w hop hty he heL hs => binOp_int (by simp) hop (he _ _ hx) (he _ _ hy) (by simp [Op.intCmp]; omega)⟩
theorem o_geq {t yt : TypeId} {x y : Operand} {kk : IntKind} {a b : Int} (hx : ev ρ x = some (.int kk a)) (hy : ev ρ y = some (.int kk b)) (hn : Nat.blt d n = true)
    (h : (b ≤ a) → Nx (.bool true) Γ) (h' : (¬ b ≤ a) → Nx (.bool false) Γ) : ExO P X n ds (some d) (.binOp .geq t x y yt) ty Nx ρ Γ := by
  by_cases c : b ≤ a
  · exact o_geq_t hx hy c hn (h c)
  · exact o_geq_f hx hy (by exact c) hn (h' (by exact c))
theorem o_eql_t {t yt : TypeId} {x y : Operand} {kk : IntKind} {a b : Int} (hx : ev ρ x = some (.int kk a)) (hy : ev ρ y = some (.int kk b)) (c : a = b) (hn : Nat.blt d n = true)
    (h : Nx (.bool true) Γ) : ExO P X n ds (some d) (.binOp .eql t x y yt) ty Nx ρ Γ :=
  o_value (by simp) hn fun e o w hop hty he heL hs => ⟨_, w, Γ, binOp_int (by simp) hop (he _ _ hx) (he _ _ hy) (by simp [Op.intCmp, c]), hs, h⟩
theorem v_eql_t {t yt : TypeId} {x y : Operand} {kk : IntKind} {a b : Int} (hx : ev ρ x = some (.int kk a)) (hy : ev ρ y = some (.int kk b)) (c : a = b) : OpV P (.binOp .eql t x y yt) ty ρ Γ (.bool true) :=
  ⟨by simp, fun e o E w hop hty he heL hs => binOp_int (by simp) hop (he _ _ hx) (he _ _ hy) (by simp [Op.intCmp, c])⟩
theorem o_eql_f {t yt : TypeId} {x y : Operand} {kk : IntKind} {a b : Int} (hx : ev ρ x = some (.int kk a)) (hy : ev ρ y = some (.int kk b)) (c : a ≠ b) (hn : Nat.blt d n = true)
    (h : Nx (.bool false) Γ) : ExO P X n ds (some d) (.binOp .eql t x y yt) ty Nx ρ Γ :=
  o_value (by simp) hn fun e o w hop hty he heL hs => ⟨_, w, Γ, binOp_int (by simp) hop (he _ _ hx) (he _ _ hy) (by simp [Op.intCmp]; exact c), hs, h⟩
theorem v_eql_f {t yt : TypeId} {x y : Operand} {kk : IntKind} {a b : Int} (hx : ev ρ x = some (.int kk a)) (hy : ev ρ y = some (.int kk b)) (c : a ≠ b) : OpV P (.binOp .eql t x y yt) ty ρ Γ (.bool false) :=
  ⟨by simp, fun e o E w hop hty he heL hs => binOp_int (by simp) hop (he _ _ hx) (he _ _ hy) (by simp [Op.intCmp]; exact c)⟩
theorem o_eql {t yt : TypeId} {x y : Operand} {kk : IntKind} {a b : Int} (hx : ev ρ x = some (.int kk a)) (hy : ev ρ y = some (.int kk b)) (hn : Nat.blt d n = true)
    (h : (a = b) → Nx (.bool true) Γ) (h' : (a ≠ b) → Nx (.bool false) Γ) : ExO P X n ds (some d) (.binOp .eql t x y yt) ty Nx ρ Γ := by
  by_cases c : a = b
  · exact o_eql_t hx hy c hn (h c)
  · exact o_eql_f hx hy (by exact c) hn (h' (by exact c))
theorem o_neq_t {t yt : TypeId} {x y : Operand} {kk : IntKind} {a b : Int} (hx : ev ρ x = some (.int kk a)) (hy : ev ρ y = some (.int kk b)) (c : a ≠ b) (hn : Nat.blt d n = true)
    (h : Nx (.bool true) Γ) : ExO P X n ds (some d) (.binOp .neq t x y yt) ty Nx ρ Γ :=
  o_value (by simp) hn fun e o w hop hty he heL hs => ⟨_, w, Γ, binOp_int (by simp) hop (he _ _ hx) (he _ _ hy) (by simp [Op.intCmp]; exact c), hs, h⟩
theorem v_neq_t {t yt : TypeId} {x y : Operand} {kk : IntKind} {a b : Int} (hx : ev ρ x = some (.int kk a)) (hy : ev ρ y = some (.int kk b)) (c : a ≠ b) : OpV P (.binOp .neq t x y yt) ty ρ Γ (.bool true) :=
  ⟨by simp, fun e o E w hop hty he heL hs => binOp_int (by simp) hop (he _ _ hx) (he _ _ hy) (by simp [Op.intCmp]; exact c)⟩
theorem o_neq_f {t yt : TypeId} {x y : Operand} {kk : IntKind} {a b : Int} (hx : ev ρ x = some (.int kk a)) (hy : ev ρ y = some (.int kk b)) (c : a = b) (hn : Nat.blt d n = true)
    (h : Nx (.bool false) Γ) : ExO P X n ds (some d) (.binOp .neq t x y yt) ty Nx ρ Γ :=
  o_value (by simp) hn fun e o w hop hty he heL hs => ⟨_, w, Γ, binOp_int (by simp) hop (he _ _ hx) (he _ _ hy) (by simp [Op.intCmp, c]), hs, h⟩
theorem v_neq_f {t yt : TypeId} {x y : Operand} {kk : IntKind} {a b : Int} (hx : ev ρ x = some (.int kk a)) (hy : ev ρ y = some (.int kk b)) (c : a = b) : OpV P (.binOp .neq t x y yt) ty ρ Γ (.bool false) :=
  ⟨by simp, fun e o E w hop hty he heL hs => binOp_int (by simp) hop (he _ _ hx) (he _ _ hy) (by simp [Op.intCmp, c])⟩
theorem o_neq {t yt : TypeId} {x y : Operand} {kk : IntKind} {a b : Int} (hx : ev ρ x = some (.int kk a)) (hy : ev ρ y = some (.int kk b)) (hn : Nat.blt d n = true)
    (h : (a ≠ b) → Nx (.bool true) Γ) (h' : (a = b) → Nx (.bool false) Γ) : ExO P X n ds (some d) (.binOp .neq t x y yt) ty Nx ρ Γ := by
  by_cases c : a ≠ b
  · exact o_neq_t hx hy c hn (h c)
  · exact o_neq_f hx hy (by exact Decidable.not_not.1 c) hn (h' (by exact Decidable.not_not.1 c))

/-! ### Addresses -/
theorem fieldAt_run {t f off : Nat} [T : TyField P t f off] (b o : Nat) (w : World) : (Instr.fieldAt t (.pointer (some ⟨b, o, none⟩)) f).run P w = .ok (.pointer (some ⟨b, o + off, none⟩)) w := by
  obtain ⟨fs, fd, i, hu, hf, rfl, hi, hz⟩ := T.h
  simp [Instr.fieldAt, underlying_run hu, hf, Instr.sureAddr, fieldPlace, sizeOf_run hi, hz, Addr.add_none]
theorem o_fieldAddr {t f off : Nat} {x : Operand} {b o : Nat} [T : TyField P t f off] (hx : ev ρ x = some (.pointer (some ⟨b, o, none⟩))) (hn : Nat.blt d n = true) (h : Nx (.pointer (some ⟨b, o + off, none⟩)) Γ) :
    ExO P X n ds (some d) (.fieldAddr t x f) ty Nx ρ Γ :=
  o_value (by simp) hn fun e o w hop hty he heL hs => ⟨_, w, Γ, by simp [execOp, hop, he x _ hx, fieldAt_run], hs, h⟩
theorem v_fieldAddr {t f off : Nat} {x : Operand} {b o : Nat} [T : TyField P t f off] (hx : ev ρ x = some (.pointer (some ⟨b, o, none⟩))) : OpV P (.fieldAddr t x f) ty ρ Γ (.pointer (some ⟨b, o + off, none⟩)) :=
  ⟨by simp, fun e o E w hop hty he heL hs => by simp [execOp, hop, he x _ hx, fieldAt_run]⟩
theorem fieldV_run {t f off : Nat} [T : TyFieldV P t f off] {vs : List Value} {v : Value} (hv : vs[off]? = some v) (w : World) : (Instr.field t (.agg vs.toArray) f).run P w = .ok v w := by
  obtain ⟨fs, fd, hu, hf, rfl, hc⟩ := T.h
  simp [Instr.field, underlying_run hu, hf, asAgg, part, TyCell.agg, hv]
theorem o_field {t f off : Nat} {x : Operand} {vs : List Value} {v : Value} [T : TyFieldV P t f off] (hx : ev ρ x = some (.agg vs.toArray)) (hv : vs[off]? = some v) (hn : Nat.blt d n = true) (h : Nx (v) Γ) :
    ExO P X n ds (some d) (.field t x f) ty Nx ρ Γ :=
  o_value (by simp) hn fun e o w hop hty he heL hs => ⟨_, w, Γ, by simp [execOp, hop, he x _ hx, fieldV_run hv], hs, h⟩
theorem v_field {t f off : Nat} {x : Operand} {vs : List Value} {v : Value} [T : TyFieldV P t f off] (hx : ev ρ x = some (.agg vs.toArray)) (hv : vs[off]? = some v) : OpV P (.field t x f) ty ρ Γ (v) :=
  ⟨by simp, fun e o E w hop hty he heL hs => by simp [execOp, hop, he x _ hx, fieldV_run hv]⟩
theorem o_indexS {t e s y : Nat} {x ix : Operand} {b off len cap j : Nat} {kk : IntKind} {i : Int} [T : TySlice P t e s y] (hx : ev ρ x = some (.slice (some ⟨b, off, none⟩) len cap)) (hi : ev ρ ix = some (.int kk i)) (hj : i = (j : Int)) (hlt : j < len)
    (hn : Nat.blt d n = true) (h : Nx (.pointer (some ⟨b, off + j * s, none⟩)) Γ) : ExO P X n ds (some d) (.indexAddr t x ix) ty Nx ρ Γ :=
  o_value (by simp) hn fun ee o w hop hty he heL hs => ⟨_, w, Γ, by
    obtain ⟨hu, inf, hi', hsz, _⟩ := T.und
    subst hj
    have h1 : (0 : Int) ≤ j ∧ (j : Int) < len := by omega
    simp [execOp, hop, he x _ hx, he ix _ hi, Instr.indexAt, asIntOf, underlying_run hu, sizeOf_run hi', hsz, hlt, Addr.add_none], hs, h⟩
theorem v_indexS {t e s y : Nat} {x ix : Operand} {b off len cap j : Nat} {kk : IntKind} {i : Int} [T : TySlice P t e s y] (hx : ev ρ x = some (.slice (some ⟨b, off, none⟩) len cap)) (hi : ev ρ ix = some (.int kk i)) (hj : i = (j : Int)) (hlt : j < len) : OpV P (.indexAddr t x ix) ty ρ Γ (.pointer (some ⟨b, off + j * s, none⟩)) :=
  ⟨by simp, fun ee o E w hop hty he heL hs => by
    obtain ⟨hu, inf, hi', hsz, _⟩ := T.und
    subst hj
    have h1 : (0 : Int) ≤ j ∧ (j : Int) < len := by omega
    simp [execOp, hop, he x _ hx, he ix _ hi, Instr.indexAt, asIntOf, underlying_run hu, sizeOf_run hi', hsz, hlt, Addr.add_none]⟩
theorem o_indexA {t m e s : Nat} {x ix : Operand} {b off j : Nat} {kk : IntKind} {i : Int} [T : TyArray P t m e s] (hx : ev ρ x = some (.pointer (some ⟨b, off, none⟩))) (hi : ev ρ ix = some (.int kk i)) (hj : i = (j : Int)) (hlt : j < m)
    (hn : Nat.blt d n = true) (h : Nx (.pointer (some ⟨b, off + j * s, none⟩)) Γ) : ExO P X n ds (some d) (.indexAddr t x ix) ty Nx ρ Γ :=
  o_value (by simp) hn fun ee o w hop hty he heL hs => ⟨_, w, Γ, by
    obtain ⟨hu, inf, hi', hsz⟩ := T.und
    subst hj
    simp [execOp, hop, he x _ hx, he ix _ hi, Instr.indexAt, asIntOf, underlying_run hu, sizeOf_run hi', hsz, hlt, Instr.sureAddr, Addr.add_none], hs, h⟩

/-! ### Loads and stores -/
theorem v_indexA {t m e s : Nat} {x ix : Operand} {b off j : Nat} {kk : IntKind} {i : Int} [T : TyArray P t m e s] (hx : ev ρ x = some (.pointer (some ⟨b, off, none⟩))) (hi : ev ρ ix = some (.int kk i)) (hj : i = (j : Int)) (hlt : j < m) : OpV P (.indexAddr t x ix) ty ρ Γ (.pointer (some ⟨b, off + j * s, none⟩)) :=
  ⟨by simp, fun ee o E w hop hty he heL hs => by
    obtain ⟨hu, inf, hi', hsz⟩ := T.und
    subst hj
    simp [execOp, hop, he x _ hx, he ix _ hi, Instr.indexAt, asIntOf, underlying_run hu, sizeOf_run hi', hsz, hlt, Instr.sureAddr, Addr.add_none]⟩
/-- What may be read: the state says what the cell holds. -/
def Cell (Γ : List HP) (b o : Nat) (v : Value) : Prop := ∀ E w, St E Γ w → w.cell? ⟨b, o, none⟩ = some v
theorem Cell.row {b off o : Nat} {vs : List Value} {v : Value} [H : HasRow Γ b off vs] (ho : Nat.ble off o = true) (h : vs[o - off]? = some v) : Cell Γ b o v := fun E w s => by
  have := (s.hasRow (b := b) h).1
  rwa [show off + (o - off) = o by have := Nat.le_of_ble_eq_true ho; omega] at this
theorem o_loadC {t : TypeId} {x : Operand} {b o : Nat} {v : Value} [T : TyCell P t] (hx : ev ρ x = some (.pointer (some ⟨b, o, none⟩))) (hc : Cell Γ b o v) (hn : Nat.blt d n = true) (h : Nx (v) Γ) :
    ExO P X n ds (some d) (.load t x) ty Nx ρ Γ :=
  o_value (by simp) hn fun e o w hop hty he heL hs => ⟨v, w, Γ, by simp [execOp, hop, he x _ hx, Instr.loadAt, Instr.sureAddr, loadVar, TyCell.agg, hc _ _ hs], hs, h⟩
theorem v_loadC {t : TypeId} {x : Operand} {b o : Nat} {v : Value} [T : TyCell P t] (hx : ev ρ x = some (.pointer (some ⟨b, o, none⟩))) (hc : Cell Γ b o v) : OpV P (.load t x) ty ρ Γ (v) :=
  ⟨by simp, fun e o E w hop hty he heL hs => by simp [execOp, hop, he x _ hx, Instr.loadAt, Instr.sureAddr, loadVar, TyCell.agg, hc _ _ hs]⟩
/-- A load out of a row of the call's own. -/
theorem o_load {t : TypeId} {x : Operand} {b o off : Nat} {vs : List Value} {v : Value} [T : TyCell P t] (hx : ev ρ x = some (.pointer (some ⟨b, o, none⟩))) [H : HasRow Γ b off vs] (ho : Nat.ble off o = true) (hv : vs[o - off]? = some v) (hn : Nat.blt d n = true)
    (h : Nx (v) Γ) : ExO P X n ds (some d) (.load t x) ty Nx ρ Γ := o_loadC hx (Cell.row ho hv) hn h
/-- Likewise, the place within the row said. -/
theorem o_loadI {t : TypeId} {x : Operand} {b o off i : Nat} {vs : List Value} {v : Value} [T : TyCell P t] (hx : ev ρ x = some (.pointer (some ⟨b, o, none⟩))) [H : HasRow Γ b off vs] (ho : o = off + i) (hv : vs[i]? = some v) (hn : Nat.blt d n = true)
    (h : Nx (v) Γ) : ExO P X n ds (some d) (.load t x) ty Nx ρ Γ := o_loadC hx (fun E w s => by rw [ho]; exact (s.hasRow (b := b) hv).1) hn h
theorem o_loadAC {t s : Nat} {x : Operand} {b o : Nat} {us : List Value} [T : TyAgg P t s] (hx : ev ρ x = some (.pointer (some ⟨b, o, none⟩))) (hl : us.length = s) (hc : ∀ j v, us[j]? = some v → Cell Γ b (o + j) v) (hn : Nat.blt d n = true) (h : Nx (.agg us.toArray) Γ) :
    ExO P X n ds (some d) (.load t x) ty Nx ρ Γ :=
  o_value (by simp) hn fun e o' w hop hty he heL hs => ⟨_, w, Γ, by
    obtain ⟨i, hi, hsz⟩ := TyAgg.size (P := P) (t := t)
    simp [execOp, hop, he x _ hx, Instr.loadAt, Instr.sureAddr, loadVar, TyAgg.agg, sizeOf_run hi, hsz, loadCells_run (P := P) (w := w) hl (fun j v hj => hc j v hj _ _ hs)], hs, h⟩
theorem v_loadAC {t s : Nat} {x : Operand} {b o : Nat} {us : List Value} [T : TyAgg P t s] (hx : ev ρ x = some (.pointer (some ⟨b, o, none⟩))) (hl : us.length = s) (hc : ∀ j v, us[j]? = some v → Cell Γ b (o + j) v) : OpV P (.load t x) ty ρ Γ (.agg us.toArray) :=
  ⟨by simp, fun e o' E w hop hty he heL hs => by
    obtain ⟨i, hi, hsz⟩ := TyAgg.size (P := P) (t := t)
    simp [execOp, hop, he x _ hx, Instr.loadAt, Instr.sureAddr, loadVar, TyAgg.agg, sizeOf_run hi, hsz, loadCells_run (P := P) (w := w) hl (fun j v hj => hc j v hj _ _ hs)]⟩
theorem o_loadA {t s : Nat} {x : Operand} {b o off : Nat} {vs us : List Value} [T : TyAgg P t s] (hx : ev ρ x = some (.pointer (some ⟨b, o, none⟩))) [H : HasRow Γ b off vs] (ho : Nat.ble off o = true) (hv : (vs.drop (o - off)).take s = us) (hl : us.length = s) (hn : Nat.blt d n = true)
    (h : Nx (.agg us.toArray) Γ) : ExO P X n ds (some d) (.load t x) ty Nx ρ Γ :=
  o_loadAC hx hl (fun j v hj => Cell.row (by have := Nat.le_of_ble_eq_true ho; exact Nat.ble_eq ▸ (by omega : off ≤ o + j)) (by
    have h1 := Nat.le_of_ble_eq_true ho
    rw [← hv, List.getElem?_take] at hj
    split at hj
    · rw [List.getElem?_drop] at hj
      rw [show o + j - off = o - off + j by omega]; exact hj
    · cases hj)) hn h

theorem storeCells_run {b off : Nat} : ∀ (us : List Value) (i : Nat) (w : World) (K : HP → List HP) (vs : List Value) (E : Env) (Γ : List HP), UpdRow Γ b off vs K → St E Γ w → i + us.length ≤ vs.length → (∀ u ∈ us, u.oneCell' = true) →
    ∀ (o q : Nat), o + q = off + i → ∃ w', (storeCells ⟨b, o, none⟩ us q).run P w = .ok () w' ∧ St E (K (Row b off (vs.take i ++ us ++ vs.drop (i + us.length)))) w' := by
  intro us
  induction us with
  | nil =>
    intro i w K vs E Γ H s _ _ o q _
    refine ⟨w, by simp [storeCells], ?_⟩
    obtain ⟨Δ, p, q⟩ := H.h
    rw [List.append_nil, List.length_nil, Nat.add_zero, List.take_append_drop]
    exact s.perm (p.trans (q _))
  | cons u us ih =>
    intro i w K vs E Γ H s hl hu o q hoq
    have hlt : i < vs.length := by simp at hl; omega
    have hi : vs[i]? = some vs[i] := List.getElem?_eq_getElem hlt
    obtain ⟨Δ, p, r⟩ := H.h
    have hc := (s.perm p).row_cell hi
    have s1 := s.updRow (H := H) u hlt
    have H1 : UpdRow (K (Row b off (vs.set i u))) b off (vs.set i u) K := ⟨⟨Δ, (r _).symm, r⟩⟩
    obtain ⟨w', hr, s2⟩ := ih (i + 1) _ K (vs.set i u) E _ H1 s1 (by simp at hl ⊢; omega) (fun v hv => hu v (List.mem_cons_of_mem _ hv)) o (q + 1) (by omega)
    refine ⟨w', ?_, ?_⟩
    · simp only [storeCells, Sem.run_bind, Addr.add_none, hoq]
      rw [run_store P w _ u _ (hu u (List.mem_cons_self ..)), hc.1]
      simp only [hc.2, Bool.false_eq_true, if_false, Result.andThen_ok]
      exact hr
    · have e : (vs.set i u).take (i + 1) ++ us ++ (vs.set i u).drop (i + 1 + us.length) = vs.take i ++ u :: us ++ vs.drop (i + (u :: us).length) := by
        rw [List.drop_set_of_lt (by omega), List.take_set, List.take_succ_eq_append_getElem hlt]
        have e1 : (vs.take i ++ [vs[i]]).set i u = vs.take i ++ [u] := by
          rw [List.set_append_right _ _ (by simp; omega)]
          simp [Nat.min_eq_left (Nat.le_of_lt hlt)]
        rw [e1]
        simp [Nat.add_comm, Nat.add_left_comm]
      rw [e] at s2
      exact s2

theorem oneCell_cells {v : Value} (h : v.oneCell' = true) : v.cells = #[v] := by cases v <;> first | rfl | cases h

theorem o_store {t : TypeId} {x y : Operand} {b o off : Nat} {vs : List Value} {v : Value} {K : HP → List HP} [T : TyCell P t] (hx : ev ρ x = some (.pointer (some ⟨b, o, none⟩))) (hy : ev ρ y = some v) (h1 : v.oneCell' = true)
    [H : UpdRow Γ b off vs K] (ho : Nat.ble off o = true) (hl : o - off < vs.length) (h : Nx undef (K (Row b off (vs.set (o - off) v)))) :
    ExO P X n ds none (.store t x y) ty Nx ρ Γ :=
  o_skip (by simp) fun e oo w hop hty he hs => by
    have h2 := Nat.le_of_ble_eq_true ho
    obtain ⟨i, hi, hsz⟩ := TyCell.size (P := P) (t := t)
    have hi0 : vs[o - off]? = some vs[o - off] := List.getElem?_eq_getElem hl
    obtain ⟨Δ, p, q⟩ := H.h
    have hc := (hs.perm p).row_cell hi0
    have s1 := hs.updRow (H := H) v hl
    rw [show off + (o - off) = o by omega] at hc s1
    refine ⟨_, _, ?_, s1, h⟩
    simp [execOp, hop, he x _ hx, he y _ hy, Instr.storeAt, Instr.sureAddr, storeVar, oneCell_cells h1, sizeOf_run hi, hsz, storeCells, Addr.add_none, run_store _ _ _ _ _ h1, hc.1, hc.2]

theorem o_storeI {t : TypeId} {x y : Operand} {b o off i : Nat} {vs : List Value} {v : Value} {K : HP → List HP} [T : TyCell P t] (hx : ev ρ x = some (.pointer (some ⟨b, o, none⟩))) (hy : ev ρ y = some v) (h1 : v.oneCell' = true)
    [H : UpdRow Γ b off vs K] (ho : o = off + i) (hl : Nat.blt i vs.length = true) (h : Nx undef (K (Row b off (vs.set i v)))) :
    ExO P X n ds none (.store t x y) ty Nx ρ Γ := by
  subst ho
  have hl' : i < vs.length := by simpa [Nat.blt_eq] using hl
  have e : off + i - off = i := by omega
  exact o_store (off := off) (vs := vs) (K := K) hx hy h1 (by simp [Nat.ble_eq]) (by omega) (by rw [e]; exact h)

/-- A struct stored whole. -/
theorem o_storeA {t s : Nat} {x y : Operand} {b o off : Nat} {vs us : List Value} {K : HP → List HP} [T : TyAgg P t s] (hx : ev ρ x = some (.pointer (some ⟨b, o, none⟩))) (hy : ev ρ y = some (.agg us.toArray)) (hs' : us.length = s) (h1 : us.all Value.oneCell' = true)
    [H : UpdRow Γ b off vs K] (ho : Nat.ble off o = true) (hl : o - off + us.length ≤ vs.length) (h : Nx undef (K (Row b off (vs.take (o - off) ++ us ++ vs.drop (o - off + us.length))))) :
    ExO P X n ds none (.store t x y) ty Nx ρ Γ :=
  o_skip (by simp) fun e oo w hop hty he hs => by
    have h2 := Nat.le_of_ble_eq_true ho
    obtain ⟨i, hi, hsz⟩ := TyAgg.size (P := P) (t := t)
    obtain ⟨w', hr, s1⟩ := storeCells_run (P := P) us (o - off) w K vs X.E Γ H hs hl (fun u hu => List.all_eq_true.1 h1 u hu) o 0 (by omega)
    refine ⟨w', _, ?_, s1, h⟩
    simp [execOp, hop, he x _ hx, he y _ hy, Instr.storeAt, Instr.sureAddr, storeVar, Value.cells, sizeOf_run hi, hsz, hs', hr]

/-! ### New variables -/
def zeroB (P : Program) (t : TypeId) (zs : List Value) : Prop := ∃ i v, P.info? t = some i ∧ i.zero = some v ∧ v.cells.toList = zs
class TyZero (P : Program) (t : TypeId) (zs : outParam (List Value)) : Prop where h : zeroB P t zs
theorem o_alloc {t : TypeId} {zs : List Value} [T : TyZero P t zs] (hn : Nat.blt d n = true) (h : ∀ b, Nx (.pointer (some ⟨b, 0, none⟩)) (Row b 0 zs :: Γ)) :
    ExO P X n ds (some d) (.alloc t) ty Nx ρ Γ :=
  o_value (by simp) hn fun e o w hop hty he heL hs => by
    obtain ⟨i, v, hi, hz, rfl⟩ := T.h
    refine ⟨_, _, _, ?_, hs.alloc_row v.cells.toList t, h w.heap.size⟩
    simp [execOp, hop, Instr.alloc, zeroValue, typeInfo_run hi, hz, newVar, newRow]
theorem o_box {t : TypeId} {x : Operand} {v : Value} (hx : ev ρ x = some v) (h1 : v.oneCell' = true) (hn : Nat.blt d n = true) (h : ∀ b, Nx (.pointer (some ⟨b, 0, none⟩)) (Row b 0 [v] :: Γ)) :
    ExO P X n ds (some d) (.box t x) ty Nx ρ Γ :=
  o_value (by simp) hn fun e o w hop hty he heL hs => ⟨_, _, _, by simp [execOp, hop, he x _ hx, Instr.box, newVar, newRow, oneCell_cells h1], hs.alloc_row [v] t, h w.heap.size⟩
theorem o_boxA {t : TypeId} {x : Operand} {vs : List Value} (hx : ev ρ x = some (.agg vs.toArray)) (hn : Nat.blt d n = true) (h : ∀ b, Nx (.pointer (some ⟨b, 0, none⟩)) (Row b 0 vs :: Γ)) :
    ExO P X n ds (some d) (.box t x) ty Nx ρ Γ :=
  o_value (by simp) hn fun e o w hop hty he heL hs => ⟨_, _, _, by simp [execOp, hop, he x _ hx, Instr.box, newVar, newRow, Value.cells], hs.alloc_row vs t, h w.heap.size⟩
end ops
end Go.Proofs.Ythneebbmodkjiaa
