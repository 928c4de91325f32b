/- Calls, entries, returns. -/
import Derived.Test.YthneebbmodkjiaaSLi
namespace Go.Proofs.Ythneebbmodkjiaa
open Go.RowKit

/-- A FUNCTION's CONTRACT: with A at hand (and whatever else beside it) it returns a value and leaves B, as R says. -/
def Spec (P : Program) (f : FuncId) (args : List Value) (A : List HP) (R : Value → List HP → Prop) : Prop :=
  ∀ E Γ w, St E (A ++ Γ) w → Calls P f args.toArray w fun e w' => ∃ v B, e = .returned v ∧ R v B ∧ St E (B ++ Γ) w'

theorem Spec.mono {P : Program} {f : FuncId} {args : List Value} {A : List HP} {R R' : Value → List HP → Prop} (h : Spec P f args A R) (hr : ∀ v B, R v B → R' v B) : Spec P f args A R' :=
  fun E Γ w s => (h E Γ w s).mono fun _ _ ⟨v, B, e, r, s'⟩ => ⟨v, B, e, hr v B r, s'⟩
theorem Spec.pre {P : Program} {f : FuncId} {args : List Value} {A A' : List HP} {R : Value → List HP → Prop} (h : Spec P f args A R) (hA : Ent A' A) : Spec P f args A' R :=
  fun E Γ w s => h E Γ w ((hA.frame Γ).st s)
/-- What is not touched is carried along. -/
theorem Spec.frame {P : Program} {f : FuncId} {args : List Value} {A : List HP} {R : Value → List HP → Prop} (h : Spec P f args A R) (Θ : List HP) : Spec P f args (A ++ Θ) (fun v B => ∃ B', R v B' ∧ B = B' ++ Θ) :=
  fun E Γ w s => (h E (Θ ++ Γ) w (by rw [← List.append_assoc]; exact s)).mono fun _ _ ⟨v, B, e, r, s'⟩ => ⟨v, B ++ Θ, e, ⟨B, r, rfl⟩, by rw [List.append_assoc]; exact s'⟩

class Callable (P : Program) (f : FuncId) : Prop where run : ∀ (args : Array Value) (w : World), (callFunc f args).run P w = .ok (.enter f args) w

section ops
variable {P : Program} {X : Cx} {n : Nat} {ds : List Deferred} {ρ : Rho} {Γ : List HP} {Nx : Value → List HP → Prop} {d : Nat} {ty : TypeId}

/-- An operation that enters a function. -/
theorem o_enter {d : Nat} {op : Op} {ty : TypeId} (hnd : ∀ c, op ≠ .defer c) (hn : Nat.blt d n = true)
    (h : ∀ (e : Operand → Value) (o : Oper) (w : World), o.op = op → (∀ x v, ev ρ x = some v → e x = v) → (∀ xs vs, evL ρ xs = some vs → xs.map e = vs) → St X.E Γ w →
      ∃ f args w', (execOp e o).run P w = .ok (.enter f args) w' ∧ Calls P f args w' fun e w'' => ∃ v Γ', e = .returned v ∧ St X.E Γ' w'' ∧ Nx v Γ') :
    ExO P X n ds (some d) op ty Nx ρ Γ := by
  intro ops i o rest k ρF hle ho hdst hop hty hw hK t w htn hm hs
  obtain ⟨f, args, w', hr, hcalls⟩ := h (Act.mk t ds).eval o w hop (fun x v hx => (hm.le hle).ev ds hx) (fun xs vs hx => (hm.le hle).evL ds hx) hs
  have hlt : d < t.size := by rw [htn]; exact of_decide_eq_true (by simpa [Nat.blt_eq] using hn)
  obtain ⟨fr0, hfr0⟩ : ∃ fr0, X.base.atR ⟨t, ds⟩ (.inRegion ops (i :: rest) :: k) = fr0 := ⟨_, rfl⟩
  have henter : step P (lone fr0 X.cs w) = .next (lone (Frame.enter P f args .normal) (fr0 :: X.cs) w') := by
    rw [← hfr0]
    refine step_lone_go ?_
    rw [stepGR_op ho (hw t hm), Oper.semAt_eq _ _ _ (by rw [hop]; exact hnd)]
    simp [stepG.apply, hr, Frame.atR]
  obtain ⟨e, w'', fr, ⟨v, Γ', rfl, hs', hnext⟩, hcomes, hfn, hleave⟩ := hcalls (fr0 :: X.cs)
  have hfin := Frame.finish_atR X.base ⟨t, ds⟩ ops i rest k v
  have hp : ((ops[i]?).bind (·.dst)) = some d := by simp [ho, hdst]
  rw [hp, hfr0] at hfin
  rw [hfr0]
  refine .step henter (.steps hcomes (.step (step_leave_returned hleave) ?_))
  rw [hfin]
  exact hK _ _ hnext _ w'' (by simpa using htn) (hm.put v hlt) hs'

theorem o_callF {fo : Operand} {args : List Operand} {ts : Array TypeId} {f : FuncId} {fs caps vs : List Value} {A Δ : List HP} {R : Value → List HP → Prop} (hf : ev ρ fo = some (.func (.func f) fs.toArray caps.toArray)) (ha : evL ρ args = some vs) [C : Callable P f]
    (S : Spec P f (fs ++ vs ++ caps) A R) [T : Takes Γ A Δ] (hn : Nat.blt d n = true) (h : ∀ v B, R v B → Nx (v) (B ++ Δ)) :
    ExO P X n ds (some d) (.call ⟨.value fo, args.toArray, ts⟩) ty Nx ρ Γ :=
  o_enter (by simp) hn fun e o w hop he heL hs => ⟨f, (fs ++ vs ++ caps).toArray, w, by
    simp [execOp, hop, resolve, he _ _ hf, Deferred.ofValue, invoke, heL _ _ ha, Callable.run], (S X.E Δ w hs.take).mono fun _ _ ⟨v, B, e, r, s'⟩ => ⟨v, B ++ Δ, e, s', h v B r⟩⟩
/-- A call of a function by its name. -/
theorem o_call {f : FuncId} {args : List Operand} {ts : Array TypeId} {vs : List Value} {A Δ : List HP} {R : Value → List HP → Prop} (ha : evL ρ args = some vs) [C : Callable P f]
    (S : Spec P f vs A R) [T : Takes Γ A Δ] (hn : Nat.blt d n = true) (h : ∀ v B, R v B → Nx (v) (B ++ Δ)) :
    ExO P X n ds (some d) (.call ⟨.value (.func f), args.toArray, ts⟩) ty Nx ρ Γ :=
  o_callF (fs := []) (caps := []) rfl ha (by simpa using S) hn h
end ops

/-- What an owned slice tells of its numbers. -/
theorem x_sl {P : Program} {X : Cx} {n : Nat} {ds : List Deferred} {ρ : Rho} {Γ Δ : List HP} {todo : List Item} {s len cap : Nat} {xs : List Value} (a : Option Addr) [H : TakeSl Γ a s len cap xs Δ] (h : xs.length = len * s → len ≤ cap → Ex P X n ds todo ρ Γ) : Ex P X n ds todo ρ Γ :=
  fun t w hn hm hs => have st := (hs.perm H.h).sl_split; h st.1 st.2.1 t w hn hm hs
theorem r_sl {P : Program} {X : Cx} {n : Nat} {ds : List Deferred} {ops : Array Oper} {l : List Oper} {k : List Item} {ρ : Rho} {Γ Δ : List HP} {s len cap : Nat} {xs : List Value} (a : Option Addr) [H : TakeSl Γ a s len cap xs Δ] (h : xs.length = len * s → len ≤ cap → ExR P X n ds ops l k ρ Γ) : ExR P X n ds ops l k ρ Γ :=
  fun i hi t w hn hm hs => have st := (hs.perm H.h).sl_split; h st.1 st.2.1 i hi t w hn hm hs
theorem r_mem {P : Program} {X : Cx} {n : Nat} {ds : List Deferred} {ops : Array Oper} {l : List Oper} {k : List Item} {ρ : Rho} {Γ Γ' : List HP} (hΓ : Ent Γ Γ') (h : ExR P X n ds ops l k ρ Γ') : ExR P X n ds ops l k ρ Γ :=
  fun i hi t w hn hm hs => h i hi t w hn hm (hΓ.st hs)
theorem r_open {P : Program} {X : Cx} {n : Nat} {ds : List Deferred} {ops : Array Oper} {l : List Oper} {k : List Item} {ρ : Rho} {Γ : List HP} {α : Type} {Γ' : α → List HP} (hΓ : ∀ E w, St E Γ w → ∃ a, St E (Γ' a) w) (h : ∀ a, ExR P X n ds ops l k ρ (Γ' a)) : ExR P X n ds ops l k ρ Γ :=
  fun i hi t w hn hm hs => let ⟨a, s⟩ := hΓ _ _ hs; h a i hi t w hn hm s
theorem x_fact {P : Program} {X : Cx} {n : Nat} {ds : List Deferred} {ρ : Rho} {Γ : List HP} {todo : List Item} {p : Prop} (hp : ∀ E w, St E Γ w → p) (h : p → Ex P X n ds todo ρ Γ) : Ex P X n ds todo ρ Γ :=
  fun t w hn hm hs => h (hp _ _ hs) t w hn hm hs
theorem x_ex {P : Program} {X : Cx} {n : Nat} {ds : List Deferred} {ρ : Rho} {Γ Δ : List HP} {todo : List Item} {α : Type} (A : α → HP) [H : Take Γ (Any A) Δ] (h : ∀ a, Ex P X n ds todo ρ (A a :: Δ)) : Ex P X n ds todo ρ Γ :=
  fun t w hn hm hs => let ⟨a, s⟩ := (hs.perm H.h).ex; h a t w hn hm s
theorem r_ex {P : Program} {X : Cx} {n : Nat} {ds : List Deferred} {ops : Array Oper} {l : List Oper} {k : List Item} {ρ : Rho} {Γ Δ : List HP} {α : Type} (A : α → HP) [H : Take Γ (Any A) Δ] (h : ∀ a, ExR P X n ds ops l k ρ (A a :: Δ)) : ExR P X n ds ops l k ρ Γ :=
  fun i hi t w hn hm hs => let ⟨a, s⟩ := (hs.perm H.h).ex; h a i hi t w hn hm s

/-! ### A function's body -/
/-- Where a call ends. -/
def RetG (P : Program) (f : FuncId) (E : Env) (cs : List Frame) (R : Value → List HP → Prop) (Γ : List HP) : Machine → Prop := fun m =>
  ∃ fr w v B, m = lone fr cs w ∧ fr.fn = f ∧ fr.leaving P w (.returned v) ∧ R v B ∧ St E (B ++ Γ) w
def retX (P : Program) (f : FuncId) (E : Env) (cs : List Frame) (R : Value → List HP → Prop) (Γ : List HP) : Cx := ⟨f, none, cs, E, RetG P f E cs R Γ⟩

def argRho : Nat → List Value → Rho
  | _, [] => []
  | i, v :: vs => (i, v) :: argRho (i + 1) vs
theorem argRho_lk : ∀ (vs : List Value) (i j : Nat) (u : Value), lk (argRho i vs) j = some u → i ≤ j ∧ vs[j - i]? = some u := by
  intro vs
  induction vs with
  | nil => intro i j u h; cases h
  | cons v vs ih =>
    intro i j u h
    unfold argRho lk at h
    cases hb : Nat.beq i j with
    | true =>
      rw [hb] at h
      have e := Nat.eq_of_beq_eq_true hb
      subst e
      simpa using h
    | false =>
      rw [hb] at h
      obtain ⟨h1, h2⟩ := ih _ _ _ h
      refine ⟨by omega, ?_⟩
      rw [show j - i = (j - (i + 1)) + 1 by omega]
      simpa using h2

theorem Spec.of_ex {P : Program} {f : FuncId} {fn : Func} {c : Code} {n : Nat} {args : List Value} {A : List HP} {R : Value → List HP → Prop} (hf : P.funcs[f]? = some fn) (hb : fn.body = some c) (hn : fn.ntmps = n) (hl : Nat.ble args.length n = true)
    (h : ∀ E cs Γ, Ex P (retX P f E cs R Γ) n [] [.code c] (argRho 0 args) (A ++ Γ)) : Spec P f args A R := by
  intro E Γ w s cs
  let b : Frame := { (default : Frame) with fn := f, kind := .normal }
  have hle := Nat.le_of_ble_eq_true hl
  have henter : Frame.enter P f args.toArray .normal = (retX P f E cs R Γ).base.atR ⟨args.toArray ++ Array.replicate (n - args.length) undef, []⟩ [.code c] := by
    simp [Frame.enter, Frame.atR, hf, hb, hn, Cx.base, retX]
  obtain ⟨m, hsteps, fr, w', v, B, rfl, hfn, hleave, hR, hs⟩ := h E cs Γ (args.toArray ++ Array.replicate (n - args.length) undef) w (by simp; omega) (fun i u hu => by
    obtain ⟨_, h2⟩ := argRho_lk _ _ _ _ hu
    have hi := (List.getElem?_eq_some_iff.1 h2).1
    rw [Array.getElem?_append_left (by simpa using hi)]; simpa using h2) s
  rw [← henter] at hsteps
  exact ⟨.returned v, w', fr, ⟨v, B, rfl, hR, hs⟩, hsteps, hfn, hleave⟩

/-- The result variables of a function. -/
class FunRet (P : Program) (f : FuncId) (ts : outParam (List Nat)) : Prop where h : ∃ fn, P.funcs[f]? = some fn ∧ fn.results = (ts.map ResultVar.tmp).toArray
def retV : List Value → Value
  | [v] => v
  | vs => .tuple vs.toArray

theorem results_tmps {P : Program} {fn : Func} {ts : List Nat} {ρ : Rho} {t : Array Value} {vs : List Value} (hr : fn.results = (ts.map ResultVar.tmp).toArray) (hm : Mat ρ t) (hv : evL ρ (ts.map .tmp) = some vs) (w : World) : (results fn t).run P w = .ok (retV vs) w := by
  have h1 := hm.evL [] hv
  have key : ∀ (ts : List Nat) (vs : List Value), (ts.map Operand.tmp).map (Act.mk t []).eval = vs → ((ts.map ResultVar.tmp).mapM (fun
    | .tmp i => pure (t.getD i undef)
    | .cell a ty => do loadVar ty (← asAddr (t.getD a undef)) : ResultVar → Sem Value)).run P w = .ok vs w := by
    intro ts
    induction ts with
    | nil => intro vs h; cases h; simp
    | cons i ts ih =>
      intro vs h
      subst h
      rw [List.map_cons, List.mapM_cons]
      simp only [Sem.run_bind, Sem.run_pure, Result.andThen_ok, ih _ rfl]
      rfl
  have h2 := key ts vs h1
  unfold results
  rw [hr, Array.mapM_eq_mapM_toList]
  simp only [Sem.run_bind, Sem.run_map, Sem.run_pure]
  refine (congrArg (fun (r : Result (List Value)) => ((r.andThen fun a w' => Result.ok a.toArray w').andThen fun a w' => Result.ok (if h : a.size = 1 then a[0] else Value.tuple a) w')) h2).trans ?_
  match vs with
  | [] => rfl
  | [v] => rfl
  | v :: u :: us => rfl

theorem x_ret {P : Program} {f : FuncId} {E : Env} {cs : List Frame} {R : Value → List HP → Prop} {Γ Δ : List HP} {n : Nat} {k : List Item} {ρ : Rho} {ts : List Nat} {vs : List Value} [F : FunRet P f ts] (hv : evL ρ (ts.map .tmp) = some vs) (B : List HP) (hR : R (retV vs) B) (hE : Ent Δ (B ++ Γ)) :
    Ex P (retX P f E cs R Γ) n [] (.code .ret :: k) ρ Δ := by
  intro t w htn hm hs
  obtain ⟨fn, hfn, hres⟩ := F.h
  refine .step (stepR_ret rfl) (.now ⟨_, w, retV vs, B, rfl, rfl, ⟨rfl, rfl, rfl, fn, hfn, ?_⟩, hR, hE.st hs⟩)
  exact results_tmps hres hm hv w
/-- The body's end without a return (no results). -/
theorem x_end {P : Program} {f : FuncId} {E : Env} {cs : List Frame} {R : Value → List HP → Prop} {Γ Δ : List HP} {n : Nat} {ρ : Rho} [F : FunRet P f []] (B : List HP) (hR : R (.tuple #[]) B) (hE : Ent Δ (B ++ Γ)) :
    Ex P (retX P f E cs R Γ) n [] [] ρ Δ := by
  intro t w htn hm hs
  obtain ⟨fn, hfn, hres⟩ := F.h
  refine .step (stepR_end rfl) (.now ⟨_, w, .tuple #[], B, rfl, rfl, ⟨rfl, rfl, rfl, fn, hfn, ?_⟩, hR, hE.st hs⟩)
  exact results_tmps (ts := []) (vs := []) hres hm rfl w

/-! ### Small things -/
theorem add_i64 {x y : Int} (h : -9223372036854775808 ≤ x + y ∧ x + y ≤ 9223372036854775807) : IntKind.i64.wrap (x + y) = x + y := by
  rw [IntKind.wrap_i64]; omega
theorem sub_i64 {x y : Int} (h : -9223372036854775808 ≤ x - y ∧ x - y ≤ 9223372036854775807) : IntKind.i64.wrap (x - y) = x - y := by
  rw [IntKind.wrap_i64]; omega
theorem in_i64 {x : Int} (h : -9223372036854775808 ≤ x ∧ x ≤ 9223372036854775807) : IntKind.i64.wrap x = x := by
  rw [IntKind.wrap_i64]; omega
theorem bget {bs : List UInt8} {i : Nat} (h : i < bs.length) : (bs.map bv)[i]? = some (bv bs[i]) := by simp [h]
theorem mget {α : Type} (f : α → Value) {bs : List α} {i : Nat} (h : i < bs.length) : (bs.map f)[i]? = some (f bs[i]) := by simp [h]
theorem take_snoc {α β : Type} (f : α → β) (l : List α) (i : Nat) (h : i < l.length) : (l.take i).map f ++ [f l[i]] = (l.take (i + 1)).map f := by
  rw [List.take_succ_eq_append_getElem h, List.map_append]; rfl
theorem take_all {α : Type} (l : List α) (i : Nat) (h : l.length ≤ i) : l.take i = l := List.take_of_length_le h
end Go.Proofs.Ythneebbmodkjiaa
