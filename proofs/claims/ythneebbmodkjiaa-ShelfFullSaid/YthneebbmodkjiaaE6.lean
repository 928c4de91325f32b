/- Part of a proof over the seat Ythneebbmodkjiaa: module E6. Its claim's last module says what is proved. -/
import Derived.Test.YthneebbmodkjiaaE5
namespace Go.Proofs.Ythneebbmodkjiaa
open Go.Proofs Go.RowKit

/-! ### Results that lie in variables -/
def resV (t : Array Value) : ResultVar → Sem Value
  | .tmp i => pure (t.getD i undef)
  | .cell a ty => do loadVar ty (← asAddr (t.getD a undef))
def RV (P : Program) (Δ : List HP) (ρ : Rho) (r : ResultVar) (v : Value) : Prop := ∀ (E : Env) (t : Array Value) (w : World), Mat ρ t → St E Δ w → (resV t r).run P w = .ok v w
def RVs (P : Program) (Δ : List HP) (ρ : Rho) : List ResultVar → List Value → Prop
  | [], [] => True
  | r :: rs, v :: vs => RV P Δ ρ r v ∧ RVs P Δ ρ rs vs
  | _, _ => False
class FunRetC (P : Program) (f : FuncId) (rs : outParam (List ResultVar)) : Prop where h : ∃ fn, P.funcs[f]? = some fn ∧ fn.results = rs.toArray
theorem results_vars {P : Program} {fn : Func} {rs : List ResultVar} {ρ : Rho} {Δ : List HP} {E : Env} {t : Array Value} {vs : List Value} {w : World} (hr : fn.results = rs.toArray) (hm : Mat ρ t) (hv : RVs P Δ ρ rs vs) (hs : St E Δ w) : (results fn t).run P w = .ok (retV vs) w := by
  have key : ∀ (rs : List ResultVar) (vs : List Value), RVs P Δ ρ rs vs → (rs.mapM (fun
    | .tmp i => pure (t.getD i undef)
    | .cell a ty => do loadVar ty (← asAddr (t.getD a undef)) : ResultVar → Sem Value)).run P w = .ok vs w := by
    intro rs
    induction rs with
    | nil => intro vs h; cases vs with
      | nil => simp
      | cons v vs => exact h.elim
    | cons r rs ih =>
      intro vs h
      cases vs with
      | nil => exact h.elim
      | cons v vs =>
        have h1 := h.1 E t w hm hs
        have h2 := ih vs h.2
        rw [List.mapM_cons]
        cases r with
        | tmp i =>
          unfold resV at h1
          simp only [Sem.run_bind, h1, Sem.run_pure, Result.andThen_ok, h2]
        | cell a ty =>
          unfold resV at h1
          simp only [Sem.run_bind, Sem.run_pure] at h1 h2 ⊢
          rw [h1]
          simp only [Result.andThen_ok, h2]
  have h2 := key rs vs hv
  unfold results
  rw [hr, Array.mapM_eq_mapM_toList]
  simp only [Sem.run_bind, Sem.run_map, Sem.run_pure]
  refine (congrArg (fun (r : Result (List Value)) => ((r.andThen fun a w' => Result.ok a.toArray w').andThen fun a w' => Result.ok (if h : a.size = 1 then a[0] else Value.tuple a) w')) h2).trans ?_
  match vs with
  | [] => rfl
  | [v] => rfl
  | v :: u :: us => rfl
theorem rv_tmp {P : Program} {Δ : List HP} {ρ : Rho} {i : Nat} {v : Value} (h : ev ρ (.tmp i) = some v) : RV P Δ ρ (.tmp i) v := fun E t w hm _ => by
  have := hm.ev [] h
  unfold resV
  simp only [Sem.run_pure]
  rw [show t.getD i undef = v from this]
theorem rv_cell {P : Program} {Δ : List HP} {ρ : Rho} {i ty b o : Nat} {v : Value} [T : TyCell P ty] (h : ev ρ (.tmp i) = some (.pointer (some ⟨b, o, none⟩))) (hc : Cell Δ b o v) : RV P Δ ρ (.cell i ty) v := fun E t w hm hs => by
  have := hm.ev [] h
  have e : t.getD i undef = .pointer (some ⟨b, o, none⟩) := this
  show ((asAddr (t.getD i undef) >>= fun x => loadVar ty x) : Sem Value).run P w = _
  rw [e]
  simp [asAddr, loadVar, TyCell.agg, hc _ _ hs]
theorem rv_agg {P : Program} {Δ : List HP} {ρ : Rho} {i ty b o s : Nat} {us : List Value} [T : TyAgg P ty s] (h : ev ρ (.tmp i) = some (.pointer (some ⟨b, o, none⟩))) (hl : us.length = s) (hc : ∀ j v, us[j]? = some v → Cell Δ b (o + j) v) : RV P Δ ρ (.cell i ty) (.agg us.toArray) := fun E t w hm hs => by
  have := hm.ev [] h
  obtain ⟨inf, hi, hsz⟩ := TyAgg.size (P := P) (t := ty)
  have e : t.getD i undef = .pointer (some ⟨b, o, none⟩) := this
  show ((asAddr (t.getD i undef) >>= fun x => loadVar ty x) : Sem Value).run P w = _
  rw [e]
  simp [asAddr, loadVar, TyAgg.agg, sizeOf_run hi, hsz, loadCells_run (P := P) (w := w) hl (fun j v hj => hc j v hj _ _ hs)]
theorem x_retC {P : Program} {f : FuncId} {E : Env} {cs : List Frame} {R : Value → List HP → Prop} {Γ Δ : List HP} {n : Nat} {k : List Item} {ρ : Rho} {rs : List ResultVar} {vs : List Value} [F : FunRetC P f rs] (hv : RVs P Δ ρ rs vs) (B : List HP) (hR : R (retV vs) B) (hE : Ent Δ (B ++ Γ)) :
    Ex P (retX P f E cs R Γ) n [] (.code .ret :: k) ρ Δ := by
  intro t w htn hm hs
  obtain ⟨fn, hfn, hres⟩ := F.h
  refine .step (stepR_ret rfl) (.now ⟨_, w, retV vs, B, rfl, rfl, ⟨rfl, rfl, rfl, fn, hfn, ?_⟩, hR, hE.st hs⟩)
  exact results_vars hres hm hv hs
theorem x_retCM {P : Program} {f : FuncId} {E : Env} {cs : List Frame} {R : Value → List HP → Prop} {Γ Δ Δ' : List HP} {n : Nat} {k : List Item} {ρ : Rho} {rs : List ResultVar} {Ds : List Nat} {vs : List Value} [F : FunRetC P f rs] [T : Take Δ (Marks Ds) Δ'] (hv : RVs P Δ' ρ rs vs) (B : List HP) (hR : R (retV vs) B) (hE : Ent Δ' (B ++ Γ)) :
    Ex P (retX P f E cs R Γ) n (mks Ds) (.code .ret :: k) ρ Δ := by
  intro t w htn hm hs
  obtain ⟨fn, hfn, hres⟩ := F.h
  obtain ⟨w', h1, h2⟩ := unwinds (P := P) (fr := { (retX P f E cs R Γ).base.atR ⟨t, mks Ds⟩ (.code .ret :: k) with mode := .returning }) (cs := cs) Ds Δ' w rfl rfl (hs.perm T.h)
  refine .step (stepR_ret rfl) (.steps h1 (.now ⟨_, w', retV vs, B, rfl, rfl, ⟨rfl, rfl, rfl, fn, hfn, ?_⟩, hR, hE.st h2⟩))
  exact results_vars hres hm hv h2
end Go.Proofs.Ythneebbmodkjiaa
