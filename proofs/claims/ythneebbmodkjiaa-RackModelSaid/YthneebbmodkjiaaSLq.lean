/- Ranging over a function: the caller's side, the iterator's side, a round. -/
import Derived.Test.YthneebbmodkjiaaSLk
import Derived.RangeFuncIn
import Derived.RangeFuncOwn
namespace Go.Proofs.Ythneebbmodkjiaa
open Go.RowKit

theorem St.put_whole {E : Env} {Γ : List HP} {w : World} {b : Nat} {o : Obj} (o' : Obj) (s : St E (Whole b o :: Γ) w) : St E (Whole b o' :: Γ) (w.putObj b o') := s.whole_set o' _ rfl

/-- The marks of the loops over functions that a body has gone through. -/
def mk1 (D : Nat) : Deferred := { target := .collected D, args := #[] }
def mks (Ds : List Nat) : List Deferred := Ds.map mk1
def Marks (Ds : List Nat) : HP := Sep (Ds.map fun D => Whole D (.deferred (some [])))
theorem Ent.marks0 (Γ : List HP) : Ent Γ (Marks [] :: Γ) := Emp.intro Γ |>.trans (Ent.one (fun _ h => h) Γ)
theorem Ent.marks1 (D : Nat) (Ds : List Nat) (Γ : List HP) : Ent (Whole D (.deferred (some [])) :: Marks Ds :: Γ) (Marks (D :: Ds) :: Γ) := by
  refine (Ent.cons _ (Ent.sep_out _ _)).trans ?_
  exact Ent.sep_in (Whole D (.deferred (some [])) :: Ds.map fun D => Whole D (.deferred (some []))) Γ

/-- A loop's record. -/
def Rec (l : Nat) (r : Loop) (st : LoopState) (pe : Option Code) : HP := Whole l (.loop { r with state := st, pending := pe })

/-- WHAT A CALL OF yield DOES, from the iterator's side. -/
def YSpec (P : Program) (l : Nat) (vs : List Value) (A : List HP) (R : Bool → List HP → Prop) : Prop :=
  ∀ E Γ w, St E (A ++ Γ) w → ∃ fn tmps assign body, (Instr.yield l vs.toArray).run P w = .ok (.round l fn tmps assign body) w ∧
    ∀ c cs, Reach P (lone (Frame.round l fn tmps assign body .normal) (c :: cs) w) fun m => ∃ b B w', m = lone (c.finish (.bool b)) cs w' ∧ R b B ∧ St E (B ++ Γ) w'

section
variable {P : Program} {X : Cx} {n : Nat} {ds : List Deferred} {ρ : Rho} {Γ : List HP} {k : List Item} {Nx : Value → List HP → Prop}
theorem o_yield {fo : Operand} {args : List Operand} {ts : Array TypeId} {l d : Nat} {ty : TypeId} {vs : List Value} {A Δ : List HP} {R : Bool → List HP → Prop} (hf : ev ρ fo = some (.func (.yield l) #[] #[])) (ha : evL ρ args = some vs)
    (S : YSpec P l vs A R) [T : Takes Γ A Δ] (hn : Nat.blt d n = true) (h : ∀ b B, R b B → Nx (.bool b) (B ++ Δ)) :
    ExO P X n ds (some d) (.call ⟨.value fo, args.toArray, ts⟩) ty Nx ρ Γ := by
  intro ops i o rest k ρF hle ho hdst hop hty hw hK t w htn hm hs
  obtain ⟨fn, tmps, assign, body, hy, hr⟩ := S X.E Δ w hs.take
  have hlt : d < t.size := by rw [htn]; exact of_decide_eq_true (by simpa [Nat.blt_eq] using hn)
  obtain ⟨fr0, hfr0⟩ : ∃ fr0, X.base.atR ⟨t, ds⟩ (.inRegion ops (i :: rest) :: k) = fr0 := ⟨_, rfl⟩
  have hef := (hm.le hle).ev ds hf
  have hea := (hm.le hle).evL ds ha
  have hrun : (execOp (Act.mk t ds).eval o).run P w = .ok (.round l fn tmps assign body) w := by
    simp [execOp, hop, resolve, hef, Deferred.ofValue, invoke, hea, hy]
  have henter : step P (lone fr0 X.cs w) = .next (lone (Frame.round l fn tmps assign body .normal) (fr0 :: X.cs) w) := by
    rw [← hfr0]
    refine step_lone_go ?_
    rw [stepGR_op ho (hw t hm), Oper.semAt_eq _ _ _ (by rw [hop]; simp)]
    simp [stepG.apply, hrun, Frame.atR]
  rw [hfr0]
  refine .step henter ((hr fr0 X.cs).trans ?_)
  rintro m ⟨b, B, w', rfl, hR, hs'⟩
  have hfin := Frame.finish_atR X.base ⟨t, ds⟩ ops i rest k (.bool b)
  have hp : ((ops[i]?).bind (·.dst)) = some d := by simp [ho, hdst]
  rw [hp, hfr0] at hfin
  rw [hfin]
  exact hK _ _ (h b B hR) _ w' (by simpa using htn) (hm.put _ hlt) hs'

theorem x_beginRound {l : Nat} {r : Loop} {Δ : List HP} (hro : X.ro = some l) [T : Take Γ (Rec l r .ready none) Δ] (h : Ex P X n ds k ρ (Rec l r .busy none :: Δ)) : Ex P X n ds (.beginRound :: k) ρ Γ := by
  intro t w htn hm hs
  have s1 := hs.perm T.h
  have hb := run_beginRound (P := P) s1.whole_get rfl
  refine .step (stepR_beginRound hro hb) (h t _ htn hm ?_)
  exact s1.put_whole _
end

/-- Where a round ends. -/
def RoundG (c : Frame) (cs : List Frame) (E : Env) (R : Bool → List HP → Prop) (Γ : List HP) : Machine → Prop := fun m => ∃ b B w', m = lone (c.finish (.bool b)) cs w' ∧ R b B ∧ St E (B ++ Γ) w'
def roundX (fn : FuncId) (l : Nat) (c : Frame) (cs : List Frame) (E : Env) (R : Bool → List HP → Prop) (Γ : List HP) : Cx := ⟨fn, some l, c :: cs, E, RoundG c cs E R Γ⟩

def zipR : List Nat → List Value → Rho → Rho
  | p :: ps, v :: vs, ρ => zipR ps vs ((p, v) :: ρ)
  | _, _, ρ => ρ

theorem zip_mat : ∀ (ps : List Nat) (vs : List Value) (ρ : Rho) (t : Array Value), Mat ρ t → ps.all (fun p => Nat.blt p t.size) = true → Mat (zipR ps vs ρ) ((ps.zip vs).foldl (fun tmps (x : Nat × Value) => tmps.setIfInBounds x.1 x.2) t) ∧ ((ps.zip vs).foldl (fun tmps (x : Nat × Value) => tmps.setIfInBounds x.1 x.2) t).size = t.size := by
  intro ps
  induction ps with
  | nil => intro vs ρ t h _; exact ⟨h, rfl⟩
  | cons p ps ih =>
    intro vs ρ t h hp
    cases vs with
    | nil => exact ⟨h, rfl⟩
    | cons v vs =>
      simp only [List.all_cons, Bool.and_eq_true] at hp
      have hlt : p < t.size := by simpa [Nat.blt_eq] using hp.1
      obtain ⟨h1, h2⟩ := ih vs ((p, v) :: ρ) (t.setIfInBounds p v) (h.put v hlt) (by simpa using hp.2)
      exact ⟨h1, by rw [List.zip_cons_cons, List.foldl_cons, h2]; simp⟩

section
variable {P : Program} {X : Cx} {n : Nat} {ρ : Rho} {Γ : List HP} {k : List Item}

/-- WHAT AN ITERATOR PROMISES: it yields xs one by one, till it is told to stop. -/
def Iter (P : Program) (gf : FuncId) (fs caps : List Value) (A A' : List HP) (xs : List (List Value)) : Prop :=
  ∀ (l : Nat) (I J : Nat → HP), (∀ i vs, xs[i]? = some vs → YSpec P l vs [I i] fun b B => (b = true ∧ B = [I (i + 1)]) ∨ (b = false ∧ B = [J (i + 1)])) →
    Spec P gf (fs ++ [.func (.yield l) #[] #[]] ++ caps) (A ++ [I 0]) fun _ B => B = A' ++ [I xs.length] ∨ ∃ i, B = A' ++ [J i]

/-- The rounds of a body, by its own walk: hnext, hexit, hret: how it may end. -/
def Body (P : Program) (fn : FuncId) (n : Nat) (todo : List Item) (ρ : Rho) (I : Nat → List HP) (J : Code → Nat → List HP) (i : Nat) : Prop :=
  ∀ (Y : Cx) (l : Nat) (r : Loop) (Θ : List HP), Y.fn = fn → Y.ro = some l →
    (∀ ρ', Ex P Y n [] [] ρ' (Rec l r .busy none :: (I (i + 1) ++ Θ))) →
    (∀ id k ρ', exitTo id k = none → Ex P Y n [] (.code (.exit id) :: k) ρ' (Rec l r .busy none :: (J (.exit id) (i + 1) ++ Θ))) →
    (∀ k ρ', Ex P Y n [] (.code .ret :: k) ρ' (Rec l r .busy none :: (J .ret (i + 1) ++ Θ))) →
    Ex P Y n [] todo ρ (Rec l r .ready none :: (I i ++ Θ))

theorem x_range {f : Operand} {ps : List Nat} {assign body : Code} {gf : FuncId} {fs caps : List Value} {A A' Δ Δ1 Δ2 : List HP} {Ds : List Nat} {xs : List (List Value)} (hro : X.ro = none) (hf : ev ρ f = some (.func (.func gf) fs.toArray caps.toArray)) [C : Callable P gf]
    [TM : Take Γ (Marks Ds) Δ] [TA : Takes Δ A Δ1] (it : Iter P gf fs caps A A' xs) (I : Nat → List HP) (J : Code → Nat → List HP) (hI : Ent Δ1 (I 0 ++ Δ2)) (hps : ps.all (fun p => Nat.blt p n) = true) (hxs : ∀ (i : Nat) (vs : List Value), xs[i]? = some vs → vs.length = ps.length)
    (hbody : ∀ i vs, xs[i]? = some vs → Body P X.fn n [.code assign, .beginRound, .code body] (zipR ps vs ρ) I J i)
    (hdone : ∀ D, Ex P X n (mks (D :: Ds)) k ρ (Marks (D :: Ds) :: (I xs.length ++ (A' ++ Δ2))))
    (hstop : ∀ D c i, Ex P X n (mks (D :: Ds)) (.code c :: k) ρ (Marks (D :: Ds) :: (J c i ++ (A' ++ Δ2)))) :
    Ex P X n (mks Ds) (.code (.rangeFunc f ps.toArray assign body) :: k) ρ Γ := by
  intro t w htn hm hs
  obtain ⟨E, hE⟩ : ∃ E, X.E = E := ⟨_, rfl⟩
  rw [hE] at hs
  -- the two blocks that are laid
  obtain ⟨r, hr⟩ : ∃ r : Loop, r = { state := .ready, pending := none, fn := X.fn, tmps := t, params := ps.toArray, assign, body, defers := w.heap.size } := ⟨_, rfl⟩
  have s0 := hs.perm TM.h
  have s1 := ((s0.alloc_whole (.deferred (some []))).alloc_whole (.loop r))
  simp only [World.size_alloc] at s1
  obtain ⟨w1, hw1⟩ : ∃ w1, (w.alloc (.deferred (some []))).alloc (.loop r) = w1 := ⟨_, rfl⟩
  rw [hw1] at s1
  obtain ⟨D, hD⟩ : ∃ D, D = w.heap.size := ⟨_, rfl⟩
  rw [← hD] at s1
  have hrec : Rec (D + 1) r .ready none = Whole (D + 1) (.loop r) := by rw [hr]; rfl
  rw [← hrec] at s1
  -- the invariant as one part
  obtain ⟨II, hII⟩ : ∃ II : Nat → HP, II = fun i => Sep (Rec (D + 1) r .ready none :: Whole D (.deferred (some [])) :: I i) := ⟨_, rfl⟩
  obtain ⟨JJ, hJJ⟩ : ∃ JJ : Nat → HP, JJ = fun i => Any fun c => Sep (Rec (D + 1) r .done (some c) :: Whole D (.deferred (some [])) :: J c i) := ⟨_, rfl⟩
  have sA : St E ((A ++ [II 0]) ++ (Marks Ds :: Δ2)) w1 := by
    have p1 : (Rec (D + 1) r .ready none :: Whole D (.deferred (some [])) :: Marks Ds :: Δ).Perm (A ++ (Rec (D + 1) r .ready none :: Whole D (.deferred (some [])) :: Marks Ds :: Δ1)) := by
      refine ((((TA.h).cons (Marks Ds)).cons _).cons _).trans ?_
      refine List.Perm.trans ?_ (List.perm_append_comm (l₁ := _ :: _ :: _ :: Δ1))
      simp only [List.cons_append]
      exact (((List.perm_append_comm (l₁ := A) (l₂ := Δ1)).cons _).cons _).cons _
    have s2 := s1.perm p1
    have e1 : Ent (Rec (D + 1) r .ready none :: Whole D (.deferred (some [])) :: Marks Ds :: Δ1) (II 0 :: Marks Ds :: Δ2) := by
      refine (((hI.cons (Marks Ds)).cons _).cons _).trans ?_
      refine (Ent.perm (?_ : List.Perm _ ((Rec (D + 1) r .ready none :: Whole D (.deferred (some [])) :: I 0) ++ (Marks Ds :: Δ2)))).trans ?_
      · simp only [List.cons_append]
        exact (List.perm_middle.symm.cons _).cons _
      · rw [hII]; exact Ent.sep_in _ _
    have s3 := (e1.append A).st s2
    simpa using s3
  have hyield : ∀ i vs, xs[i]? = some vs → YSpec P (D + 1) vs [II i] fun b B => (b = true ∧ B = [II (i + 1)]) ∨ (b = false ∧ B = [JJ (i + 1)]) := by
    intro i vs hi E' Θ w' s'
    rw [hII] at s'
    have s2 := (Ent.sep_out _ _).st s'
    simp only [List.cons_append] at s2
    have hl := s2.whole_get
    have hlen := hxs i vs hi
    have hy := run_yield (P := P) (args := vs.toArray) hl (by rw [hr]; simpa using hlen)
    rw [hr] at hy
    refine ⟨X.fn, _, assign, body, hy, fun c cs => ?_⟩
    obtain ⟨Rr, hRr⟩ : ∃ Rr : Bool → List HP → Prop, Rr = fun b B => (b = true ∧ B = [II (i + 1)]) ∨ (b = false ∧ B = [JJ (i + 1)]) := ⟨_, rfl⟩
    have hB := hbody i vs hi (roundX X.fn (D + 1) c cs E' Rr Θ) (D + 1) r (Whole D (.deferred (some [])) :: Θ) rfl rfl ?_ ?_ ?_
    · have hz := zip_mat ps vs ρ t hm (by rw [htn]; exact hps)
      have e2 : ((ps.toArray.zip vs.toArray).foldl (fun tmps x => tmps.setIfInBounds x.1 x.2) t) = (ps.zip vs).foldl (fun tmps (x : Nat × Value) => tmps.setIfInBounds x.1 x.2) t := by simp
      have := hB _ w' (by rw [hz.2]; exact htn) hz.1 (s2.perm (by
        refine List.Perm.cons _ ?_
        exact List.perm_middle.symm))
      rw [← hRr]
      have e3 : (roundX X.fn (D + 1) c cs E' Rr Θ).base.atR ⟨(ps.zip vs).foldl (fun tmps (x : Nat × Value) => tmps.setIfInBounds x.1 x.2) t, []⟩ [.code assign, .beginRound, .code body] = Frame.round (D + 1) X.fn ((ps.toArray.zip vs.toArray).foldl (fun tmps x => tmps.setIfInBounds x.1 x.2) t) assign body .normal := by
        rw [e2]; rfl
      rw [e3] at this
      exact this
    · -- off its end
      intro ρ' t' v' _ _ st
      have hend := run_endRound (P := P) none st.whole_get
      refine .step (stepR_round_end rfl rfl hend) (.now ⟨true, [II (i + 1)], _, rfl, by rw [hRr]; exact .inl ⟨rfl, rfl⟩, ?_⟩)
      have st2 := st.put_whole (.loop { r with state := .ready, pending := none })
      rw [hII]
      refine (Ent.sep_in (Rec (D + 1) r .ready none :: Whole D (.deferred (some [])) :: I (i + 1)) Θ).st (st2.perm ?_)
      simp only [List.cons_append]
      exact List.Perm.cons _ List.perm_middle
    · intro id k' ρ' hk t' v' _ _ st
      have hend := run_endRound (P := P) (some (.exit id)) st.whole_get
      refine .step (stepR_round_exit rfl rfl hk hend) (.now ⟨false, [JJ (i + 1)], _, rfl, by rw [hRr]; exact .inr ⟨rfl, rfl⟩, ?_⟩)
      have st2 := st.put_whole (.loop { r with state := .done, pending := some (.exit id) })
      rw [hJJ]
      refine (Ent.ex (A := fun c => Sep (Rec (D + 1) r .done (some c) :: Whole D (.deferred (some [])) :: J c (i + 1))) (.exit id) Θ).st ?_
      refine (Ent.sep_in (Rec (D + 1) r .done (some (.exit id)) :: Whole D (.deferred (some [])) :: J (.exit id) (i + 1)) Θ).st (st2.perm ?_)
      simp only [List.cons_append]
      exact List.Perm.cons _ List.perm_middle
    · intro k' ρ' t' v' _ _ st
      have hend := run_endRound (P := P) (some .ret) st.whole_get
      refine .step (stepR_round_ret rfl rfl hend) (.now ⟨false, [JJ (i + 1)], _, rfl, by rw [hRr]; exact .inr ⟨rfl, rfl⟩, ?_⟩)
      have st2 := st.put_whole (.loop { r with state := .done, pending := some .ret })
      rw [hJJ]
      refine (Ent.ex (A := fun c => Sep (Rec (D + 1) r .done (some c) :: Whole D (.deferred (some [])) :: J c (i + 1))) .ret Θ).st ?_
      refine (Ent.sep_in (Rec (D + 1) r .done (some .ret) :: Whole D (.deferred (some [])) :: J .ret (i + 1)) Θ).st (st2.perm ?_)
      simp only [List.cons_append]
      exact List.Perm.cons _ List.perm_middle
  -- the call
  have hspec := it (D + 1) II JJ hyield E (Marks Ds :: Δ2) w1 sA
  have hen : (Instr.enterLoop X.base.fn t ps.toArray assign body X.base.roundOf).run P w = .ok (D + 1, [mk1 D]) w1 := by
    have hb : X.base.roundOf = none := hro
    rw [hb, run_enterLoop_outer, ← hw1, hr, hD]; rfl
  have hef := hm.ev (mks Ds) hf
  have hres : (resolve (Act.mk t (mks Ds)).eval (rangeCall f (D + 1)) 0).run P w1 = .ok { target := .fn (.func gf) caps.toArray, args := fs.toArray ++ #[.func (.yield (D + 1)) #[] #[]] } w1 := by
    show ((Deferred.ofValue ((Act.mk t (mks Ds)).eval f) (#[Operand.const (.func (.yield (D + 1)) #[] #[])].map (Act.mk t (mks Ds)).eval)) : Sem Deferred).run P w1 = _
    rw [hef]; simp [Deferred.ofValue, Act.eval]
  have hstep := stepR_rangeFunc (P := P) (b := X.base) (a := ⟨t, mks Ds⟩) (k := k) (cs := X.cs) (w := w) (g := f) (ps := ps.toArray) (assign := assign) (body := body) hen hres
    (show (invoke (.fn (.func gf) caps.toArray) (fs.toArray ++ #[.func (.yield (D + 1)) #[] #[]])).run P w1 = .ok (.enter gf _) w1 from C.run _ _)
  refine .step hstep ?_
  obtain ⟨e, w2, fr, ⟨v, B, rfl, hB, s2⟩, hcomes, hfn, hleave⟩ := hspec (X.base.atR ⟨t, [mk1 D] ++ mks Ds⟩ (.inRangeFunc (D + 1) :: k) :: X.cs)
  have eargs : (fs ++ [Value.func (.yield (D + 1)) #[] #[]] ++ caps).toArray = (fs.toArray ++ #[.func (.yield (D + 1)) #[] #[]]) ++ caps.toArray := by simp
  rw [eargs] at hcomes
  refine .steps hcomes (.step (step_leave_returned hleave) ?_)
  rw [finish_atR_inRangeFunc]
  rcases hB with rfl | ⟨i, rfl⟩
  · have s3 : St E (Rec (D + 1) r .ready none :: (Whole D (.deferred (some [])) :: Marks Ds :: (I xs.length ++ (A' ++ Δ2)))) w2 := by
      have p1 : ((A' ++ [II xs.length]) ++ (Marks Ds :: Δ2)).Perm (II xs.length :: (Marks Ds :: (A' ++ Δ2))) := by
        simp only [List.append_assoc, List.cons_append, List.nil_append]
        exact List.perm_middle.trans (List.perm_middle.cons _)
      have s4 := s2.perm p1
      rw [hII] at s4
      have s5 := (Ent.sep_out _ _).st s4
      refine s5.perm ?_
      simp only [List.cons_append]
      exact (List.perm_middle.cons _).cons _
    have hendl := run_endLoop (P := P) s3.whole_get (by simp)
    refine .step (stepR_endRangeFunc (b := X.base) (a := ⟨t, [mk1 D] ++ mks Ds⟩) hendl) ?_
    have s4 := s3.put_whole (.loop { r with state := .exhausted, pending := none })
    have s6 := (Ent.marks1 D Ds _).st (s4.drop)
    exact hdone D t _ htn hm (by rw [hE]; exact s6)
  · have s3 : ∃ c, St E (Rec (D + 1) r .done (some c) :: (Whole D (.deferred (some [])) :: Marks Ds :: (J c i ++ (A' ++ Δ2)))) w2 := by
      have p1 : ((A' ++ [JJ i]) ++ (Marks Ds :: Δ2)).Perm (JJ i :: (Marks Ds :: (A' ++ Δ2))) := by
        simp only [List.append_assoc, List.cons_append, List.nil_append]
        exact List.perm_middle.trans (List.perm_middle.cons _)
      have s4 := s2.perm p1
      rw [hJJ] at s4
      obtain ⟨c, s4⟩ := s4.ex
      refine ⟨c, ?_⟩
      have s5 := (Ent.sep_out _ _).st s4
      refine s5.perm ?_
      simp only [List.cons_append]
      exact (List.perm_middle.cons _).cons _
    obtain ⟨c, s3⟩ := s3
    have hendl := run_endLoop (P := P) s3.whole_get (by simp)
    refine .step (stepR_endRangeFunc (b := X.base) (a := ⟨t, [mk1 D] ++ mks Ds⟩) hendl) ?_
    have s4 := s3.put_whole (.loop { r with state := .exhausted, pending := some c })
    have s6 := (Ent.marks1 D Ds _).st (s4.drop)
    exact hstop D c i t _ htn hm (by rw [hE]; exact s6)

theorem unwinds {P : Program} {fr : Frame} {cs : List Frame} {E : Env} : ∀ (Ds : List Nat) (Δ : List HP) (w : World), fr.mode = .returning → fr.defers = mks Ds → St E (Marks Ds :: Δ) w →
    ∃ w', Steps P (lone fr cs w) (lone { fr with defers := [] } cs w') ∧ St E Δ w' := by
  intro Ds
  induction Ds generalizing fr with
  | nil =>
    intro Δ w hm hd s
    have : { fr with defers := [] } = fr := by cases fr; simp [mks] at hd; simp [hd]
    rw [this]
    exact ⟨w, .refl _ _, s.drop⟩
  | cons D Ds ih =>
    intro Δ w hm hd s
    have s1 := (Ent.sep_out _ _).st s
    simp only [List.map_cons, List.cons_append] at s1
    have ht := run_takeDeferred (P := P) s1.whole_get
    have s2 := (s1.put_whole (.deferred none)).drop
    have s3 : St E (Marks Ds :: Δ) (w.putObj D (.deferred none)) := (Ent.sep_in _ _).st s2
    obtain ⟨w', h1, h2⟩ := ih (fr := { fr with defers := mks Ds }) Δ _ hm rfl s3
    refine ⟨w', .head (step_lone_go ?_) h1, h2⟩
    simp [stepG, unwind, hm, hd, mks, mk1, Sem.runT_eq, ht]

theorem x_retM {P : Program} {f : FuncId} {E : Env} {cs : List Frame} {R : Value → List HP → Prop} {Γ Δ Δ' : List HP} {n : Nat} {k : List Item} {ρ : Rho} {ts Ds : List Nat} {vs : List Value} [F : FunRet P f ts] [T : Take Δ (Marks Ds) Δ'] (hv : evL ρ (ts.map .tmp) = some vs) (B : List HP) (hR : R (retV vs) B) (hE : Ent Δ' (B ++ Γ)) :
    Ex P (retX P f E cs R Γ) n (mks Ds) (.code .ret :: k) ρ Δ := by
  intro t w htn hm hs
  obtain ⟨fn, hfn, hres⟩ := F.h
  obtain ⟨w', h1, h2⟩ := unwinds (P := P) (fr := { (retX P f E cs R Γ).base.atR ⟨t, mks Ds⟩ (.code .ret :: k) with mode := .returning }) (cs := cs) Ds Δ' w rfl rfl (hs.perm T.h)
  refine .step (stepR_ret rfl) (.steps h1 (.now ⟨_, w', retV vs, B, rfl, rfl, ⟨rfl, rfl, rfl, fn, hfn, ?_⟩, hR, hE.st h2⟩))
  exact results_tmps hres hm hv w'
theorem x_endM {P : Program} {f : FuncId} {E : Env} {cs : List Frame} {R : Value → List HP → Prop} {Γ Δ Δ' : List HP} {n : Nat} {ρ : Rho} {Ds : List Nat} [F : FunRet P f []] [T : Take Δ (Marks Ds) Δ'] (B : List HP) (hR : R (.tuple #[]) B) (hE : Ent Δ' (B ++ Γ)) :
    Ex P (retX P f E cs R Γ) n (mks Ds) [] ρ Δ := by
  intro t w htn hm hs
  obtain ⟨fn, hfn, hres⟩ := F.h
  obtain ⟨w', h1, h2⟩ := unwinds (P := P) (fr := { (retX P f E cs R Γ).base.atR ⟨t, mks Ds⟩ [] with mode := .returning }) (cs := cs) Ds Δ' w rfl rfl (hs.perm T.h)
  refine .step (stepR_end rfl) (.steps h1 (.now ⟨_, w', .tuple #[], B, rfl, rfl, ⟨rfl, rfl, rfl, fn, hfn, ?_⟩, hR, hE.st h2⟩))
  exact results_tmps (ts := []) (vs := []) hres hm rfl w'
end
end Go.Proofs.Ythneebbmodkjiaa

namespace Go.Proofs.Ythneebbmodkjiaa
open Go.RowKit
section ops
variable {P : Program} {X : Cx} {n : Nat} {ds : List Deferred} {ρ : Rho} {Γ : List HP} {Nx : Value → List HP → Prop} {d : Nat} {ty : TypeId}

theorem append_textZ {w : World} {t t2 e s y : Nat} {base : Option Addr} {len cap m : Nat} {kk : IntKind} {zv : Value} [T : TySlice P t e s y] [NI : TyInt P t2 kk]
    (hy0 : 0 < y) (hb : (2 * (len + m) + 192) * y ≤ 2 ^ 48) (ty : TypeId) (hm1 : zv.cells.size = s)
    (old : Array Value) (hold : ∀ (w' : World), w'.heap = w.heap → (Builtin.firstCells s len (.slice base len cap)).run P w' = .ok old w') (hz : ∃ i, P.info? e = some i ∧ i.zero = some zv) :
    (len + m ≤ cap ∧ (Builtin.append_ #[t, t2] ty #[.slice base len cap, .int .i64 m]).run P w = ((match base with | some a => storeCells (a.add (len * s)) (zs zv.cells.toList m) | none => pure ()) >>= fun _ => pure (Value.slice base (len + m) cap)).run P w) ∨
    (cap < len + m ∧ ∃ c, len + m ≤ c ∧ (Builtin.append_ #[t, t2] ty #[.slice base len cap, .int .i64 m]).run P w = .ok (.slice (some ⟨w.heap.size, 0, none⟩) (len + m) c) (w.drew.alloc (.cells (old ++ (zs zv.cells.toList m).toArray ++ Builtin.zeroCells zv.cells (c - (len + m))) e))) := by
  obtain ⟨hu, inf, hinf, hsz, hby⟩ := T.und
  obtain ⟨inf', hinf', hzero⟩ := hz
  rw [hinf] at hinf'; cases hinf'
  have hu2 := NI.h
  have hmy : m * y ≤ 2 ^ 48 := by
    have : m * y ≤ (2 * (len + m) + 192) * y := Nat.mul_le_mul_right y (by omega)
    omega
  have hm0 : m ≤ 2 ^ 48 := by
    have : m * 1 ≤ m * y := Nat.mul_le_mul_left m hy0
    omega
  have hw : IntKind.i64.wrap (m : Int) = m := by rw [IntKind.wrap_i64]; omega
  have h1 : ¬ ((281474976710656 : Int) < m * y) := by rw [← Int.natCast_mul]; omega
  have h2 : ¬ ((m : Int) < 0) := by omega
  have hzc : (Builtin.zeroCells zv.cells m) = (zs zv.cells.toList m).toArray := by
    have := zeroCells_toList zv.cells m
    rw [← this]
  have e0 : m * s = 0 → zs zv.cells.toList m = [] := fun h0 => by apply List.length_eq_zero_iff.1; rw [zs_length]; simpa [hm1] using h0
  by_cases hfit : len + m ≤ cap
  · refine .inl ⟨hfit, ?_⟩
    by_cases h0 : m * s = 0
    · simp [Builtin.append_, underlying_run hu, underlying_run hu2, sizeOf_run hinf, hsz, hfit, asInt, asIntOf, hw, h2, typeInfo_run hinf, hby, h1, h0, e0 h0]
      cases base <;> simp
    · simp [Builtin.append_, underlying_run hu, underlying_run hu2, sizeOf_run hinf, hsz, hfit, asInt, asIntOf, hw, h2, typeInfo_run hinf, hby, h1, h0, zeroValue, hzero, hzc]
      cases base <;> simp
  · refine .inr ⟨by omega, len + m + (w.tape w.drawn (.appendCap (len + m) cap e)) % (2 ^ 63 - (len + m)), by omega, ?_⟩
    have hnc := nextcap_le (len + m) cap (by omega)
    have hle : ¬ (2 ^ 48 < Builtin.nextslicecap (len + m) cap * y) := by
      have := Nat.mul_le_mul_right y hnc; omega
    have hle' : ¬ (281474976710656 < Builtin.nextslicecap (len + m) cap * y) := hle
    have h4 := hold w.drew rfl
    have hyne : ¬ y = 0 := by omega
    have h6 : ¬ ((len + m : Nat) : Int) > IntKind.i64.max := by
      have : IntKind.i64.max = 9223372036854775807 := by decide
      have h7 : (len + m) * 1 ≤ (len + m) * y := Nat.mul_le_mul_left _ hy0
      have h8 : (len + m) * y ≤ (2 * (len + m) + 192) * y := Nat.mul_le_mul_right y (by omega)
      rw [this]; omega
    simp at h6
    by_cases h0 : m * s = 0
    · simp [Builtin.append_, underlying_run hu, underlying_run hu2, sizeOf_run hinf, typeInfo_run hinf, hsz, hby, hfit, hyne, hle', asInt, asIntOf, hw, h2, h1, Question.forced, Question.cut, h4, h0, e0 h0, zeroValue, hzero, newRow]
      intro h; omega
    · simp [Builtin.append_, underlying_run hu, underlying_run hu2, sizeOf_run hinf, typeInfo_run hinf, hsz, hby, hfit, hyne, hle', asInt, asIntOf, hw, h2, h1, Question.forced, Question.cut, h4, h0, hzc, zeroValue, hzero, newRow]
      intro h; omega

/-- append(x, make([]T, m)...). -/
theorem o_appendZ {t t2 e s y : Nat} {x z : Operand} {a : Option Addr} {len cap m : Nat} {i : Int} {kk : IntKind} {xs zv : List Value} {Δ : List HP} [T : TySlice P t e s y] [NI : TyInt P t2 kk] [Z : TyZero P e zv] (hx : ev ρ x = some (.slice a len cap)) (hz : ev ρ z = some (.int .i64 i)) (hi : i = (m : Int))
    [TS : TakeSl Γ a s len cap xs Δ] (hzl : zv.length = s) (hy0 : Nat.blt 0 y = true) (h1 : zv.all Value.oneCell' = true) (hb : (2 * (len + m) + 192) * y ≤ 2 ^ 48) (hn : Nat.blt d n = true)
    (h : ∀ a' cap', len + m ≤ cap' → Nx (.slice a' (len + m) cap') (Sl s a' (len + m) cap' (xs ++ zs zv m) :: Δ)) :
    ExO P X n ds (some d) (.call ⟨.builtin .append, #[x, z], #[t, t2]⟩) ty Nx ρ Γ :=
  o_value (by simp) hn fun ee o w hop hty he heL hs => by
    subst hi
    obtain ⟨z0, hz0, hzi⟩ := TyZero.get (P := P) (t := e)
    have st := hs.perm TS.h
    have hzs : z0.cells.size = s := by rw [← hzl, ← hz0]; simp
    have hone : (zs zv m).all Value.oneCell' = true := by
      rw [List.all_eq_true]
      intro v hv
      obtain ⟨j, hj⟩ := List.mem_iff_getElem?.1 hv
      have hlt := (List.getElem?_eq_some_iff.1 hj).1
      rw [zs_length] at hlt
      rw [zs_get zv m j hlt] at hj
      exact List.all_eq_true.1 h1 v (List.mem_of_getElem? hj)
    have key : ∃ a' cap' w', (Builtin.append_ #[t, t2] o.type #[.slice a len cap, .int .i64 m]).run P w = .ok (.slice a' (len + m) cap') w' ∧ len + m ≤ cap' ∧ St X.E (Sl s a' (len + m) cap' (xs ++ zs zv m) :: Δ) w' := by
      obtain ⟨g1, g2, hcase⟩ := st.sl_split
      have hold : ∀ (w' : World), w'.heap = w.heap → (Builtin.firstCells s len (.slice a len cap)).run P w' = .ok xs.toArray w' := fun w' hw' =>
        firstCells_run (P := P) (cap := cap) (st.env hw') (Sl.reads s a len cap xs g1)
      rcases append_textZ (P := P) (t := t) (t2 := t2) (e := e) (s := s) (y := y) (w := w) (base := a) (cap := cap) (m := m) (by simpa [Nat.blt_eq] using hy0) hb o.type hzs xs.toArray hold hzi with ⟨hfit, hr⟩ | ⟨hno, c, hc, hr⟩
      · rw [hz0] at hr
        rcases hcase with ⟨rfl, rfl, rfl, rfl, st0⟩ | ⟨b, off, junk, rfl, q2, st0⟩
        · obtain rfl : m = 0 := by omega
          have e0 : zs zv 0 = [] := by apply List.length_eq_zero_iff.1; rw [zs_length]; omega
          exact ⟨none, 0, w, by rw [hr]; simp, by omega, by simpa [e0] using st⟩
        · have hjl : (zs zv m).length ≤ junk.length := by
            have : (len + m) * s ≤ cap * s := Nat.mul_le_mul_right s hfit
            rw [Nat.add_mul] at this
            rw [zs_length, hzl]
            simp at q2; omega
          obtain ⟨w', hr2, s1⟩ := storeCells_run (P := P) (off := off) (zs zv m) xs.length w (fun B => B :: Δ) (xs ++ junk) X.E _ (UpdRow.here Δ b off _) st0 (by simp; omega) (fun v hv => List.all_eq_true.1 hone v hv) (off + len * s) 0 (by omega)
          refine ⟨some ⟨b, off, none⟩, cap, w', ?_, hfit, ?_⟩
          · rw [hr]; simp [Addr.add_none, hr2]
          · have e1 : (xs ++ junk).take xs.length ++ zs zv m ++ (xs ++ junk).drop (xs.length + (zs zv m).length) = (xs ++ zs zv m) ++ junk.drop (zs zv m).length := by
              rw [List.take_left, ← List.drop_drop, List.drop_left]
            rw [e1] at s1
            exact St.sl_join (by simp [g1, zs_length, hzl, Nat.add_mul]) (by simp at q2 ⊢; omega) hfit s1
      · rw [hz0] at hr
        have st0 : St X.E Δ w := st.drop
        refine ⟨_, c, _, hr, hc, ?_⟩
        have s1 := st0.drew.alloc_row (xs ++ zs zv m ++ (Builtin.zeroCells z0.cells (c - (len + m))).toList) e
        have e1 : (xs ++ zs zv m ++ (Builtin.zeroCells z0.cells (c - (len + m))).toList).toArray = xs.toArray ++ (zs zv m).toArray ++ Builtin.zeroCells z0.cells (c - (len + m)) := by
          apply Array.ext'; simp
        rw [e1] at s1
        refine St.sl_join (by simp [g1, zs_length, hzl, Nat.add_mul]) ?_ hc s1
        have h3 := zeroCells_zero (c - (len + m)) z0.cells
        rw [hzs] at h3
        rw [List.length_append, h3, List.length_append, g1, zs_length, hzl, ← Nat.add_mul, ← Nat.add_mul]
        congr 1; omega
    obtain ⟨a', cap', w', hr, hc, s1⟩ := key
    refine ⟨_, w', _, ?_, s1, h a' cap' hc⟩
    simp [execOp, hop, resolve, he x _ hx, he z _ hz, invoke, builtin, hr]
end ops
end Go.Proofs.Ythneebbmodkjiaa
namespace Go.Proofs.Ythneebbmodkjiaa
/-- What comes behind is shown once, whichever way was gone ahead of it. -/
theorem x_cut {P : Program} {X : Cx} {n : Nat} {ds : List Deferred} {k : List Item} {ρ : Rho} {Γ : List HP} {a b : Code} {α : Type} (I : α → Prop) (ρI : α → Rho) (ΓI : α → List HP)
    (tail : ∀ x, I x → Ex P X n ds (.code b :: k) (ρI x) (ΓI x)) (head : ∀ td, (∀ x, I x → Ex P X n ds td (ρI x) (ΓI x)) → Ex P X n ds (.code a :: td) ρ Γ) : Ex P X n ds (.code (.seq a b) :: k) ρ Γ :=
  x_seq (head _ tail)
/-- The same in the middle of what is still to do: what comes behind the first item. -/
theorem x_cutK {P : Program} {X : Cx} {n : Nat} {ds : List Deferred} {k : List Item} {ρ : Rho} {Γ : List HP} {a : Item} {α : Type} (I : α → Prop) (ρI : α → Rho) (ΓI : α → List HP)
    (tail : ∀ x, I x → Ex P X n ds k (ρI x) (ΓI x)) (head : ∀ td, (∀ x, I x → Ex P X n ds td (ρI x) (ΓI x)) → Ex P X n ds (a :: td) ρ Γ) : Ex P X n ds (a :: k) ρ Γ :=
  head _ tail
end Go.Proofs.Ythneebbmodkjiaa

namespace Go.Proofs.Ythneebbmodkjiaa
open Go.RowKit
inductive Tr
  | nil
  | look (i : Nat) (t : Tr)
  | act (i : Nat) (t : Tr)
  | alt (a b : Tr)
def rmB (i : Nat) (xs : List Nat) : List Nat := xs.filter fun x => !Nat.beq x i
theorem mem_rmB {i j : Nat} {xs : List Nat} : j ∈ rmB i xs ↔ j ∈ xs ∧ j ≠ i := by
  unfold rmB; rw [List.mem_filter]
  constructor
  · rintro ⟨h1, h2⟩; exact ⟨h1, fun e => by subst e; simp at h2⟩
  · rintro ⟨h1, h2⟩
    refine ⟨h1, ?_⟩
    cases hb : Nat.beq j i with
    | true => exact absurd (Nat.eq_of_beq_eq_true hb) h2
    | false => rfl
def heads : Tr → List Nat
  | .act i _ => [i]
  | .alt a b => heads a ++ heads b
  | _ => []
def chkH (ms : List Nat) (H pend : List Nat) : Bool := pend.all fun p => memB p H || H.any fun h => (ms.getD p 0).testBit h
def okT (ms : List Nat) (len m : Nat) (A : List Nat) : Bool → Tr → List Nat → Bool
  | top, .nil, pend => top && pend.isEmpty
  | top, .look i t, pend => top && memB i pend && !memB i A && okT ms len m A true t (rmB i pend)
  | top, .act i t, pend => (!top || chkH ms [i] pend) && memB i pend && memB i A && (Nat.blt i m || (List.range len).all fun p => memB p A || (ms.getD i 0).testBit p) && okT ms len m A true t (rmB i pend)
  | top, .alt a b, pend => (!top || chkH ms (heads a ++ heads b) pend) && okT ms len m A false a pend && okT ms len m A false b pend
section draw
variable {P : Program} {X : Cx} {n : Nat} {ds : List Deferred} {k : List Item} {ρ : Rho} {Γ : List HP}
def ScrT (P : Program) (X : Cx) (n : Nat) (ds : List Deferred) (l : List Oper) (m : Nat) (base : Rho) (F : List HP) (k : List Item) : Tr → Rho → List HP → Prop
  | .nil, acc, Γ => Ex P X n ds k (accR l acc ++ base) Γ
  | .look i t, acc, Γ => ∃ o v, l[i]? = some o ∧ GV P acc o (envOf l m base acc i o.after.toList) F v ∧ ScrT P X n ds l m base F k t ((i, v) :: acc) Γ
  | .act i t, acc, Γ => ∃ o, l[i]? = some o ∧ (o.guard = none ∨ ∃ j b, o.guard = some (j, b) ∧ lk acc j = some (.bool b)) ∧
      ExO P X n ds o.dst o.op o.type (fun v Γ' => (Nat.ble m i = true ∨ ∃ Δ, Γ'.Perm (F ++ Δ)) ∧ ScrT P X n ds l m base F k t ((i, v) :: acc) Γ') (envOf l m base acc i o.after.toList) Γ
  | .alt a b, acc, Γ => ScrT P X n ds l m base F k a acc Γ ∧ ScrT P X n ds l m base F k b acc Γ
/-- The alternative that begins with an operation. -/
theorem pick_head {l : List Oper} {m : Nat} {base : Rho} {F : List HP} {ms A : List Nat} {len : Nat} {acc : Rho} {i : Nat} : ∀ (T : Tr) (top : Bool) (pend : List Nat), okT ms len m A top T pend = true → ScrT P X n ds l m base F k T acc Γ → i ∈ heads T →
    ∃ t, ScrT P X n ds l m base F k (.act i t) acc Γ ∧ okT ms len m A false (.act i t) pend = true
  | .nil, _, _, _, _, h => by cases h
  | .look _ _, _, _, _, _, h => by cases h
  | .act j t, top, pend, ho, hs, h => by
    have e : i = j := by simpa [heads] using h
    subst e
    refine ⟨t, hs, ?_⟩
    unfold okT at ho ⊢
    simp only [Bool.and_eq_true] at ho ⊢
    exact ⟨⟨⟨⟨rfl, ho.1.1.1.2⟩, ho.1.1.2⟩, ho.1.2⟩, ho.2⟩
  | .alt a b, top, pend, ho, hs, h => by
    unfold okT at ho
    simp only [Bool.and_eq_true] at ho
    rcases List.mem_append.1 h with h | h
    · exact pick_head a false pend ho.1.2 hs.1 h
    · exact pick_head b false pend ho.2 hs.2 h
theorem heads_ne {ms A : List Nat} {len m : Nat} : ∀ (T : Tr) (pend : List Nat), okT ms len m A false T pend = true → ∃ i, i ∈ heads T
  | .nil, _, h => by simp [okT] at h
  | .look i t, _, h => by simp [okT] at h
  | .act i t, _, _ => ⟨i, by simp [heads]⟩
  | .alt a b, pend, h => by
    unfold okT at h
    simp only [Bool.and_eq_true] at h
    obtain ⟨i, hi⟩ := heads_ne a pend h.1.2
    exact ⟨i, List.mem_append_left _ hi⟩
theorem head_chk {ms A : List Nat} {len m : Nat} : ∀ (T : Tr) (pend : List Nat), okT ms len m A true T pend = true → (∃ i t, T = .look i t) ∨ T = .nil ∨ chkH ms (heads T) pend = true
  | .nil, _, _ => .inr (.inl rfl)
  | .look i t, _, _ => .inl ⟨i, t, rfl⟩
  | .act i t, pend, h => by
    unfold okT at h
    simp only [Bool.and_eq_true, Bool.not_true, Bool.false_or] at h
    exact .inr (.inr h.1.1.1.1)
  | .alt a b, pend, h => by
    unfold okT at h
    simp only [Bool.and_eq_true, Bool.not_true, Bool.false_or] at h
    exact .inr (.inr h.1.1)
structure InvT (P : Program) (X : Cx) (n : Nat) (ds : List Deferred) (l : List Oper) (m : Nat) (base : Rho) (F : List HP) (k : List Item) (A : List Nat) (S : Nat → Bool) (ρ : Rho) (Γ : List HP) (π1 : List (Nat × Bool)) (pend : List Nat) (T : Tr) (acc : Rho) : Prop where
  nd : (π1.map (·.1)).Nodup
  part : ∀ i, i < l.length → i ∈ π1.map (·.1) ∨ i ∈ pend
  disj : ∀ i, i ∈ pend → i ∉ π1.map (·.1)
  ok : okT (masks l []) l.length m A true T pend = true
  flag : ∀ i b, (i, b) ∈ π1 → b = memB i A
  scr : ScrT P X n ds l m base F k T acc Γ
  facts : ∀ i b, (i, b) ∈ π1 → ∃ v o, lk acc i = some v ∧ l[i]? = some o ∧ (b = true → S i = true) ∧ (b = false → ∃ acc0, leR acc0 acc ∧ GV P acc0 o (envOf l m base acc0 i o.after.toList) F v)
  dom : acc.map (·.1) = (π1.map (·.1)).reverse
  done : ∀ i, S i = true → i ∈ π1.map (·.1)
  vals : ∀ i v d, S i = true → lk acc i = some v → (l[i]?).bind (·.dst) = some d → lk ρ d = some v
  bas : ∀ s v, lk base s = some v → (∀ j, (l[j]?).bind (·.dst) = some s → S j = false) → lk ρ s = some v
  clo : Closed l S
  fr : (∃ t, m ≤ t ∧ S t = true ∧ (List.range l.length).all (fun p => memB p A || ((masks l []).getD t 0).testBit p) = true) ∨ ∃ Δ, Γ.Perm (F ++ Δ)
/-- On through what only looks. -/
theorem InvT.pure {l : List Oper} {m : Nat} {base : Rho} {F : List HP} {A : List Nat} {S : Nat → Bool} : ∀ (T : Tr) (π1 : List (Nat × Bool)) (pend : List Nat) (acc : Rho), InvT P X n ds l m base F k A S ρ Γ π1 pend T acc →
    ∃ π1' pend' T' acc', InvT P X n ds l m base F k A S ρ Γ π1' pend' T' acc' ∧ ∀ i t, T' ≠ .look i t
  | .nil, π1, pend, acc, I => ⟨π1, pend, .nil, acc, I, fun _ _ h => by cases h⟩
  | .act i t, π1, pend, acc, I => ⟨π1, pend, .act i t, acc, I, fun _ _ h => by cases h⟩
  | .alt a b, π1, pend, acc, I => ⟨π1, pend, .alt a b, acc, I, fun _ _ h => by cases h⟩
  | .look i T, π1, pend, acc, I => by
    obtain ⟨o, v, ho, hg, hs⟩ := I.scr
    have hok := I.ok
    unfold okT at hok
    simp only [Bool.and_eq_true, Bool.true_and, Bool.not_eq_true'] at hok
    obtain ⟨⟨hp, hA⟩, hok⟩ := hok
    have hni : i ∉ π1.map (·.1) := I.disj i (memB_iff.1 hp)
    have hacc : lk acc i = none := by
      cases h : lk acc i with
      | none => rfl
      | some u => have := lk_dom h; rw [I.dom] at this; exact absurd (by simpa using this) hni
    have hle : leR acc ((i, v) :: acc) := fun j u hj => by
      rw [lk_cons_ne]
      · exact hj
      · rintro rfl; rw [hacc] at hj; cases hj
    refine InvT.pure T (π1 ++ [(i, false)]) (rmB i pend) ((i, v) :: acc) ⟨?_, ?_, ?_, hok, ?_, hs, ?_, by simp [I.dom], ?_, ?_, I.bas, I.clo, I.fr⟩
    · rw [List.map_append, List.nodup_append]
      exact ⟨I.nd, by simp, fun a ha b hb => by
        have : b = i := by simpa using hb
        subst this
        rintro rfl
        exact hni ha⟩
    · intro j hj
      rw [List.map_append, List.mem_append]
      rcases I.part j hj with h | h
      · exact .inl (.inl h)
      · by_cases e : j = i
        · exact .inl (.inr (by simp [e]))
        · exact .inr (mem_rmB.2 ⟨h, e⟩)
    · intro j hj hm
      obtain ⟨h1, h2⟩ := mem_rmB.1 hj
      rw [List.map_append, List.mem_append] at hm
      rcases hm with hm | hm
      · exact I.disj j h1 hm
      · exact h2 (by simpa using hm)
    · intro j b hj
      rcases List.mem_append.1 hj with hj | hj
      · exact I.flag j b hj
      · have e : (j, b) = (i, false) := by simpa using hj
        cases e
        exact hA.symm
    · intro j b hj
      rw [List.mem_append] at hj
      rcases hj with hj | hj
      · obtain ⟨u, o', h1, h2, h3, h4⟩ := I.facts j b hj
        refine ⟨u, o', hle j u h1, h2, h3, fun hb => ?_⟩
        obtain ⟨acc0, h5, h6⟩ := h4 hb
        exact ⟨acc0, fun a c hc => hle a c (h5 a c hc), h6⟩
      · have e : (j, b) = (i, false) := by simpa using hj
        cases e
        exact ⟨v, o, lk_cons_eq, ho, (fun h => by cases h), fun _ => ⟨acc, hle, hg⟩⟩
    · intro j hj; rw [List.map_append]; exact List.mem_append_left _ (I.done j hj)
    · intro j u d hS hj hd
      have hji : i ≠ j := by rintro rfl; exact hni (I.done _ hS)
      rw [lk_cons_ne hji] at hj
      exact I.vals j u d hS hj hd
theorem ScrT.sound_env {l : List Oper} {m : Nat} {base : Rho} {F : List HP} {A pend : List Nat} {π1 : List (Nat × Bool)} {T : Tr} {S : Nat → Bool} {acc acc0 : Rho} {i : Nat} {o : Oper} (I : InvT P X n ds l m base F k A S ρ Γ π1 pend T acc) (hle : leR acc0 acc)
    (hd : ∀ e ∈ o.after, Region.binds .any e = true → S e.on = true) (hb : ∀ s v, lk base s = some v → ∀ j, (l[j]?).bind (·.dst) = some s → ∀ i, i < m → ((masks l []).getD j 0).testBit i = true)
    (hcl : ∀ j, ((masks l []).getD j 0).testBit i = true → S j = false) : leR (envOf l m base acc0 i o.after.toList) ρ := by
  intro s u h
  unfold envOf at h
  rcases lk_app h with h | ⟨_, h⟩
  · obtain ⟨e, he, hb, h1, h2⟩ := depR_lk h
    exact I.vals e.on u s (hd e (by simpa using he) hb) (hle _ _ h2) h1
  · cases hm : Nat.blt i m with
    | true =>
      rw [hm] at h
      have him : i < m := by simpa [Nat.blt_eq] using hm
      exact I.bas s u h fun j hj => hcl j (hb s u h j hj i him)
    | false =>
      rw [hm] at h
      obtain ⟨h1, h2⟩ := keepS_lk h
      exact I.bas s u h1 fun j hj => hcl j (by have := okS_spec h2 j hj; simpa using this)

theorem accT_app_le {l : List Oper} {m : Nat} {base : Rho} {F : List HP} {A pend : List Nat} {π1 : List (Nat × Bool)} {T : Tr} {S : Nat → Bool} {acc : Rho} (I : InvT P X n ds l m base F k A S ρ Γ π1 pend T acc) (hnd : (π1.map (·.1)).Nodup) (hall : ∀ i, i ∈ π1.map (·.1) → S i = true) (hful : ∀ i, i < l.length → i ∈ π1.map (·.1)) : leR (accR l acc ++ base) ρ := by
  intro s v h
  have hn : (acc.map (·.1)).Nodup := by rw [I.dom]; exact (List.reverse_perm _).nodup_iff.2 hnd
  rcases lk_app h with h | ⟨h0, h⟩
  · obtain ⟨i, h1, h2⟩ := accR_lk hn h
    have hm := lk_dom h2
    rw [I.dom] at hm
    exact I.vals i v s (hall i (by simpa using hm)) h2 h1
  · by_cases hs : s ∈ dstsOf l
    · exfalso
      obtain ⟨o, ho, hd⟩ := List.mem_filterMap.1 hs
      obtain ⟨i, hi⟩ := List.getElem?_of_mem ho
      refine accR_some (l := l) (i := i) (d := s) (by simp [hi, hd]) ?_ h0
      rw [I.dom]
      simpa using hful i (List.getElem?_eq_some_iff.1 hi).1
    · exact I.bas s v h fun j hj => absurd (dsts_mem hj) hs

theorem x_scriptT {id : Nat} {l : List Oper} (m : Nat) (A : List Nat) (T : Tr) (F : List HP) (hmo : P.follows .mixedOrders = true) (hall' : (okT (masks l []) l.length m A true T (List.range l.length) && acyc l 0 && nodB (dstsOf l) && gOk l && baseOk l m ρ && (dstsOf l).all (fun d => Nat.blt d n)) = true) (hF : ∃ Δ, Γ.Perm (F ++ Δ))
    (h : ScrT P X n ds l m ρ F k T [] Γ) : Ex P X n ds (.code (.region id l.toArray true) :: k) ρ Γ := by
  simp only [Bool.and_eq_true] at hall'
  obtain ⟨⟨⟨⟨⟨hok, h1⟩, h5⟩, h8⟩, hb⟩, hn'⟩ := hall'
  have hn : ∀ d ∈ dstsOf l, d < n := fun d hd => by have := List.all_eq_true.1 hn' d hd; simpa [Nat.blt_eq] using this
  have hdn := nodB_iff.1 h5
  refine x_draw' hmo h1 (fun S ρ' Γ' => ∃ π1 pend T acc, InvT P X n ds l m ρ F k A S ρ' Γ' π1 pend T acc ∧ ∀ i t, T ≠ .look i t) ?_ ?_ ?_
  · exact InvT.pure T [] (List.range l.length) [] ⟨by simp, fun i hi => .inr (List.mem_range.2 hi), fun i _ h => by simp at h, hok, fun i b hi => (by cases hi), h, fun i b hi => (by cases hi), rfl, fun i hi => (by cases hi), fun i v d hi => (by cases hi), fun s v hs _ => hs, fun j o _ hj => (by cases hj), .inr hF⟩
  · rintro i o ho S ρ' Γ' hSi hd ⟨π1, pend, T, acc, I, hhead⟩
    have hil : i < l.length := (List.getElem?_eq_some_iff.1 ho).1
    have hclo' : Closed l (fun j => S j || j == i) := by
      intro j o' hj hSj e he hbe
      simp only [Bool.or_eq_true, beq_iff_eq] at hSj ⊢
      rcases hSj with hSj | rfl
      · exact .inl (I.clo j o' hj hSj e he hbe)
      · rw [ho] at hj; cases hj; exact .inl (hd e he hbe)
    have htail : ∀ j, ((masks l []).getD j 0).testBit i = true → S j = false := by
      intro t htb
      cases hSt : S t with
      | false => rfl
      | true =>
        exfalso
        have htl' : t < l.length := by
          have hm := I.done t hSt
          obtain ⟨⟨a, b⟩, hab, rfl⟩ := List.mem_map.1 hm
          obtain ⟨_, o', _, ho', _⟩ := I.facts a b hab
          exact (List.getElem?_eq_some_iff.1 ho').1
        have := closed_mask h1 I.clo t htl' hSt i htb
        rw [hSi] at this; cases this
    -- what is known once i has left v
    have next : ∀ v, lk acc i = some v → i ∈ π1.map (·.1) → InvT P X n ds l m ρ F k A (fun j => S j || j == i) (put o.dst v ρ') Γ' π1 pend T acc := by
      intro v hv hi1
      refine ⟨I.nd, I.part, I.disj, I.ok, I.flag, I.scr, fun j b hj => ?_, I.dom, ?_, ?_, ?_, hclo', I.fr.imp_left fun ⟨t, a, b, c⟩ => ⟨t, a, by simp [b], c⟩⟩
      · obtain ⟨u, o', g1, g2, g3, g4⟩ := I.facts j b hj
        exact ⟨u, o', g1, g2, fun hb => by simp [g3 hb], g4⟩
      · intro j hj
        simp only [Bool.or_eq_true, beq_iff_eq] at hj
        rcases hj with hj | rfl
        · exact I.done j hj
        · exact hi1
      · intro j u d hj hju hjd
        simp only [Bool.or_eq_true, beq_iff_eq] at hj
        by_cases hji : j = i
        · subst hji
          rw [hv] at hju; cases hju
          have : o.dst = some d := by simpa [ho] using hjd
          rw [this]; exact lk_cons_eq
        · have hSj : S j = true := hj.resolve_right hji
          have := I.vals j u d hSj hju hjd
          cases hod : o.dst with
          | none => exact this
          | some d' =>
            have hne : d' ≠ d := by
              rintro rfl
              exact hji (dsts_inj hdn hjd (by simp [ho, hod]))
            show lk ((d', v) :: ρ') d = some u
            rw [lk_cons_ne hne]; exact this
      · intro s u hs hor
        have hold : lk ρ' s = some u := I.bas s u hs fun j hj => by
          have := hor j hj
          simp only [Bool.or_eq_false_iff] at this
          exact this.1
        cases hod : o.dst with
        | none => exact hold
        | some d' =>
          have hne : d' ≠ s := by
            rintro rfl
            have := hor i (by simp [ho, hod])
            simp at this
          show lk ((d', v) :: ρ') s = some u
          rw [lk_cons_ne hne]; exact hold
    have hdst : ∀ d, o.dst = some d → Nat.blt d n = true := fun d hod => by
      have := hn d (dsts_mem (i := i) (by simp [ho, hod])); simpa [Nat.blt_eq] using this
    rcases I.part i hil with hi1 | hi2
    · -- one that only looks, and was foreseen
      obtain ⟨⟨a, b⟩, hab, rfl⟩ := List.mem_map.1 hi1
      obtain ⟨v, o', g1, g2, g3, g4⟩ := I.facts a b hab
      rw [ho] at g2; cases g2
      cases b with
      | true => have := g3 rfl; rw [hSi] at this; cases this
      | false =>
        obtain ⟨acc0, hle, hgv⟩ := g4 rfl
        have hle' := ScrT.sound_env I hle hd (baseOk_spec hb) htail
        have hfr2 : ∃ Δ, Γ'.Perm (F ++ Δ) := by
          rcases I.fr with ⟨t, htm, hSt, htπ⟩ | h
          · exfalso
            have h11 := List.all_eq_true.1 htπ a (List.mem_range.2 hil)
            have hfa := I.flag a false hab
            have h12 : ((masks l []).getD t 0).testBit a = true := by
              rw [← hfa] at h11; simpa using h11
            have htl' : t < l.length := by
              have hmm := I.done t hSt
              obtain ⟨⟨a', b'⟩, hab', rfl⟩ := List.mem_map.1 hmm
              obtain ⟨_, o', _, ho', _⟩ := I.facts a' b' hab'
              exact (List.getElem?_eq_some_iff.1 ho').1
            have := closed_mask h1 I.clo t htl' hSt a h12
            rw [hSi] at this; cases this
          · exact h
        obtain ⟨Δ, hperm⟩ := hfr2
        have hdrop : ∀ (F Δ : List HP), Ent (F ++ Δ) F := fun F Δ => by
          refine (Ent.perm List.perm_append_comm).trans ?_
          induction Δ with
          | nil => exact .refl _
          | cons A Δ ih => exact (Ent.drop A _).trans ih
        have hweak : ∀ E w, St E Γ' w → St E F w := fun E w s => (hdrop F Δ).st (s.perm hperm)
        have go : OpV P o.op o.type (envOf l m ρ acc0 a o.after.toList) F v → ExO P X n ds o.dst o.op o.type (fun v' Γ'' => ∃ π1 pend T acc, InvT P X n ds l m ρ F k A (fun j => S j || j == a) (put o.dst v' ρ') Γ'' π1 pend T acc ∧ ∀ i t, T ≠ .look i t) ρ' Γ' := by
          intro hv
          cases hod : o.dst with
          | none =>
            intro ops' i' o' rest k' ρF hle'' hops hdst' hop hty hw hK t w htn hmt hst
            have hr := hv.2 (Act.mk t ds).eval o' X.E w hop hty (fun x u hx => (hmt.le fun s z hz => hle'' s z (hle' s z hz)).ev ds hx) (fun xs vs hx => (hmt.le fun s z hz => hle'' s z (hle' s z hz)).evL ds hx) (hweak _ _ hst)
            refine .step (m' := lone (X.base.atR ⟨t, ds⟩ (.inRegion ops' rest :: k')) X.cs w) (step_lone_go ?_)
              (hK v Γ' ⟨π1, pend, T, acc, (by have := next v g1 hi1; rwa [hod] at this), hhead⟩ t w htn hmt hst)
            rw [stepGR_op hops (hw t hmt), Oper.semAt_eq _ _ _ (by rw [hop]; exact hv.1)]
            have hfin := Frame.finish_atR X.base ⟨t, ds⟩ ops' i' rest k' v
            have hp : ((ops'[i']?).bind (·.dst)) = none := by simp [hops, hdst']
            rw [hp] at hfin
            simp only [stepG.apply, Sem.runT_eq, hr, if_true, GStep.bare_after, hfin]
            rfl
          | some d =>
            have := o_v (X := X) (n := n) (ds := ds) (d := d) (Nx := fun v' Γ'' => ∃ π1 pend T acc, InvT P X n ds l m ρ F k A (fun j => S j || j == a) (put (some d) v' ρ') Γ'' π1 pend T acc ∧ ∀ i t, T ≠ .look i t)
              (hv.weak hweak) (hdst d hod) ⟨π1, pend, T, acc, (by have := next v g1 hi1; rwa [hod] at this), hhead⟩
            exact this.le hle'
        unfold GV at hgv
        cases hgo : o.guard with
        | none => rw [hgo] at hgv; exact .plain hgo (go hgv)
        | some jb =>
          obtain ⟨j, b⟩ := jb
          rw [hgo] at hgv
          simp only at hgv
          have hg8 := List.all_eq_true.1 h8 o (List.mem_of_getElem? ho)
          simp only [hgo, Bool.and_eq_true] at hg8
          obtain ⟨hg9, hg10⟩ := hg8
          obtain ⟨e, he, hej⟩ := Array.any_eq_true'.1 hg9
          simp only [Bool.and_eq_true] at hej
          have hej1 := Nat.eq_of_beq_eq_true hej.1
          obtain ⟨d, hd'⟩ := Option.isSome_iff_exists.1 hg10
          have hSj : S j = true := hej1 ▸ hd e he hej.2
          have hgd : ∀ u, lk acc0 j = some u → gd ρ' l.toArray j = some u := by
            intro u hu
            unfold gd
            have : (l.toArray[j]?).bind (·.dst) = some d := by simpa using hd'
            rw [this]
            exact I.vals j u d hSj (hle j u hu) hd'
          rcases hgv with ⟨hb1, hv⟩ | ⟨hb1, rfl⟩
          · exact .guarded hgo (hgd _ hb1) (go hv)
          · rcases hb1 with hb1 | hb1
            · exact .passed hgo (hgd _ hb1) (.inl rfl) hdst ⟨π1, pend, T, acc, next undef g1 hi1, hhead⟩
            · exact .passed hgo (hgd _ hb1) (.inr rfl) hdst ⟨π1, pend, T, acc, next undef g1 hi1, hhead⟩
    · -- one that writes: it is the next of these
      have hiH : i ∈ heads T := by
        rcases head_chk T pend I.ok with ⟨j, t, e⟩ | e | hc
        · exact absurd e (hhead j t)
        · subst e
          have := I.ok
          unfold okT at this
          cases pend with
          | nil => cases hi2
          | cons p q => simp at this
        · have h7 := List.all_eq_true.1 hc i hi2
          rw [Bool.or_eq_true] at h7
          rcases h7 with h7 | h7
          · exact memB_iff.1 h7
          · obtain ⟨c, hcH, hbit⟩ := List.any_eq_true.1 h7
            have hSc : (fun j => S j || j == i) c = true := closed_mask h1 hclo' i hil (by simp) c hbit
            simp only [Bool.or_eq_true, beq_iff_eq] at hSc
            rcases hSc with hSc | rfl
            · obtain ⟨t, _, h8'⟩ := pick_head T true pend I.ok I.scr hcH
              unfold okT at h8'
              simp only [Bool.and_eq_true] at h8'
              exact absurd (I.done c hSc) (I.disj c (memB_iff.1 h8'.1.1.1.2))
            · exact hcH
      obtain ⟨r, hscr, hokr⟩ := pick_head T true pend I.ok I.scr hiH
      unfold okT at hokr
      simp only [Bool.and_eq_true, Bool.or_eq_true] at hokr
      obtain ⟨⟨⟨⟨-, hp⟩, hA⟩, hlast⟩, hokr⟩ := hokr
      · obtain ⟨o', ho', hgu, hex⟩ := hscr
        rw [ho] at ho'; cases ho'
        have hni : i ∉ π1.map (·.1) := I.disj i hi2
        have hacc : lk acc i = none := by
          cases h : lk acc i with
          | none => rfl
          | some u => have := lk_dom h; rw [I.dom] at this; exact absurd (by simpa using this) hni
        have hle' := ScrT.sound_env I (leR.refl acc) hd (baseOk_spec hb) htail
        have hex' := (hex.mono (Nx' := fun v Γ'' => ∃ π1 pend T acc, InvT P X n ds l m ρ F k A (fun j => S j || j == i) (put o.dst v ρ') Γ'' π1 pend T acc ∧ ∀ i t, T ≠ .look i t) fun v Γ'' ⟨hfr, hsc⟩ => by
          have hle : leR acc ((i, v) :: acc) := fun j u hj => by
            rw [lk_cons_ne]
            · exact hj
            · rintro rfl; rw [hacc] at hj; cases hj
          have hput : ∀ s u, (∀ d, o.dst = some d → d ≠ s) → lk ρ' s = some u → lk (put o.dst v ρ') s = some u := by
            intro s u hne hs
            cases hod : o.dst with
            | none => exact hs
            | some d' => show lk ((d', v) :: ρ') s = some u; rw [lk_cons_ne (hne d' hod)]; exact hs
          refine InvT.pure r (π1 ++ [(i, true)]) (rmB i pend) ((i, v) :: acc) ⟨?_, ?_, ?_, hokr, ?_, hsc, ?_, by simp [I.dom], ?_, ?_, ?_, hclo', hfr.imp_left fun hm => ⟨i, Nat.le_of_ble_eq_true hm, by simp, hlast.resolve_left fun hh => ?_⟩⟩
          · rw [List.map_append, List.nodup_append]
            exact ⟨I.nd, by simp, fun a ha b hb => by
              have : b = i := by simpa using hb
              subst this
              rintro rfl
              exact hni ha⟩
          · intro j hj
            rw [List.map_append, List.mem_append]
            rcases I.part j hj with h | h
            · exact .inl (.inl h)
            · by_cases e : j = i
              · exact .inl (.inr (by simp [e]))
              · exact .inr (mem_rmB.2 ⟨h, e⟩)
          · intro j hj hm
            obtain ⟨h1, h2⟩ := mem_rmB.1 hj
            rw [List.map_append, List.mem_append] at hm
            rcases hm with hm | hm
            · exact I.disj j h1 hm
            · exact h2 (by simpa using hm)
          · intro j b hj
            rcases List.mem_append.1 hj with hj | hj
            · exact I.flag j b hj
            · have e : (j, b) = (i, true) := by simpa using hj
              cases e
              exact hA.symm
          · intro j b hj
            rw [List.mem_append] at hj
            rcases hj with hj | hj
            · obtain ⟨u, o'', g1, g2, g3, g4⟩ := I.facts j b hj
              refine ⟨u, o'', hle j u g1, g2, fun hb => by simp [g3 hb], fun hb => ?_⟩
              obtain ⟨acc0, g5, g6⟩ := g4 hb
              exact ⟨acc0, fun a c hc => hle a c (g5 a c hc), g6⟩
            · have e : (j, b) = (i, true) := by simpa using hj
              cases e
              exact ⟨v, o, lk_cons_eq, ho, (fun _ => by simp), fun h => by cases h⟩
          · intro j hj
            simp only [Bool.or_eq_true, beq_iff_eq] at hj
            rw [List.map_append, List.mem_append]
            rcases hj with hj | rfl
            · exact .inl (I.done j hj)
            · exact .inr (by simp)
          · intro j u d hj hju hjd
            simp only [Bool.or_eq_true, beq_iff_eq] at hj
            by_cases hji : j = i
            · subst hji
              rw [lk_cons_eq] at hju; cases hju
              have : o.dst = some d := by simpa [ho] using hjd
              rw [this]; exact lk_cons_eq
            · have hSj : S j = true := hj.resolve_right hji
              rw [lk_cons_ne (Ne.symm hji)] at hju
              exact hput d u (fun d' hod hdd => by
                subst hdd
                exact hji (dsts_inj hdn hjd (by simp [ho, hod]))) (I.vals j u d hSj hju hjd)
          · intro s u hs hor
            refine hput s u (fun d' hod hdd => ?_) (I.bas s u hs fun j hj => by
              have := hor j hj
              simp only [Bool.or_eq_false_iff] at this
              exact this.1)
            subst hdd
            have := hor i (by simp [ho, hod])
            simp at this
          · have h1' := Nat.le_of_ble_eq_true hm
            have h2' : i < m := by simpa [Nat.blt_eq] using hh
            omega).le hle'
        rcases hgu with hgo | ⟨j, b, hgo, hgj⟩
        · exact .plain hgo hex'
        · have hg8 := List.all_eq_true.1 h8 o (List.mem_of_getElem? ho)
          simp only [hgo, Bool.and_eq_true] at hg8
          obtain ⟨hg9, hg10⟩ := hg8
          obtain ⟨e, he, hej⟩ := Array.any_eq_true'.1 hg9
          simp only [Bool.and_eq_true] at hej
          have hej1 := Nat.eq_of_beq_eq_true hej.1
          obtain ⟨d, hd'⟩ := Option.isSome_iff_exists.1 hg10
          have hSj : S j = true := hej1 ▸ hd e he hej.2
          refine .guarded hgo ?_ hex'
          unfold gd
          have : (l.toArray[j]?).bind (·.dst) = some d := by simpa using hd'
          rw [this]
          exact I.vals j _ d hSj hgj hd'
  · rintro S ρ' Γ' hS ⟨π1, pend, T, acc, I, hhead⟩
    have hno : ∀ i ∈ pend, ¬ i < l.length := fun i hi hil => I.disj i hi (I.done i (hS i hil))
    have hT : T = .nil := by
      cases T with
      | nil => rfl
      | look i t => exact absurd rfl (hhead i t)
      | act i t =>
        exfalso
        obtain ⟨r, ⟨o, ho, _⟩, hokr⟩ := pick_head (Tr.act i t) true pend I.ok I.scr (i := i) (by simp [heads])
        unfold okT at hokr
        simp only [Bool.and_eq_true] at hokr
        exact hno i (memB_iff.1 hokr.1.1.1.2) (List.getElem?_eq_some_iff.1 ho).1
      | alt a b =>
        exfalso
        have hk := I.ok
        unfold okT at hk
        simp only [Bool.and_eq_true] at hk
        obtain ⟨i, hi⟩ := heads_ne a pend hk.1.2
        obtain ⟨r, ⟨o, ho, _⟩, hokr⟩ := pick_head (Tr.alt a b) true pend I.ok I.scr (i := i) (List.mem_append_left _ hi)
        unfold okT at hokr
        simp only [Bool.and_eq_true] at hokr
        exact hno i (memB_iff.1 hokr.1.1.1.2) (List.getElem?_eq_some_iff.1 ho).1
    subst hT
    have hscr : Ex P X n ds k (accR l acc ++ ρ) Γ' := I.scr
    have hl := accT_app_le I I.nd (fun i hi => by
      obtain ⟨⟨a, b⟩, hab, rfl⟩ := List.mem_map.1 hi
      obtain ⟨_, o', _, ho', _⟩ := I.facts a b hab
      exact hS a (List.getElem?_eq_some_iff.1 ho').1) (fun i hi => (I.part i hi).resolve_right fun h => hno i h hi)
    exact fun t w htn hmt hst => hscr t w htn (hmt.le hl) hst

variable {l : List Oper} {m : Nat} {base : Rho} {F : List HP} {T : Tr} {acc : Rho}
theorem t_v {i : Nat} {dst : Option Tmp} {op : Op} {ty : TypeId} {pos : String} {af : Array Edge} {v : Value} (ho : l[i]? = some ⟨dst, op, ty, pos, af, none⟩) (hv : OpV P op ty (envOf l m base acc i af.toList) F v) (h : ScrT P X n ds l m base F k T ((i, v) :: acc) Γ) :
    ScrT P X n ds l m base F k (.look i T) acc Γ := ⟨_, v, ho, hv, h⟩
theorem t_x {i : Nat} {dst : Option Tmp} {op : Op} {ty : TypeId} {pos : String} {af : Array Edge} (ho : l[i]? = some ⟨dst, op, ty, pos, af, none⟩)
    (h : ExO P X n ds dst op ty (fun v Γ' => (∃ Δ, Γ'.Perm (F ++ Δ)) ∧ ScrT P X n ds l m base F k T ((i, v) :: acc) Γ') (envOf l m base acc i af.toList) Γ) :
    ScrT P X n ds l m base F k (.act i T) acc Γ := ⟨_, ho, .inl rfl, h.mono fun _ _ ⟨a, b⟩ => ⟨.inr a, b⟩⟩
theorem t_end {ρ' : Rho} (he : frcR (accR l acc ++ base) = some ρ') (h : Ex P X n ds k ρ' Γ) : ScrT P X n ds l m base F k .nil acc Γ := by
  rw [frcR_eq he] at h; exact h
theorem t_alt {T T' : Tr} (h : ScrT P X n ds l m base F k T acc Γ) (h' : ScrT P X n ds l m base F k T' acc Γ) : ScrT P X n ds l m base F k (.alt T T') acc Γ := ⟨h, h'⟩
end draw
end Go.Proofs.Ythneebbmodkjiaa

namespace Go.Proofs.Ythneebbmodkjiaa
open Go.RowKit
theorem x_loopD {P : Program} {X : Cx} {n : Nat} {k : List Item} {ρ : Rho} {Γ : List HP} {c : Code} {α : Type} (I : α → Prop) (dI : α → List Deferred) (ρI : α → Rho) (ΓI : α → List HP) (μ : α → Nat) (a0 : α) (h0 : I a0) (hρ : subR (ρI a0) ρ) (hΓ : Ent Γ (ΓI a0))
    (round : ∀ a, I a → (∀ a', I a' → μ a' < μ a → Ex P X n (dI a') (.inLoop c :: k) (ρI a') (ΓI a')) → Ex P X n (dI a) (.code c :: .inLoop c :: k) (ρI a) (ΓI a)) :
    Ex P X n (dI a0) (.code (.loop c) :: k) ρ Γ := by
  have key : ∀ m a, μ a = m → I a → Ex P X n (dI a) (.code c :: .inLoop c :: k) (ρI a) (ΓI a) := by
    intro m
    induction m using Nat.strongRecOn with
    | _ m ih => exact fun a ha hI => round a hI fun a' hI' hlt => x_inLoop (ih (μ a') (ha ▸ hlt) a' rfl hI')
  exact fun t w hn hm hs => .step stepR_loop (key _ a0 rfl h0 t w hn (hm.sub hρ) (hΓ.st hs))
section
variable {P : Program} {X : Cx} {n : Nat} {ds : List Deferred} {ρ : Rho} {Γ : List HP} {Nx : Value → List HP → Prop} {d : Nat} {ty : TypeId}
theorem indexV_run {t m e : Nat} {vs : List Value} {v : Value} {j : Nat} {kk : IntKind} [T : TyArray P t m e 1] [C : TyCell P e] (hlt : j < m) (hv : vs[j]? = some v) (w : World) : (Instr.index t (.agg vs.toArray) (.int kk (j : Int))).run P w = .ok v w := by
  obtain ⟨inf, hu, hi, hsz⟩ := T.h
  simp [Instr.index, asIntOf, underlying_run hu, sizeOf_run hi, hsz, hlt, part, TyCell.agg, hv]
/-- x[i], x an array's value. -/
theorem o_indexV {t m e : Nat} {x ix : Operand} {vs : List Value} {v : Value} {j : Nat} {kk : IntKind} {i : Int} [T : TyArray P t m e 1] [C : TyCell P e] (hx : ev ρ x = some (.agg vs.toArray)) (hi : ev ρ ix = some (.int kk i)) (hj : i = (j : Int)) (hlt : j < m) (hv : vs[j]? = some v)
    (hn : Nat.blt d n = true) (h : Nx v Γ) : ExO P X n ds (some d) (.index t x ix) ty Nx ρ Γ :=
  o_value (by simp) hn fun ee o w hop hty he heL hs => ⟨_, w, Γ, by
    subst hj
    simp [execOp, hop, he x _ hx, he ix _ hi, indexV_run hlt hv], hs, h⟩
end
end Go.Proofs.Ythneebbmodkjiaa
