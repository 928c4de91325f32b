/- Ranging over a function: the caller's side, the iterator's side, a round. -/
import Derived.Test.YthneebbmodkjiaaSLk
import Derived.RangeFuncIn
import Derived.RangeFuncOwn
namespace Go.Proofs.Ythneebbmodkjiaa
open Go.RowKit

theorem St.put_whole {E : Env} {Γ : List HP} {w : World} {b : Nat} {o : Obj} (o' : Obj) (s : St E (Whole b o :: Γ) w) : St E (Whole b o' :: Γ) (w.putObj b o') := s.whole_set o' _ rfl

/-- The marks of the loops over functions that a body has gone through. -/
def mk1 (D : Nat) : Deferred := { target := .collected D, args := #[] }
def mks (Ds : List Nat) : List Deferred := Ds.map mk1
def Marks (Ds : List Nat) : HP := Sep (Ds.map fun D => Whole D (.deferred (some [])))
theorem Ent.marks0 (Γ : List HP) : Ent Γ (Marks [] :: Γ) := Emp.intro Γ |>.trans (Ent.one (fun _ h => h) Γ)
theorem Ent.marks1 (D : Nat) (Ds : List Nat) (Γ : List HP) : Ent (Whole D (.deferred (some [])) :: Marks Ds :: Γ) (Marks (D :: Ds) :: Γ) := by
  refine (Ent.cons _ (Ent.sep_out _ _)).trans ?_
  exact Ent.sep_in (Whole D (.deferred (some [])) :: Ds.map fun D => Whole D (.deferred (some []))) Γ

/-- A loop's record. -/
def Rec (l : Nat) (r : Loop) (st : LoopState) (pe : Option Code) : HP := Whole l (.loop { r with state := st, pending := pe })

/-- WHAT A CALL OF yield DOES, from the iterator's side. -/
def YSpec (P : Program) (l : Nat) (vs : List Value) (A : List HP) (R : Bool → List HP → Prop) : Prop :=
  ∀ E Γ w, St E (A ++ Γ) w → ∃ fn tmps assign body, (Instr.yield l vs.toArray).run P w = .ok (.round l fn tmps assign body) w ∧
    ∀ c cs, Reach P (lone (Frame.round l fn tmps assign body .normal) (c :: cs) w) fun m => ∃ b B w', m = lone (c.finish (.bool b)) cs w' ∧ R b B ∧ St E (B ++ Γ) w'

section
variable {P : Program} {X : Cx} {n : Nat} {ds : List Deferred} {ρ : Rho} {Γ : List HP} {k : List Item} {Nx : Value → List HP → Prop}
theorem o_yield {fo : Operand} {args : List Operand} {ts : Array TypeId} {l d : Nat} {ty : TypeId} {vs : List Value} {A Δ : List HP} {R : Bool → List HP → Prop} (hf : ev ρ fo = some (.func (.yield l) #[] #[])) (ha : evL ρ args = some vs)
    (S : YSpec P l vs A R) [T : Takes Γ A Δ] (hn : Nat.blt d n = true) (h : ∀ b B, R b B → Nx (.bool b) (B ++ Δ)) :
    ExO P X n ds (some d) (.call ⟨.value fo, args.toArray, ts⟩) ty Nx ρ Γ := by
  intro ops i o rest k ρF hle ho hdst hop hty hw hK t w htn hm hs
  obtain ⟨fn, tmps, assign, body, hy, hr⟩ := S X.E Δ w hs.take
  have hlt : d < t.size := by rw [htn]; exact of_decide_eq_true (by simpa [Nat.blt_eq] using hn)
  obtain ⟨fr0, hfr0⟩ : ∃ fr0, X.base.atR ⟨t, ds⟩ (.inRegion ops (i :: rest) :: k) = fr0 := ⟨_, rfl⟩
  have hef := (hm.le hle).ev ds hf
  have hea := (hm.le hle).evL ds ha
  have hrun : (execOp (Act.mk t ds).eval o).run P w = .ok (.round l fn tmps assign body) w := by
    simp [execOp, hop, resolve, hef, Deferred.ofValue, invoke, hea, hy]
  have henter : step P (lone fr0 X.cs w) = .next (lone (Frame.round l fn tmps assign body .normal) (fr0 :: X.cs) w) := by
    rw [← hfr0]
    refine step_lone_go ?_
    rw [stepGR_op ho (hw t hm), Oper.semAt_eq _ _ _ (by rw [hop]; simp)]
    simp [stepG.apply, hrun, Frame.atR]
  rw [hfr0]
  refine .step henter ((hr fr0 X.cs).trans ?_)
  rintro m ⟨b, B, w', rfl, hR, hs'⟩
  have hfin := Frame.finish_atR X.base ⟨t, ds⟩ ops i rest k (.bool b)
  have hp : ((ops[i]?).bind (·.dst)) = some d := by simp [ho, hdst]
  rw [hp, hfr0] at hfin
  rw [hfin]
  exact hK _ _ (h b B hR) _ w' (by simpa using htn) (hm.put _ hlt) hs'

theorem x_beginRound {l : Nat} {r : Loop} {Δ : List HP} (hro : X.ro = some l) [T : Take Γ (Rec l r .ready none) Δ] (h : Ex P X n ds k ρ (Rec l r .busy none :: Δ)) : Ex P X n ds (.beginRound :: k) ρ Γ := by
  intro t w htn hm hs
  have s1 := hs.perm T.h
  have hb := run_beginRound (P := P) s1.whole_get rfl
  refine .step (stepR_beginRound hro hb) (h t _ htn hm ?_)
  exact s1.put_whole _
end

/-- Where a round ends. -/
def RoundG (c : Frame) (cs : List Frame) (E : Env) (R : Bool → List HP → Prop) (Γ : List HP) : Machine → Prop := fun m => ∃ b B w', m = lone (c.finish (.bool b)) cs w' ∧ R b B ∧ St E (B ++ Γ) w'
def roundX (fn : FuncId) (l : Nat) (c : Frame) (cs : List Frame) (E : Env) (R : Bool → List HP → Prop) (Γ : List HP) : Cx := ⟨fn, some l, c :: cs, E, RoundG c cs E R Γ⟩

def zipR : List Nat → List Value → Rho → Rho
  | p :: ps, v :: vs, ρ => zipR ps vs ((p, v) :: ρ)
  | _, _, ρ => ρ

theorem zip_mat : ∀ (ps : List Nat) (vs : List Value) (ρ : Rho) (t : Array Value), Mat ρ t → ps.all (fun p => Nat.blt p t.size) = true → Mat (zipR ps vs ρ) ((ps.zip vs).foldl (fun tmps (x : Nat × Value) => tmps.setIfInBounds x.1 x.2) t) ∧ ((ps.zip vs).foldl (fun tmps (x : Nat × Value) => tmps.setIfInBounds x.1 x.2) t).size = t.size := by
  intro ps
  induction ps with
  | nil => intro vs ρ t h _; exact ⟨h, rfl⟩
  | cons p ps ih =>
    intro vs ρ t h hp
    cases vs with
    | nil => exact ⟨h, rfl⟩
    | cons v vs =>
      simp only [List.all_cons, Bool.and_eq_true] at hp
      have hlt : p < t.size := by simpa [Nat.blt_eq] using hp.1
      obtain ⟨h1, h2⟩ := ih vs ((p, v) :: ρ) (t.setIfInBounds p v) (h.put v hlt) (by simpa using hp.2)
      exact ⟨h1, by rw [List.zip_cons_cons, List.foldl_cons, h2]; simp⟩

section
variable {P : Program} {X : Cx} {n : Nat} {ρ : Rho} {Γ : List HP} {k : List Item}

/-- WHAT AN ITERATOR PROMISES: it yields xs one by one, till it is told to stop. -/
def Iter (P : Program) (gf : FuncId) (fs caps : List Value) (A A' : List HP) (xs : List (List Value)) : Prop :=
  ∀ (l : Nat) (I J : Nat → HP), (∀ i vs, xs[i]? = some vs → YSpec P l vs [I i] fun b B => (b = true ∧ B = [I (i + 1)]) ∨ (b = false ∧ B = [J (i + 1)])) →
    Spec P gf (fs ++ [.func (.yield l) #[] #[]] ++ caps) (A ++ [I 0]) fun _ B => B = A' ++ [I xs.length] ∨ ∃ i, B = A' ++ [J i]

/-- The rounds of a body, by its own walk: hnext, hexit, hret: how it may end. -/
def Body (P : Program) (fn : FuncId) (n : Nat) (todo : List Item) (ρ : Rho) (I : Nat → List HP) (J : Code → Nat → List HP) (i : Nat) : Prop :=
  ∀ (Y : Cx) (l : Nat) (r : Loop) (Θ : List HP), Y.fn = fn → Y.ro = some l →
    (∀ ρ', Ex P Y n [] [] ρ' (Rec l r .busy none :: (I (i + 1) ++ Θ))) →
    (∀ id k ρ', exitTo id k = none → Ex P Y n [] (.code (.exit id) :: k) ρ' (Rec l r .busy none :: (J (.exit id) (i + 1) ++ Θ))) →
    (∀ k ρ', Ex P Y n [] (.code .ret :: k) ρ' (Rec l r .busy none :: (J .ret (i + 1) ++ Θ))) →
    Ex P Y n [] todo ρ (Rec l r .ready none :: (I i ++ Θ))

theorem x_range {f : Operand} {ps : List Nat} {assign body : Code} {gf : FuncId} {fs caps : List Value} {A A' Δ Δ1 Δ2 : List HP} {Ds : List Nat} {xs : List (List Value)} (hro : X.ro = none) (hf : ev ρ f = some (.func (.func gf) fs.toArray caps.toArray)) [C : Callable P gf]
    [TM : Take Γ (Marks Ds) Δ] [TA : Takes Δ A Δ1] (it : Iter P gf fs caps A A' xs) (I : Nat → List HP) (J : Code → Nat → List HP) (hI : Ent Δ1 (I 0 ++ Δ2)) (hps : ps.all (fun p => Nat.blt p n) = true) (hxs : ∀ (i : Nat) (vs : List Value), xs[i]? = some vs → vs.length = ps.length)
    (hbody : ∀ i vs, xs[i]? = some vs → Body P X.fn n [.code assign, .beginRound, .code body] (zipR ps vs ρ) I J i)
    (hdone : ∀ D, Ex P X n (mks (D :: Ds)) k ρ (Marks (D :: Ds) :: (I xs.length ++ (A' ++ Δ2))))
    (hstop : ∀ D c i, Ex P X n (mks (D :: Ds)) (.code c :: k) ρ (Marks (D :: Ds) :: (J c i ++ (A' ++ Δ2)))) :
    Ex P X n (mks Ds) (.code (.rangeFunc f ps.toArray assign body) :: k) ρ Γ := by
  intro t w htn hm hs
  obtain ⟨E, hE⟩ : ∃ E, X.E = E := ⟨_, rfl⟩
  rw [hE] at hs
  -- the two blocks that are laid
  obtain ⟨r, hr⟩ : ∃ r : Loop, r = { state := .ready, pending := none, fn := X.fn, tmps := t, params := ps.toArray, assign, body, defers := w.heap.size } := ⟨_, rfl⟩
  have s0 := hs.perm TM.h
  have s1 := ((s0.alloc_whole (.deferred (some []))).alloc_whole (.loop r))
  simp only [World.size_alloc] at s1
  obtain ⟨w1, hw1⟩ : ∃ w1, (w.alloc (.deferred (some []))).alloc (.loop r) = w1 := ⟨_, rfl⟩
  rw [hw1] at s1
  obtain ⟨D, hD⟩ : ∃ D, D = w.heap.size := ⟨_, rfl⟩
  rw [← hD] at s1
  have hrec : Rec (D + 1) r .ready none = Whole (D + 1) (.loop r) := by rw [hr]; rfl
  rw [← hrec] at s1
  -- the invariant as one part
  obtain ⟨II, hII⟩ : ∃ II : Nat → HP, II = fun i => Sep (Rec (D + 1) r .ready none :: Whole D (.deferred (some [])) :: I i) := ⟨_, rfl⟩
  obtain ⟨JJ, hJJ⟩ : ∃ JJ : Nat → HP, JJ = fun i => Any fun c => Sep (Rec (D + 1) r .done (some c) :: Whole D (.deferred (some [])) :: J c i) := ⟨_, rfl⟩
  have sA : St E ((A ++ [II 0]) ++ (Marks Ds :: Δ2)) w1 := by
    have p1 : (Rec (D + 1) r .ready none :: Whole D (.deferred (some [])) :: Marks Ds :: Δ).Perm (A ++ (Rec (D + 1) r .ready none :: Whole D (.deferred (some [])) :: Marks Ds :: Δ1)) := by
      refine ((((TA.h).cons (Marks Ds)).cons _).cons _).trans ?_
      refine List.Perm.trans ?_ (List.perm_append_comm (l₁ := _ :: _ :: _ :: Δ1))
      simp only [List.cons_append]
      exact (((List.perm_append_comm (l₁ := A) (l₂ := Δ1)).cons _).cons _).cons _
    have s2 := s1.perm p1
    have e1 : Ent (Rec (D + 1) r .ready none :: Whole D (.deferred (some [])) :: Marks Ds :: Δ1) (II 0 :: Marks Ds :: Δ2) := by
      refine (((hI.cons (Marks Ds)).cons _).cons _).trans ?_
      refine (Ent.perm (?_ : List.Perm _ ((Rec (D + 1) r .ready none :: Whole D (.deferred (some [])) :: I 0) ++ (Marks Ds :: Δ2)))).trans ?_
      · simp only [List.cons_append]
        exact (List.perm_middle.symm.cons _).cons _
      · rw [hII]; exact Ent.sep_in _ _
    have s3 := (e1.append A).st s2
    simpa using s3
  have hyield : ∀ i vs, xs[i]? = some vs → YSpec P (D + 1) vs [II i] fun b B => (b = true ∧ B = [II (i + 1)]) ∨ (b = false ∧ B = [JJ (i + 1)]) := by
    intro i vs hi E' Θ w' s'
    rw [hII] at s'
    have s2 := (Ent.sep_out _ _).st s'
    simp only [List.cons_append] at s2
    have hl := s2.whole_get
    have hlen := hxs i vs hi
    have hy := run_yield (P := P) (args := vs.toArray) hl (by rw [hr]; simpa using hlen)
    rw [hr] at hy
    refine ⟨X.fn, _, assign, body, hy, fun c cs => ?_⟩
    obtain ⟨Rr, hRr⟩ : ∃ Rr : Bool → List HP → Prop, Rr = fun b B => (b = true ∧ B = [II (i + 1)]) ∨ (b = false ∧ B = [JJ (i + 1)]) := ⟨_, rfl⟩
    have hB := hbody i vs hi (roundX X.fn (D + 1) c cs E' Rr Θ) (D + 1) r (Whole D (.deferred (some [])) :: Θ) rfl rfl ?_ ?_ ?_
    · have hz := zip_mat ps vs ρ t hm (by rw [htn]; exact hps)
      have e2 : ((ps.toArray.zip vs.toArray).foldl (fun tmps x => tmps.setIfInBounds x.1 x.2) t) = (ps.zip vs).foldl (fun tmps (x : Nat × Value) => tmps.setIfInBounds x.1 x.2) t := by simp
      have := hB _ w' (by rw [hz.2]; exact htn) hz.1 (s2.perm (by
        refine List.Perm.cons _ ?_
        exact List.perm_middle.symm))
      rw [← hRr]
      have e3 : (roundX X.fn (D + 1) c cs E' Rr Θ).base.atR ⟨(ps.zip vs).foldl (fun tmps (x : Nat × Value) => tmps.setIfInBounds x.1 x.2) t, []⟩ [.code assign, .beginRound, .code body] = Frame.round (D + 1) X.fn ((ps.toArray.zip vs.toArray).foldl (fun tmps x => tmps.setIfInBounds x.1 x.2) t) assign body .normal := by
        rw [e2]; rfl
      rw [e3] at this
      exact this
    · -- off its end
      intro ρ' t' v' _ _ st
      have hend := run_endRound (P := P) none st.whole_get
      refine .step (stepR_round_end rfl rfl hend) (.now ⟨true, [II (i + 1)], _, rfl, by rw [hRr]; exact .inl ⟨rfl, rfl⟩, ?_⟩)
      have st2 := st.put_whole (.loop { r with state := .ready, pending := none })
      rw [hII]
      refine (Ent.sep_in (Rec (D + 1) r .ready none :: Whole D (.deferred (some [])) :: I (i + 1)) Θ).st (st2.perm ?_)
      simp only [List.cons_append]
      exact List.Perm.cons _ List.perm_middle
    · intro id k' ρ' hk t' v' _ _ st
      have hend := run_endRound (P := P) (some (.exit id)) st.whole_get
      refine .step (stepR_round_exit rfl rfl hk hend) (.now ⟨false, [JJ (i + 1)], _, rfl, by rw [hRr]; exact .inr ⟨rfl, rfl⟩, ?_⟩)
      have st2 := st.put_whole (.loop { r with state := .done, pending := some (.exit id) })
      rw [hJJ]
      refine (Ent.ex (A := fun c => Sep (Rec (D + 1) r .done (some c) :: Whole D (.deferred (some [])) :: J c (i + 1))) (.exit id) Θ).st ?_
      refine (Ent.sep_in (Rec (D + 1) r .done (some (.exit id)) :: Whole D (.deferred (some [])) :: J (.exit id) (i + 1)) Θ).st (st2.perm ?_)
      simp only [List.cons_append]
      exact List.Perm.cons _ List.perm_middle
    · intro k' ρ' t' v' _ _ st
      have hend := run_endRound (P := P) (some .ret) st.whole_get
      refine .step (stepR_round_ret rfl rfl hend) (.now ⟨false, [JJ (i + 1)], _, rfl, by rw [hRr]; exact .inr ⟨rfl, rfl⟩, ?_⟩)
      have st2 := st.put_whole (.loop { r with state := .done, pending := some .ret })
      rw [hJJ]
      refine (Ent.ex (A := fun c => Sep (Rec (D + 1) r .done (some c) :: Whole D (.deferred (some [])) :: J c (i + 1))) .ret Θ).st ?_
      refine (Ent.sep_in (Rec (D + 1) r .done (some .ret) :: Whole D (.deferred (some [])) :: J .ret (i + 1)) Θ).st (st2.perm ?_)
      simp only [List.cons_append]
      exact List.Perm.cons _ List.perm_middle
  -- the call
  have hspec := it (D + 1) II JJ hyield E (Marks Ds :: Δ2) w1 sA
  have hen : (Instr.enterLoop X.base.fn t ps.toArray assign body X.base.roundOf).run P w = .ok (D + 1, [mk1 D]) w1 := by
    have hb : X.base.roundOf = none := hro
    rw [hb, run_enterLoop_outer, ← hw1, hr, hD]; rfl
  have hef := hm.ev (mks Ds) hf
  have hres : (resolve (Act.mk t (mks Ds)).eval (rangeCall f (D + 1)) 0).run P w1 = .ok { target := .fn (.func gf) caps.toArray, args := fs.toArray ++ #[.func (.yield (D + 1)) #[] #[]] } w1 := by
    show ((Deferred.ofValue ((Act.mk t (mks Ds)).eval f) (#[Operand.const (.func (.yield (D + 1)) #[] #[])].map (Act.mk t (mks Ds)).eval)) : Sem Deferred).run P w1 = _
    rw [hef]; simp [Deferred.ofValue, Act.eval]
  have hstep := stepR_rangeFunc (P := P) (b := X.base) (a := ⟨t, mks Ds⟩) (k := k) (cs := X.cs) (w := w) (g := f) (ps := ps.toArray) (assign := assign) (body := body) hen hres
    (show (invoke (.fn (.func gf) caps.toArray) (fs.toArray ++ #[.func (.yield (D + 1)) #[] #[]])).run P w1 = .ok (.enter gf _) w1 from C.run _ _)
  refine .step hstep ?_
  obtain ⟨e, w2, fr, ⟨v, B, rfl, hB, s2⟩, hcomes, hfn, hleave⟩ := hspec (X.base.atR ⟨t, [mk1 D] ++ mks Ds⟩ (.inRangeFunc (D + 1) :: k) :: X.cs)
  have eargs : (fs ++ [Value.func (.yield (D + 1)) #[] #[]] ++ caps).toArray = (fs.toArray ++ #[.func (.yield (D + 1)) #[] #[]]) ++ caps.toArray := by simp
  rw [eargs] at hcomes
  refine .steps hcomes (.step (step_leave_returned hleave) ?_)
  rw [finish_atR_inRangeFunc]
  rcases hB with rfl | ⟨i, rfl⟩
  · have s3 : St E (Rec (D + 1) r .ready none :: (Whole D (.deferred (some [])) :: Marks Ds :: (I xs.length ++ (A' ++ Δ2)))) w2 := by
      have p1 : ((A' ++ [II xs.length]) ++ (Marks Ds :: Δ2)).Perm (II xs.length :: (Marks Ds :: (A' ++ Δ2))) := by
        simp only [List.append_assoc, List.cons_append, List.nil_append]
        exact List.perm_middle.trans (List.perm_middle.cons _)
      have s4 := s2.perm p1
      rw [hII] at s4
      have s5 := (Ent.sep_out _ _).st s4
      refine s5.perm ?_
      simp only [List.cons_append]
      exact (List.perm_middle.cons _).cons _
    have hendl := run_endLoop (P := P) s3.whole_get (by simp)
    refine .step (stepR_endRangeFunc (b := X.base) (a := ⟨t, [mk1 D] ++ mks Ds⟩) hendl) ?_
    have s4 := s3.put_whole (.loop { r with state := .exhausted, pending := none })
    have s6 := (Ent.marks1 D Ds _).st (s4.drop)
    exact hdone D t _ htn hm (by rw [hE]; exact s6)
  · have s3 : ∃ c, St E (Rec (D + 1) r .done (some c) :: (Whole D (.deferred (some [])) :: Marks Ds :: (J c i ++ (A' ++ Δ2)))) w2 := by
      have p1 : ((A' ++ [JJ i]) ++ (Marks Ds :: Δ2)).Perm (JJ i :: (Marks Ds :: (A' ++ Δ2))) := by
        simp only [List.append_assoc, List.cons_append, List.nil_append]
        exact List.perm_middle.trans (List.perm_middle.cons _)
      have s4 := s2.perm p1
      rw [hJJ] at s4
      obtain ⟨c, s4⟩ := s4.ex
      refine ⟨c, ?_⟩
      have s5 := (Ent.sep_out _ _).st s4
      refine s5.perm ?_
      simp only [List.cons_append]
      exact (List.perm_middle.cons _).cons _
    obtain ⟨c, s3⟩ := s3
    have hendl := run_endLoop (P := P) s3.whole_get (by simp)
    refine .step (stepR_endRangeFunc (b := X.base) (a := ⟨t, [mk1 D] ++ mks Ds⟩) hendl) ?_
    have s4 := s3.put_whole (.loop { r with state := .exhausted, pending := some c })
    have s6 := (Ent.marks1 D Ds _).st (s4.drop)
    exact hstop D c i t _ htn hm (by rw [hE]; exact s6)

theorem unwinds {P : Program} {fr : Frame} {cs : List Frame} {E : Env} : ∀ (Ds : List Nat) (Δ : List HP) (w : World), fr.mode = .returning → fr.defers = mks Ds → St E (Marks Ds :: Δ) w →
    ∃ w', Steps P (lone fr cs w) (lone { fr with defers := [] } cs w') ∧ St E Δ w' := by
  intro Ds
  induction Ds generalizing fr with
  | nil =>
    intro Δ w hm hd s
    have : { fr with defers := [] } = fr := by cases fr; simp [mks] at hd; simp [hd]
    rw [this]
    exact ⟨w, .refl _ _, s.drop⟩
  | cons D Ds ih =>
    intro Δ w hm hd s
    have s1 := (Ent.sep_out _ _).st s
    simp only [List.map_cons, List.cons_append] at s1
    have ht := run_takeDeferred (P := P) s1.whole_get
    have s2 := (s1.put_whole (.deferred none)).drop
    have s3 : St E (Marks Ds :: Δ) (w.putObj D (.deferred none)) := (Ent.sep_in _ _).st s2
    obtain ⟨w', h1, h2⟩ := ih (fr := { fr with defers := mks Ds }) Δ _ hm rfl s3
    refine ⟨w', .head (step_lone_go ?_) h1, h2⟩
    simp [stepG, unwind, hm, hd, mks, mk1, Sem.runT_eq, ht]

theorem x_retM {P : Program} {f : FuncId} {E : Env} {cs : List Frame} {R : Value → List HP → Prop} {Γ Δ Δ' : List HP} {n : Nat} {k : List Item} {ρ : Rho} {ts Ds : List Nat} {vs : List Value} [F : FunRet P f ts] [T : Take Δ (Marks Ds) Δ'] (hv : evL ρ (ts.map .tmp) = some vs) (B : List HP) (hR : R (retV vs) B) (hE : Ent Δ' (B ++ Γ)) :
    Ex P (retX P f E cs R Γ) n (mks Ds) (.code .ret :: k) ρ Δ := by
  intro t w htn hm hs
  obtain ⟨fn, hfn, hres⟩ := F.h
  obtain ⟨w', h1, h2⟩ := unwinds (P := P) (fr := { (retX P f E cs R Γ).base.atR ⟨t, mks Ds⟩ (.code .ret :: k) with mode := .returning }) (cs := cs) Ds Δ' w rfl rfl (hs.perm T.h)
  refine .step (stepR_ret rfl) (.steps h1 (.now ⟨_, w', retV vs, B, rfl, rfl, ⟨rfl, rfl, rfl, fn, hfn, ?_⟩, hR, hE.st h2⟩))
  exact results_tmps hres hm hv w'
theorem x_endM {P : Program} {f : FuncId} {E : Env} {cs : List Frame} {R : Value → List HP → Prop} {Γ Δ Δ' : List HP} {n : Nat} {ρ : Rho} {Ds : List Nat} [F : FunRet P f []] [T : Take Δ (Marks Ds) Δ'] (B : List HP) (hR : R (.tuple #[]) B) (hE : Ent Δ' (B ++ Γ)) :
    Ex P (retX P f E cs R Γ) n (mks Ds) [] ρ Δ := by
  intro t w htn hm hs
  obtain ⟨fn, hfn, hres⟩ := F.h
  obtain ⟨w', h1, h2⟩ := unwinds (P := P) (fr := { (retX P f E cs R Γ).base.atR ⟨t, mks Ds⟩ [] with mode := .returning }) (cs := cs) Ds Δ' w rfl rfl (hs.perm T.h)
  refine .step (stepR_end rfl) (.steps h1 (.now ⟨_, w', .tuple #[], B, rfl, rfl, ⟨rfl, rfl, rfl, fn, hfn, ?_⟩, hR, hE.st h2⟩))
  exact results_tmps (ts := []) (vs := []) hres hm rfl w'
end
end Go.Proofs.Ythneebbmodkjiaa
