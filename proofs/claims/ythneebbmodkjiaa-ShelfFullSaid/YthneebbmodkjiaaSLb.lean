/- The walk: symbolic steps of the machine over slots that are known and a heap that is said part by part. -/
import Derived.Test.YthneebbmodkjiaaSLa
namespace Go.Proofs.Ythneebbmodkjiaa
open Go.RowKit

/-! ### Slots -/
abbrev Rho := List (Nat × Value)
def lk : Rho → Nat → Option Value
  | [], _ => none
  | (k, v) :: r, i => match Nat.beq k i with
    | true => some v
    | false => lk r i
def Mat (ρ : Rho) (t : Array Value) : Prop := ∀ i v, lk ρ i = some v → t[i]? = some v
def ev (ρ : Rho) : Operand → Option Value
  | .tmp t => lk ρ t
  | .const v => some v
  | .global g => some (.pointer (some ⟨g, 0, none⟩))
  | .func f => some (.func (.func f) #[] #[])
def evL (ρ : Rho) : List Operand → Option (List Value)
  | [] => some []
  | x :: xs => match ev ρ x with
    | some v => match evL ρ xs with
      | some vs => some (v :: vs)
      | none => none
    | none => none

theorem Mat.nil (t : Array Value) : Mat [] t := fun _ _ h => by cases h
theorem Mat.ev {ρ : Rho} {t : Array Value} (h : Mat ρ t) (ds : List Deferred) {x : Operand} {v : Value} (hx : ev ρ x = some v) : (Act.mk t ds).eval x = v := by
  cases x with
  | tmp i => have := h i v hx; simp [Act.eval, Array.getD_eq_getD_getElem?, this]
  | const c => cases hx; rfl
  | global g => cases hx; rfl
  | func f => cases hx; rfl
theorem Mat.evL {ρ : Rho} {t : Array Value} (h : Mat ρ t) (ds : List Deferred) : ∀ {xs : List Operand} {vs : List Value}, evL ρ xs = some vs → xs.map (Act.mk t ds).eval = vs := by
  intro xs
  induction xs with
  | nil => intro vs hv; cases hv; rfl
  | cons x xs ih =>
    intro vs hv
    unfold Ythneebbmodkjiaa.evL at hv
    cases h1 : Ythneebbmodkjiaa.ev ρ x with
    | none => simp [h1] at hv
    | some v =>
      cases h2 : Ythneebbmodkjiaa.evL ρ xs with
      | none => simp [h1, h2] at hv
      | some us =>
        simp [h1, h2] at hv
        subst hv
        rw [List.map_cons, h.ev ds h1, ih h2]
theorem Mat.put {ρ : Rho} {t : Array Value} (h : Mat ρ t) {d : Nat} (v : Value) (hd : d < t.size) : Mat ((d, v) :: ρ) (t.setIfInBounds d v) := by
  intro i u hu
  unfold lk at hu
  rw [Array.getElem?_setIfInBounds]
  cases hb : Nat.beq d i with
  | true =>
    rw [hb] at hu
    have e := Nat.eq_of_beq_eq_true hb
    subst e
    simp at hu
    simp [hd, hu]
  | false =>
    rw [hb] at hu
    have e := Nat.ne_of_beq_eq_false hb
    rw [if_neg e]
    exact h i u hu

/-- Each slot of the first list is there in the second. -/
def subR : Rho → Rho → Prop
  | [], _ => True
  | (i, v) :: r, ρ => lk ρ i = some v ∧ subR r ρ
theorem Mat.sub {ρ ρ' : Rho} {t : Array Value} (h : Mat ρ t) (s : subR ρ' ρ) : Mat ρ' t := by
  induction ρ' with
  | nil => exact Mat.nil t
  | cons e r ih =>
    obtain ⟨i, v⟩ := e
    intro j u hu
    unfold lk at hu
    cases hb : Nat.beq i j with
    | true =>
      rw [hb] at hu
      have e := Nat.eq_of_beq_eq_true hb
      subst e
      simp at hu; subst hu
      exact h i v s.1
    | false => rw [hb] at hu; exact ih s.2 j u hu

/-! ### Coming somewhere -/
def Reach (P : Program) (m : Machine) (G : Machine → Prop) : Prop := ∃ m', Steps P m m' ∧ G m'
theorem Reach.now {P : Program} {m : Machine} {G : Machine → Prop} (h : G m) : Reach P m G := ⟨m, .refl P m, h⟩
theorem Reach.step {P : Program} {m m' : Machine} {G : Machine → Prop} (h : step P m = .next m') (h' : Reach P m' G) : Reach P m G :=
  let ⟨x, s, g⟩ := h'; ⟨x, .head h s, g⟩
theorem Reach.trans {P : Program} {m : Machine} {G G' : Machine → Prop} (h : Reach P m G) (k : ∀ x, G x → Reach P x G') : Reach P m G' :=
  let ⟨x, s, g⟩ := h; let ⟨y, t, g'⟩ := k x g; ⟨y, Steps.trans s t, g'⟩
theorem Reach.steps {P : Program} {m m' : Machine} {G : Machine → Prop} (h : Steps P m m') (h' : Reach P m' G) : Reach P m G :=
  let ⟨x, s, g⟩ := h'; ⟨x, Steps.trans h s, g⟩

/-- What stands still while a body is walked: the function, the loop whose round it is, who called, what no store turns, where to come. -/
structure Cx where
  fn : FuncId
  ro : Option Nat
  cs : List Frame
  E : Env
  G : Machine → Prop

def Cx.base (X : Cx) : Frame := { (default : Frame) with fn := X.fn, kind := .normal, roundOf := X.ro }

def Ex (P : Program) (X : Cx) (n : Nat) (ds : List Deferred) (todo : List Item) (ρ : Rho) (Γ : List HP) : Prop :=
  ∀ (tmps : Array Value) (w : World), tmps.size = n → Mat ρ tmps → St X.E Γ w → Reach P (lone (X.base.atR ⟨tmps, ds⟩ todo) X.cs w) X.G

section ctl
variable {P : Program} {X : Cx} {n : Nat} {ds : List Deferred} {k : List Item} {ρ : Rho} {Γ : List HP}
theorem x_skip (h : Ex P X n ds k ρ Γ) : Ex P X n ds (.code .skip :: k) ρ Γ := fun t w hn hm hs => .step stepR_skip (h t w hn hm hs)
theorem x_label {l : Nat} (h : Ex P X n ds k ρ Γ) : Ex P X n ds (.code (.label l) :: k) ρ Γ := fun t w hn hm hs => .step stepR_label (h t w hn hm hs)
theorem x_inBlock {id : Nat} (h : Ex P X n ds k ρ Γ) : Ex P X n ds (.inBlock id :: k) ρ Γ := fun t w hn hm hs => .step stepR_inBlock (h t w hn hm hs)
theorem x_inScope {c : Code} (h : Ex P X n ds k ρ Γ) : Ex P X n ds (.inScope c :: k) ρ Γ := fun t w hn hm hs =>
  .step (step_lone_go (by simp [stepG, stepG.exec, Frame.atR])) (h t w hn hm hs)
theorem x_seq {a b : Code} (h : Ex P X n ds (.code a :: .code b :: k) ρ Γ) : Ex P X n ds (.code (.seq a b) :: k) ρ Γ := fun t w hn hm hs => .step stepR_seq (h t w hn hm hs)
theorem x_block {id : Nat} {c : Code} (h : Ex P X n ds (.code c :: .inBlock id :: k) ρ Γ) : Ex P X n ds (.code (.block id c) :: k) ρ Γ := fun t w hn hm hs => .step stepR_block (h t w hn hm hs)
theorem x_scope {c : Code} (h : Ex P X n ds (.code c :: .inScope c :: k) ρ Γ) : Ex P X n ds (.code (.scope c) :: k) ρ Γ := fun t w hn hm hs =>
  .step (step_lone_go (by simp [stepG, stepG.exec, Frame.atR])) (h t w hn hm hs)
theorem x_true {c : Operand} {a b : Code} (hc : ev ρ c = some (.bool true)) (h : Ex P X n ds (.code a :: k) ρ Γ) : Ex P X n ds (.code (.cond c a b) :: k) ρ Γ :=
  fun t w hn hm hs => .step (stepR_cond (hm.ev ds hc)) (h t w hn hm hs)
theorem x_false {c : Operand} {a b : Code} (hc : ev ρ c = some (.bool false)) (h : Ex P X n ds (.code b :: k) ρ Γ) : Ex P X n ds (.code (.cond c a b) :: k) ρ Γ :=
  fun t w hn hm hs => .step (stepR_cond (hm.ev ds hc)) (h t w hn hm hs)
theorem x_cond {c : Operand} {a b : Code} {p : Bool} (hc : ev ρ c = some (.bool p)) (h1 : p = true → Ex P X n ds (.code a :: k) ρ Γ) (h2 : p = false → Ex P X n ds (.code b :: k) ρ Γ) :
    Ex P X n ds (.code (.cond c a b) :: k) ρ Γ := by
  cases p with
  | true => exact x_true hc (h1 rfl)
  | false => exact x_false hc (h2 rfl)
theorem x_exit {id : Nat} {k' : List Item} (he : exitTo id k = some k') (h : Ex P X n ds k' ρ Γ) : Ex P X n ds (.code (.exit id) :: k) ρ Γ := fun t w hn hm hs => .step (stepR_exit he) (h t w hn hm hs)
theorem x_goto {l : Nat} {k' : List Item} (he : gotoIn l k = some k') (h : Ex P X n ds k' ρ Γ) : Ex P X n ds (.code (.goto l) :: k) ρ Γ := fun t w hn hm hs => .step (stepR_goto he) (h t w hn hm hs)

/-- Less is known. -/
theorem x_weak {ρ' : Rho} {Γ' : List HP} {todo : List Item} (h : Ex P X n ds todo ρ' Γ') (hρ : subR ρ' ρ) (hΓ : Ent Γ Γ') : Ex P X n ds todo ρ Γ :=
  fun t w hn hm hs => h t w hn (hm.sub hρ) (hΓ.st hs)
theorem x_mem {Γ' : List HP} {todo : List Item} (hΓ : Ent Γ Γ') (h : Ex P X n ds todo ρ Γ') : Ex P X n ds todo ρ Γ :=
  fun t w hn hm hs => h t w hn hm (hΓ.st hs)
theorem x_open {α : Type} {Γ' : α → List HP} {todo : List Item} (hΓ : ∀ E w, St E Γ w → ∃ a, St E (Γ' a) w) (h : ∀ a, Ex P X n ds todo ρ (Γ' a)) : Ex P X n ds todo ρ Γ :=
  fun t w hn hm hs => let ⟨a, s⟩ := hΓ _ _ hs; h a t w hn hm s

theorem x_inLoop {c : Code} (h : Ex P X n ds (.code c :: .inLoop c :: k) ρ Γ) : Ex P X n ds (.inLoop c :: k) ρ Γ := fun t w hn hm hs => .step stepR_inLoop (h t w hn hm hs)
/-- A loop: what is known at each round's head, by a, under I; a measure that falls. -/
theorem x_loop {c : Code} {α : Type} (I : α → Prop) (ρI : α → Rho) (ΓI : α → List HP) (μ : α → Nat) (a0 : α) (h0 : I a0) (hρ : subR (ρI a0) ρ) (hΓ : Ent Γ (ΓI a0))
    (round : ∀ a, I a → (∀ a', I a' → μ a' < μ a → Ex P X n ds (.inLoop c :: k) (ρI a') (ΓI a')) → Ex P X n ds (.code c :: .inLoop c :: k) (ρI a) (ΓI a)) :
    Ex P X n ds (.code (.loop c) :: k) ρ Γ := by
  have key : ∀ m a, μ a = m → I a → Ex P X n ds (.code c :: .inLoop c :: k) (ρI a) (ΓI a) := by
    intro m
    induction m using Nat.strongRecOn with
    | _ m ih => exact fun a ha hI => round a hI fun a' hI' hlt => x_inLoop (ih (μ a') (ha ▸ hlt) a' rfl hI')
  exact fun t w hn hm hs => .step stepR_loop (key _ a0 rfl h0 t w hn (hm.sub hρ) (hΓ.st hs))
end ctl

/-! ### A list of operations -/
def ExR (P : Program) (X : Cx) (n : Nat) (ds : List Deferred) (ops : Array Oper) (l : List Oper) (k : List Item) (ρ : Rho) (Γ : List HP) : Prop :=
  ∀ i, ops.toList.drop i = l → Ex P X n ds (.inRegion ops (List.range' i l.length) :: k) ρ Γ

/-- All that the first slots say the second say. -/
def leR (ρ ρ' : Rho) : Prop := ∀ i v, lk ρ i = some v → lk ρ' i = some v
theorem leR.refl (ρ : Rho) : leR ρ ρ := fun _ _ h => h
theorem Mat.le {ρ ρ' : Rho} {t : Array Value} (h : Mat ρ' t) (s : leR ρ ρ') : Mat ρ t := fun i v hv => h i v (s i v hv)
def put (dst : Option Tmp) (v : Value) (ρ : Rho) : Rho := match dst with
  | some d => (d, v) :: ρ
  | none => ρ
/-- One operation, whatever comes behind it: Nx is what is to hold of its value and of the heap there. -/
def ExO (P : Program) (X : Cx) (n : Nat) (ds : List Deferred) (dst : Option Tmp) (op : Op) (ty : TypeId) (Nx : Value → List HP → Prop) (ρ : Rho) (Γ : List HP) : Prop :=
  ∀ (ops : Array Oper) (i : Nat) (o : Oper) (rest : List Nat) (k : List Item) (ρF : Rho), leR ρ ρF → ops[i]? = some o → o.dst = dst → o.op = op → o.type = ty → (∀ t, Mat ρF t → Region.wanted o (yielded ops t) = true) →
    (∀ v Γ', Nx v Γ' → Ex P X n ds (.inRegion ops rest :: k) (put dst v ρF) Γ') → Ex P X n ds (.inRegion ops (i :: rest) :: k) ρF Γ

section ops
variable {P : Program} {X : Cx} {n : Nat} {ds : List Deferred} {k : List Item} {ρ : Rho} {Γ : List HP} {ops : Array Oper} {l : List Oper}

theorem x_region {id : Nat} {l : List Oper} (h : ExR P X n ds l.toArray l k ρ Γ) : Ex P X n ds (.code (.region id l.toArray false) :: k) ρ Γ :=
  fun t w hn hm hs => .step stepR_region (by
    have := h 0 (by simp) t w hn hm hs
    simpa [List.range_eq_range'] using this)
theorem r_nil (h : Ex P X n ds k ρ Γ) : ExR P X n ds ops [] k ρ Γ := fun _ _ t w hn hm hs => .step stepR_region_end (h t w hn hm hs)

theorem drop_cons {i : Nat} {o : Oper} (h : ops.toList.drop i = o :: l) : ops[i]? = some o ∧ ops.toList.drop (i + 1) = l := by
  constructor
  · have : (ops.toList.drop i)[0]? = some o := by rw [h]; rfl
    rw [List.getElem?_drop] at this
    simpa using this
  · have : (ops.toList.drop i).drop 1 = l := by rw [h]; rfl
    rwa [List.drop_drop] at this

theorem r_op {d : Nat} {op : Op} {ty : TypeId} {pos : String} {af : Array Edge} (h : ExO P X n ds (some d) op ty (fun v Γ' => ExR P X n ds ops l k ((d, v) :: ρ) Γ') ρ Γ) : ExR P X n ds ops (⟨some d, op, ty, pos, af, none⟩ :: l) k ρ Γ := by
  intro i hi
  obtain ⟨ho, hd⟩ := drop_cons hi
  exact h ops i _ _ k ρ (.refl ρ) ho rfl rfl rfl (fun _ _ => rfl) (fun _ _ hx => hx (i + 1) hd)
theorem r_do {op : Op} {ty : TypeId} {pos : String} {af : Array Edge} (h : ExO P X n ds none op ty (fun _ Γ' => ExR P X n ds ops l k ρ Γ') ρ Γ) : ExR P X n ds ops (⟨none, op, ty, pos, af, none⟩ :: l) k ρ Γ := by
  intro i hi
  obtain ⟨ho, hd⟩ := drop_cons hi
  exact h ops i _ _ k ρ (.refl ρ) ho rfl rfl rfl (fun _ _ => rfl) (fun _ _ hx => hx (i + 1) hd)

/-- What an operation that was done has left in its slot. -/
def gd (ρ : Rho) (ops : Array Oper) (j : Nat) : Option Value := match (ops[j]?).bind (·.dst) with
  | some d => lk ρ d
  | none => none

theorem gd_yielded {j : Nat} {b : Bool} (h : gd ρ ops j = some (.bool b)) {t : Array Value} (hm : Mat ρ t) : yielded ops t j = some b := by
  unfold gd at h
  unfold yielded
  cases hd : (ops[j]?).bind (·.dst) with
  | none => simp [hd] at h
  | some d => simp [hd] at h; simp [hm d _ h]
theorem gd_undef {j : Nat} (h : gd ρ ops j = some undef) {t : Array Value} (hm : Mat ρ t) : yielded ops t j = none := by
  unfold gd at h
  unfold yielded
  cases hd : (ops[j]?).bind (·.dst) with
  | none => simp
  | some d => simp [hd] at h; simp [hm d _ h, undef]

theorem r_guard {d : Nat} {op : Op} {ty : TypeId} {pos : String} {af : Array Edge} {j : Nat} {b : Bool} (hg : gd ρ ops j = some (.bool b)) (h : ExO P X n ds (some d) op ty (fun v Γ' => ExR P X n ds ops l k ((d, v) :: ρ) Γ') ρ Γ) :
    ExR P X n ds ops (⟨some d, op, ty, pos, af, some (j, b)⟩ :: l) k ρ Γ := by
  intro i hi
  obtain ⟨ho, hd⟩ := drop_cons hi
  exact h ops i _ _ k ρ (.refl ρ) ho rfl rfl rfl (fun t hm => by simp [Region.wanted, gd_yielded hg hm]) (fun _ _ hx => hx (i + 1) hd)

theorem r_pass {i : Nat} {o : Oper} (ho : ops[i]? = some o) (hw : ∀ t, Mat ρ t → Region.wanted o (yielded ops t) = false) (hd : ops.toList.drop (i + 1) = l) {d : Nat} (hdst : o.dst = some d) (hn : Nat.blt d n = true)
    (h : ExR P X n ds ops l k ((d, undef) :: ρ) Γ) : Ex P X n ds (.inRegion ops (List.range' i (l.length + 1)) :: k) ρ Γ := by
  intro t w htn hm hs
  have hlt : d < t.size := by rw [htn]; exact of_decide_eq_true (by simpa [Nat.blt_eq] using hn)
  refine .step (stepR_op_skip (by simp [ho, hw t hm])) ?_
  have hp : ((ops[i]?).bind (·.dst)) = some d := by simp [ho, hdst]
  rw [hp]
  exact h (i + 1) hd (t.setIfInBounds d undef) w (by simpa using htn) (hm.put undef hlt) hs

theorem r_skip {d : Nat} {op : Op} {ty : TypeId} {pos : String} {af : Array Edge} {j : Nat} {b c : Bool} (hg : gd ρ ops j = some (.bool c)) (hbc : (c == b) = false) (hn : Nat.blt d n = true)
    (h : ExR P X n ds ops l k ((d, undef) :: ρ) Γ) : ExR P X n ds ops (⟨some d, op, ty, pos, af, some (j, b)⟩ :: l) k ρ Γ := by
  intro i hi
  obtain ⟨ho, hd⟩ := drop_cons hi
  exact r_pass ho (fun t hm => by
    simp only [Region.wanted, gd_yielded hg hm]
    cases c <;> cases b <;> first | rfl | cases hbc) hd rfl hn h
theorem r_skip' {d : Nat} {op : Op} {ty : TypeId} {pos : String} {af : Array Edge} {j : Nat} {b : Bool} (hg : gd ρ ops j = some undef) (hn : Nat.blt d n = true)
    (h : ExR P X n ds ops l k ((d, undef) :: ρ) Γ) : ExR P X n ds ops (⟨some d, op, ty, pos, af, some (j, b)⟩ :: l) k ρ Γ := by
  intro i hi
  obtain ⟨ho, hd⟩ := drop_cons hi
  exact r_pass ho (fun t hm => by simp [Region.wanted, gd_undef hg hm]) hd rfl hn h

end ops

section ops
variable {P : Program} {X : Cx} {n : Nat} {ds : List Deferred} {ρ : Rho} {Γ : List HP} {Nx : Value → List HP → Prop}
/-- An operation that leaves a value. -/
theorem o_value {d : Nat} {op : Op} {ty : TypeId} (hnd : ∀ c, op ≠ .defer c) (hn : Nat.blt d n = true)
    (h : ∀ (e : Operand → Value) (o : Oper) (w : World), o.op = op → o.type = ty → (∀ x v, ev ρ x = some v → e x = v) → (∀ xs vs, evL ρ xs = some vs → xs.map e = vs) → St X.E Γ w →
      ∃ v w' Γ', (execOp e o).run P w = .ok (.value v) w' ∧ St X.E Γ' w' ∧ Nx v Γ') :
    ExO P X n ds (some d) op ty Nx ρ Γ := by
  intro ops i o rest k ρF hle ho hdst hop hty hw hK t w htn hm hs
  obtain ⟨v, w', Γ', hr, hs', hnext⟩ := h (Act.mk t ds).eval o w hop hty (fun x v hx => (hm.le hle).ev ds hx) (fun xs vs hx => (hm.le hle).evL ds hx) hs
  have hlt : d < t.size := by rw [htn]; exact of_decide_eq_true (by simpa [Nat.blt_eq] using hn)
  refine .step (m' := lone (X.base.atR ⟨t.setIfInBounds d v, ds⟩ (.inRegion ops rest :: k)) X.cs w') (step_lone_go ?_)
    (hK _ _ hnext _ w' (by simpa using htn) (hm.put v hlt) hs')
  rw [stepGR_op ho (hw t hm), Oper.semAt_eq _ _ _ (by rw [hop]; exact hnd)]
  have hfin := Frame.finish_atR X.base ⟨t, ds⟩ ops i rest k v
  have hp : ((ops[i]?).bind (·.dst)) = some d := by simp [ho, hdst]
  rw [hp] at hfin
  simp only [stepG.apply, Sem.runT_eq, hr, if_true, GStep.bare_after, hfin]
  rfl
theorem o_skip {op : Op} {ty : TypeId} (hnd : ∀ c, op ≠ .defer c)
    (h : ∀ (e : Operand → Value) (o : Oper) (w : World), o.op = op → o.type = ty → (∀ x v, ev ρ x = some v → e x = v) → St X.E Γ w →
      ∃ w' Γ', (execOp e o).run P w = .ok .skip w' ∧ St X.E Γ' w' ∧ Nx undef Γ') :
    ExO P X n ds none op ty Nx ρ Γ := by
  intro ops i o rest k ρF hle ho hdst hop hty hw hK t w htn hm hs
  obtain ⟨w', Γ', hr, hs', hnext⟩ := h (Act.mk t ds).eval o w hop hty (fun x v hx => (hm.le hle).ev ds hx) hs
  refine .step (m' := lone (X.base.atR ⟨t, ds⟩ (.inRegion ops rest :: k)) X.cs w') (step_lone_go ?_)
    (hK _ _ hnext _ w' htn hm hs')
  rw [stepGR_op ho (hw t hm), Oper.semAt_eq _ _ _ (by rw [hop]; exact hnd)]
  have hfin := Frame.finish_atR X.base ⟨t, ds⟩ ops i rest k undef
  have hp : ((ops[i]?).bind (·.dst)) = none := by simp [ho, hdst]
  rw [hp] at hfin
  simp only [stepG.apply, Sem.runT_eq, hr, if_true, GStep.bare_after, hfin]
  rfl
theorem ExO.mono {dst : Option Tmp} {op : Op} {ty : TypeId} {Nx Nx' : Value → List HP → Prop} (h : ExO P X n ds dst op ty Nx ρ Γ) (hx : ∀ v Γ', Nx v Γ' → Nx' v Γ') : ExO P X n ds dst op ty Nx' ρ Γ :=
  fun ops i o rest k ρF hle ho hdst hop hty hw hK => h ops i o rest k ρF hle ho hdst hop hty hw fun v Γ' hn => hK v Γ' (hx _ _ hn)
theorem ExO.le {dst : Option Tmp} {op : Op} {ty : TypeId} {ρ' : Rho} (h : ExO P X n ds dst op ty Nx ρ Γ) (hle : leR ρ ρ') : ExO P X n ds dst op ty Nx ρ' Γ :=
  fun ops i o rest k ρF hle' => h ops i o rest k ρF fun i v hv => hle' i v (hle i v hv)

/-- AN OPERATION THAT ONLY LOOKS: its value, whatever the world, as long as that holds what Γ says. -/
def OpV (P : Program) (op : Op) (ty : TypeId) (ρ : Rho) (Γ : List HP) (v : Value) : Prop :=
  (∀ c, op ≠ .defer c) ∧ ∀ (e : Operand → Value) (o : Oper) (E : Env) (w : World), o.op = op → o.type = ty → (∀ x v, ev ρ x = some v → e x = v) → (∀ xs vs, evL ρ xs = some vs → xs.map e = vs) → St E Γ w → (execOp e o).run P w = .ok (.value v) w
theorem o_v {d : Nat} {op : Op} {ty : TypeId} {v : Value} (h : OpV P op ty ρ Γ v) (hn : Nat.blt d n = true) (hx : Nx v Γ) : ExO P X n ds (some d) op ty Nx ρ Γ :=
  o_value h.1 hn fun e o w hop hty he heL hs => ⟨v, w, Γ, h.2 e o X.E w hop hty he heL hs, hs, hx⟩
theorem OpV.weak {op : Op} {ty : TypeId} {v : Value} {Δ : List HP} (h : OpV P op ty ρ Γ v) (he : ∀ E w, St E Δ w → St E Γ w) : OpV P op ty ρ Δ v :=
  ⟨h.1, fun e o E w hop hty h1 h2 hs => h.2 e o E w hop hty h1 h2 (he E w hs)⟩
end ops
end Go.Proofs.Ythneebbmodkjiaa
