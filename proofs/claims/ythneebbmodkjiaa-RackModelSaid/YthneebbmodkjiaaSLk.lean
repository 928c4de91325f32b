/- Regions whose order is open. -/
import Derived.Test.YthneebbmodkjiaaSLj
namespace Go.Proofs.Ythneebbmodkjiaa
open Go.RowKit

/-- An order in which a region's operations may come, from what was done on. -/
inductive Sched (ops : Array Oper) : (Nat → Bool) → List Nat → Prop
  | nil {S : Nat → Bool} (h : ∀ i, i < ops.size → S i = true) : Sched ops S []
  | cons {S : Nat → Bool} {i : Nat} {o : Oper} {L : List Nat} (hi : ops[i]? = some o) (hS : S i = false) (hd : ∀ e ∈ o.after, Region.binds .any e = true → S e.on = true) (h : Sched ops (fun j => S j || j == i) L) : Sched ops S (i :: L)

def acyc : List Oper → Nat → Bool
  | [], _ => true
  | o :: l, i => o.after.all (fun e => !Region.binds .any e || Nat.blt e.on i) && acyc l (i + 1)

theorem acyc_get : ∀ {l : List Oper} {i j : Nat} {o : Oper}, acyc l i = true → l[j]? = some o → ∀ e ∈ o.after, Region.binds .any e = true → e.on < i + j := by
  intro l
  induction l with
  | nil => intro i j o _ h; cases h
  | cons p l ih =>
    intro i j o h hj e he hb
    unfold acyc at h
    simp only [Bool.and_eq_true] at h
    cases j with
    | zero =>
      simp at hj; subst hj
      have := Array.all_eq_true'.1 h.1 e he
      simp [hb, Nat.blt_eq] at this
      omega
    | succ j =>
      have := ih h.2 (by simpa using hj) e he hb
      omega

def unl (m : Nat) (listed : Array Bool) : List Nat := (List.range m).filter fun i => !listed.getD i false

theorem unl_set {m i : Nat} {listed : Array Bool} (hs : listed.size = m) (hi : i < m) (hl : listed.getD i false = false) : (unl m (listed.setIfInBounds i true)).length < (unl m listed).length := by
  have e : unl m (listed.setIfInBounds i true) = (unl m listed).filter (fun j => j != i) := by
    unfold unl
    rw [List.filter_filter]
    apply List.filter_congr
    intro j hj
    have hjm : j < m := List.mem_range.1 hj
    simp only [Array.getD_eq_getD_getElem?, Array.getElem?_setIfInBounds]
    by_cases hji : i = j
    · subst hji; simp [hs, hi]
    · simp [hji, Ne.symm hji]
  rw [e, List.length_filter_lt_length_iff_exists]
  exact ⟨i, by simp [unl, hi]; simpa using hl, by simp⟩

theorem lin_go {ops : Array Oper} (hac : acyc ops.toList 0 = true) : ∀ (fuel t : Nat) (listed : Array Bool) (acc : List Nat), listed.size = ops.size → (unl ops.size listed).length ≤ fuel →
    ∃ L, Region.linearise.go .any ops fuel t listed acc = acc.reverse ++ L ∧ Sched ops (fun i => listed.getD i false) L := by
  intro fuel
  induction fuel with
  | zero =>
    intro t listed acc hs hf
    refine ⟨[], by simp [Region.linearise.go], .nil fun i hi => ?_⟩
    have : unl ops.size listed = [] := List.length_eq_zero_iff.1 (by omega)
    apply Classical.byContradiction; intro hn
    have hm : i ∈ unl ops.size listed := by simp [unl, hi]; simpa using hn
    rw [this] at hm; cases hm
  | succ fuel ih =>
    intro t listed acc hs hf
    obtain ⟨rs, hrs⟩ : ∃ rs, ((List.range ops.size).filter fun i => !listed.getD i true && ((ops[i]?).map (·.after.all fun e => !Region.binds .any e || listed.getD e.on false)).getD false) = rs := ⟨_, rfl⟩
    by_cases hall : unl ops.size listed = []
    · have hrs0 : rs = [] := by
        rw [← hrs, List.filter_eq_nil_iff]
        intro i hi
        have him : i < ops.size := List.mem_range.1 hi
        have hl : listed.getD i false = true := by
          apply Classical.byContradiction; intro hn
          have hm : i ∈ unl ops.size listed := by simp [unl, him]; simpa using hn
          rw [hall] at hm; cases hm
        have hl2 : listed.getD i true = true := by
          simp only [Array.getD_eq_getD_getElem?] at hl ⊢
          rw [Array.getElem?_eq_getElem (by omega)] at hl ⊢; simpa using hl
        simp [hl2]
      refine ⟨[], ?_, .nil fun i hi => ?_⟩
      · unfold Region.linearise.go
        simp only [hrs, hrs0]; simp
      · apply Classical.byContradiction; intro hn
        have hm : i ∈ unl ops.size listed := by simp [unl, hi]; simpa using hn
        rw [hall] at hm; cases hm
    · -- the least one not listed is ready
      have hex : ∃ i, i < ops.size ∧ listed.getD i false = false := by
        obtain ⟨i, hi⟩ := List.exists_mem_of_ne_nil _ hall
        simp [unl] at hi
        exact ⟨i, hi.1, by simpa using hi.2⟩
      obtain ⟨i0, ⟨hi0, hl0⟩, hmin⟩ : ∃ i, (i < ops.size ∧ listed.getD i false = false) ∧ ∀ j, j < i → ¬ (j < ops.size ∧ listed.getD j false = false) := by
        obtain ⟨i, hi⟩ := hex
        induction i using Nat.strongRecOn with
        | _ i ihi =>
          by_cases h : ∃ j, j < i ∧ j < ops.size ∧ listed.getD j false = false
          · obtain ⟨j, hj, hj'⟩ := h; exact ihi j hj hj'
          · exact ⟨i, hi, fun j hj hj' => h ⟨j, hj, hj'⟩⟩
      have hready : ∀ i, i ∈ rs ↔ i < ops.size ∧ listed.getD i false = false ∧ ∃ o, ops[i]? = some o ∧ ∀ e ∈ o.after, Region.binds .any e = true → listed.getD e.on false = true := by
        intro i
        rw [← hrs, List.mem_filter, List.mem_range]
        constructor
        · rintro ⟨hi, h⟩
          rw [Array.getElem?_eq_getElem hi] at h
          simp only [Option.map_some, Option.getD_some, Bool.and_eq_true, Bool.not_eq_true'] at h
          refine ⟨hi, ?_, ops[i], Array.getElem?_eq_getElem hi, fun e he hb => ?_⟩
          · have := h.1
            simp only [Array.getD_eq_getD_getElem?] at this ⊢
            rw [Array.getElem?_eq_getElem (by omega)] at this ⊢; simpa using this
          · have := Array.all_eq_true'.1 h.2 e he
            simpa [hb] using this
        · rintro ⟨hi, hl, o, ho, hd⟩
          refine ⟨hi, ?_⟩
          rw [ho]
          simp only [Option.map_some, Option.getD_some, Bool.and_eq_true, Bool.not_eq_true']
          refine ⟨?_, Array.all_eq_true'.2 fun e he => ?_⟩
          · simp only [Array.getD_eq_getD_getElem?] at hl ⊢
            rw [Array.getElem?_eq_getElem (by omega)] at hl ⊢; simpa using hl
          · cases hb : Region.binds .any e with
            | false => simp
            | true => simp [hd e he hb]
      have hi0r : i0 ∈ rs := (hready i0).2 ⟨hi0, hl0, ops[i0], Array.getElem?_eq_getElem hi0, fun e he hb => by
        have hlt := acyc_get hac (j := i0) (o := ops[i0]) (by simp [hi0]) e he hb
        have := hmin e.on (by omega)
        apply Classical.byContradiction; intro hn
        exact this ⟨by omega, by simpa using hn⟩⟩
      have hlen : 0 < rs.length := List.length_pos_of_mem hi0r
      have hlt : t % rs.length < rs.length := Nat.mod_lt _ hlen
      obtain ⟨i, hi⟩ : ∃ i, rs[t % rs.length]? = some i := ⟨_, List.getElem?_eq_getElem hlt⟩
      obtain ⟨him, hil, o, ho, hd⟩ := (hready i).1 (List.mem_of_getElem? hi)
      obtain ⟨L, hL, hsc⟩ := ih (t / rs.length) (listed.setIfInBounds i true) (i :: acc) (by simpa using hs) (by have := unl_set hs him hil; omega)
      refine ⟨i :: L, ?_, .cons ho hil hd ?_⟩
      · unfold Region.linearise.go
        simp only [hrs, hi]
        rw [hL]; simp
      · have e : (fun j => (listed.setIfInBounds i true).getD j false) = (fun j => listed.getD j false || j == i) := by
          funext j
          simp only [Array.getD_eq_getD_getElem?, Array.getElem?_setIfInBounds]
          by_cases hj : i = j
          · subst hj; simp [hs, him]
          · simp [hj, Ne.symm hj]
        rw [← e]; exact hsc

theorem sched_of {ops : Array Oper} (hac : acyc ops.toList 0 = true) (t : Nat) : Sched ops (fun _ => false) (Region.schedule true ops t) := by
  obtain ⟨L, hL, hs⟩ := lin_go hac ops.size t (Array.replicate ops.size false) [] (by simp) (by
    have := List.length_filter_le (fun i => !(Array.replicate ops.size false).getD i false) (List.range ops.size)
    simpa [unl] using this)
  have e : (fun i => (Array.replicate ops.size false).getD i false) = fun _ => false := by
    funext i; simp [Array.getD_eq_getD_getElem?, Array.getElem?_replicate]; split <;> rfl
  rw [e] at hs
  have : Region.schedule true ops t = L := by
    unfold Region.schedule Region.linearise
    simp [hL]
  rw [this]; exact hs

section draw
variable {P : Program} {X : Cx} {n : Nat} {ds : List Deferred} {k : List Item} {ρ : Rho} {Γ : List HP}

/-- One operation of such a region, its guard looked at. -/
inductive OpStep (P : Program) (X : Cx) (n : Nat) (ds : List Deferred) (ops : Array Oper) (o : Oper) (Nx : Rho → List HP → Prop) (ρ : Rho) (Γ : List HP) : Prop
  | plain (hg : o.guard = none) (h : ExO P X n ds o.dst o.op o.type (fun v Γ' => Nx (put o.dst v ρ) Γ') ρ Γ)
  | guarded {j : Nat} {b : Bool} (hg : o.guard = some (j, b)) (hv : gd ρ ops j = some (.bool b)) (h : ExO P X n ds o.dst o.op o.type (fun v Γ' => Nx (put o.dst v ρ) Γ') ρ Γ)
  | passed {j : Nat} {b : Bool} {v : Value} (hg : o.guard = some (j, b)) (hv : gd ρ ops j = some v) (hb : v = .bool (!b) ∨ v = undef) (hd : ∀ d, o.dst = some d → Nat.blt d n = true) (h : Nx (put o.dst undef ρ) Γ)

def AllOps (Q : Nat → Oper → Prop) : Nat → List Oper → Prop
  | _, [] => True
  | i, o :: l => Q i o ∧ AllOps Q (i + 1) l
theorem AllOps.get {Q : Nat → Oper → Prop} : ∀ {l : List Oper} {i j : Nat} {o : Oper}, AllOps Q i l → l[j]? = some o → Q (i + j) o := by
  intro l
  induction l with
  | nil => intro i j o _ h; cases h
  | cons p l ih =>
    intro i j o h hj
    cases j with
    | zero => simp at hj; subst hj; exact h.1
    | succ j => have := ih h.2 (show l[j]? = some o by simpa using hj); rw [show i + (j + 1) = i + 1 + j by omega]; exact this

/-- A REGION WHOSE ORDER IS OPEN: what holds (J) when just the operations of S are done, in whatever order. -/
theorem x_draw' {id : Nat} {l : List Oper} (hm : P.follows .mixedOrders = true) (hac : acyc l 0 = true) (J : (Nat → Bool) → Rho → List HP → Prop) (h0 : J (fun _ => false) ρ Γ)
    (hstep : ∀ i o, l[i]? = some o → ∀ S ρ Γ, S i = false → (∀ e ∈ o.after, Region.binds .any e = true → S e.on = true) → J S ρ Γ → OpStep P X n ds l.toArray o (J fun j => S j || j == i) ρ Γ)
    (hend : ∀ S ρ Γ, (∀ i, i < l.length → S i = true) → J S ρ Γ → Ex P X n ds k ρ Γ) :
    Ex P X n ds (.code (.region id l.toArray true) :: k) ρ Γ := by
  have key : ∀ S L, Sched l.toArray S L → ∀ ρ Γ, J S ρ Γ → Ex P X n ds (.inRegion l.toArray L :: k) ρ Γ := by
    intro S L hs
    induction hs with
    | nil h => exact fun ρ Γ hJ t w htn hmt hst => .step stepR_region_end (hend _ ρ Γ (fun i hi => h i (by simpa using hi)) hJ t w htn hmt hst)
    | @cons S i o L hi hS hd _ ih =>
      intro ρ Γ hJ
      have ho : l[i]? = some o := by simpa using hi
      have := hstep i o ho S ρ Γ hS hd hJ
      cases this with
      | plain hg h => exact h l.toArray i o L k ρ (.refl ρ) hi rfl rfl rfl (fun t _ => by simp [Region.wanted, hg]) (fun v Γ' hN => ih _ Γ' hN)
      | guarded hg hv h => exact h l.toArray i o L k ρ (.refl ρ) hi rfl rfl rfl (fun t hmt => by simp [Region.wanted, hg, gd_yielded hv hmt]) (fun v Γ' hN => ih _ Γ' hN)
      | @passed j b v hg hv hb hdst h =>
        intro t w htn hmt hst
        have hw : Region.wanted o (yielded l.toArray t) = false := by
          rcases hb with rfl | rfl
          · simp only [Region.wanted, hg, gd_yielded hv hmt]; cases b <;> rfl
          · simp [Region.wanted, hg, gd_undef hv hmt]
        refine .step (stepR_op_skip (by simp [hi, hw])) ?_
        cases hdd : o.dst with
        | none =>
          have hp : ((l.toArray[i]?).bind (·.dst)) = none := by simp [ho, hdd]
          rw [hp]
          rw [hdd] at h
          exact ih _ _ h t w htn hmt hst
        | some d =>
          have hp : ((l.toArray[i]?).bind (·.dst)) = some d := by simp [ho, hdd]
          rw [hp]
          rw [hdd] at h
          have hn := hdst d hdd
          have hlt : d < t.size := by rw [htn]; exact of_decide_eq_true (by simpa [Nat.blt_eq] using hn)
          exact ih _ _ h (t.setIfInBounds d undef) w (by simpa using htn) (hmt.put undef hlt) hst
  intro t w htn hmt hst
  refine .step stepR_region_draw ?_
  rw [hm]
  exact key _ _ (sched_of (ops := l.toArray) hac _) ρ Γ h0 t _ htn hmt hst.drew
theorem x_draw {id : Nat} {l : List Oper} (hm : P.follows .mixedOrders = true) (hac : acyc l 0 = true) (J : (Nat → Bool) → Rho → List HP → Prop) (h0 : J (fun _ => false) ρ Γ)
    (hstep : AllOps (fun i o => ∀ S ρ Γ, S i = false → (∀ e ∈ o.after, Region.binds .any e = true → S e.on = true) → J S ρ Γ → OpStep P X n ds l.toArray o (J fun j => S j || j == i) ρ Γ) 0 l)
    (hend : ∀ S ρ Γ, (∀ i, i < l.length → S i = true) → J S ρ Γ → Ex P X n ds k ρ Γ) :
    Ex P X n ds (.code (.region id l.toArray true) :: k) ρ Γ :=
  x_draw' hm hac J h0 (fun i o ho S ρ Γ hS hd hJ => by have := hstep.get ho S ρ Γ (by simpa using hS) hd hJ; rw [Nat.zero_add] at this; exact this) hend

/-! ### A script for such a region -/
def emask (ms : List Nat) : List Edge → Nat
  | [] => 0
  | e :: es => match Region.binds .any e with
    | true => (1 <<< e.on) ||| ms.getD e.on 0 ||| emask ms es
    | false => emask ms es
def masks : List Oper → List Nat → List Nat
  | [], ms => ms
  | o :: l, ms => masks l (ms ++ [emask ms o.after.toList])

def Closed (l : List Oper) (S : Nat → Bool) : Prop := ∀ (j : Nat) (o : Oper), l[j]? = some o → S j = true → ∀ e ∈ o.after, Region.binds .any e = true → S e.on = true

theorem emask_bit {ms : List Nat} {c : Nat} : ∀ {es : List Edge}, (emask ms es).testBit c = true → ∃ e ∈ es, Region.binds .any e = true ∧ (c = e.on ∨ (ms.getD e.on 0).testBit c = true) := by
  intro es
  induction es with
  | nil => intro h; simp [emask] at h
  | cons e es ih =>
    intro h
    unfold emask at h
    cases hb : Region.binds .any e with
    | false =>
      rw [hb] at h
      obtain ⟨e', he', h'⟩ := ih h
      exact ⟨e', List.mem_cons_of_mem _ he', h'⟩
    | true =>
      rw [hb] at h
      simp only [Nat.testBit_or, Bool.or_eq_true] at h
      rcases h with (h | h) | h
      · refine ⟨e, List.mem_cons_self .., hb, .inl ?_⟩
        rw [Nat.one_shiftLeft, Nat.testBit_two_pow] at h
        exact (of_decide_eq_true h).symm
      · exact ⟨e, List.mem_cons_self .., hb, .inr h⟩
      · obtain ⟨e', he', h'⟩ := ih h
        exact ⟨e', List.mem_cons_of_mem _ he', h'⟩

theorem masks_length : ∀ (l : List Oper) (ms : List Nat), (masks l ms).length = ms.length + l.length := by
  intro l
  induction l with
  | nil => intro ms; simp [masks]
  | cons o l ih => intro ms; simp [masks, ih]; omega
theorem masks_pre : ∀ (l : List Oper) (ms : List Nat) (j : Nat), j < ms.length → (masks l ms)[j]? = ms[j]? := by
  intro l
  induction l with
  | nil => intro ms j _; rfl
  | cons o l ih => intro ms j hj; rw [masks, ih _ _ (by simp; omega), List.getElem?_append_left hj]
theorem masks_get : ∀ (l : List Oper) (ms : List Nat) (j : Nat) (o : Oper), l[j]? = some o → ∃ ms', (∀ i, i < ms.length + j → ms'[i]? = (masks l ms)[i]?) ∧ ms'.length = ms.length + j ∧ (masks l ms)[ms.length + j]? = some (emask ms' o.after.toList) := by
  intro l
  induction l with
  | nil => intro ms j o h; cases h
  | cons p l ih =>
    intro ms j o h
    cases j with
    | zero =>
      simp at h; subst h
      refine ⟨ms, fun i hi => ?_, rfl, ?_⟩
      · rw [masks, masks_pre _ _ _ (by simp; omega), List.getElem?_append_left (by simpa using hi)]
      · rw [masks, masks_pre _ _ _ (by simp)]; simp
    | succ j =>
      obtain ⟨ms', h1, h2, h3⟩ := ih (ms ++ [emask ms p.after.toList]) j o (by simpa using h)
      simp at h1 h2 h3
      refine ⟨ms', fun i hi => ?_, by omega, ?_⟩
      · rw [masks]; exact h1 i (by omega)
      · rw [masks, show ms.length + (j + 1) = ms.length + 1 + j by omega]; exact h3

theorem closed_mask {l : List Oper} (hac : acyc l 0 = true) {S : Nat → Bool} (hS : Closed l S) : ∀ (j : Nat), j < l.length → S j = true → ∀ c, ((masks l []).getD j 0).testBit c = true → S c = true := by
  intro j
  induction j using Nat.strongRecOn with
  | _ j ih =>
    intro hj hSj c hc
    obtain ⟨ms', h1, h2, h3⟩ := masks_get l [] j l[j] (List.getElem?_eq_getElem hj)
    simp at h1 h2 h3
    rw [List.getD_eq_getElem?_getD, h3] at hc
    obtain ⟨e, he, hb, h⟩ := emask_bit (by simpa using hc)
    have he' : e ∈ l[j].after := by simpa using he
    have hSe := hS j _ (List.getElem?_eq_getElem hj) hSj e he' hb
    have hlt := acyc_get hac (List.getElem?_eq_getElem hj) e he' hb
    rcases h with rfl | h
    · exact hSe
    · refine ih e.on (by omega) (by omega) hSe c ?_
      rw [List.getD_eq_getElem?_getD, ← h1 e.on (by omega), ← List.getD_eq_getElem?_getD]; exact h

/-- What an operation finds in its slots of those that it must come behind. acc: what those that were done have left. -/
def depR (l : List Oper) (acc : Rho) : List Edge → Rho
  | [] => []
  | e :: es => match Region.binds .any e, (l[e.on]?).bind (·.dst), lk acc e.on with
    | true, some d, some v => (d, v) :: depR l acc es
    | _, _, _ => depR l acc es
def dstsOf (l : List Oper) : List Nat := l.filterMap (·.dst)
def memB (x : Nat) : List Nat → Bool
  | [] => false
  | y :: ys => Nat.beq x y || memB x ys
theorem memB_iff {x : Nat} {ys : List Nat} : memB x ys = true ↔ x ∈ ys := by
  induction ys with
  | nil => simp [memB]
  | cons y ys ih => simp [memB, ih]
def nodB : List Nat → Bool
  | [] => true
  | x :: xs => !memB x xs && nodB xs
theorem nodB_iff {xs : List Nat} : nodB xs = true ↔ xs.Nodup := by
  induction xs with
  | nil => simp [nodB]
  | cons x xs ih =>
    simp only [nodB, Bool.and_eq_true, Bool.not_eq_true', ih, List.nodup_cons]
    rw [← memB_iff]; simp
/-- Whoever writes this slot comes behind operation i. -/
def okS (l : List Oper) (ms : List Nat) (i s : Nat) : Nat → List Oper → Bool
  | _, [] => true
  | j, o :: r => (match o.dst with
    | some d => match Nat.beq d s with
      | true => (ms.getD j 0).testBit i
      | false => true
    | none => true) && okS l ms i s (j + 1) r
theorem okS_spec {l : List Oper} {ms : List Nat} {i s : Nat} : ∀ {r : List Oper} {j : Nat}, okS l ms i s j r = true → ∀ c, (r[c]?).bind (·.dst) = some s → (ms.getD (j + c) 0).testBit i = true := by
  intro r
  induction r with
  | nil => intro j _ c hc; simp at hc
  | cons o r ih =>
    intro j h c hc
    unfold okS at h
    rw [Bool.and_eq_true] at h
    cases c with
    | zero =>
      have hd : o.dst = some s := by simpa using hc
      have h1 := h.1
      rw [hd] at h1
      simp only [Nat.beq_refl] at h1
      simpa using h1
    | succ c =>
      have := ih h.2 c (by simpa using hc)
      rwa [show j + (c + 1) = j + 1 + c by omega]
def keepS (l : List Oper) (i : Nat) : Rho → Rho
  | [] => []
  | (s, v) :: r => match okS l (masks l []) i s 0 l with
    | true => (s, v) :: keepS l i r
    | false => keepS l i r
theorem keepS_lk {l : List Oper} {i s : Nat} {v : Value} : ∀ {r : Rho}, lk (keepS l i r) s = some v → lk r s = some v ∧ okS l (masks l []) i s 0 l = true := by
  intro r
  induction r with
  | nil => intro h; cases h
  | cons p r ih =>
    obtain ⟨s', v'⟩ := p
    intro h
    unfold keepS at h
    cases hb : okS l (masks l []) i s' 0 l with
    | true =>
      rw [hb] at h
      unfold lk at h ⊢
      cases he : Nat.beq s' s with
      | true =>
        rw [he] at h
        have := Nat.eq_of_beq_eq_true he
        subst this
        exact ⟨h, hb⟩
      | false => rw [he] at h; exact ih h
    | false =>
      rw [hb] at h
      obtain ⟨h1, h2⟩ := ih h
      refine ⟨?_, h2⟩
      unfold lk
      cases he : Nat.beq s' s with
      | true =>
        have := Nat.eq_of_beq_eq_true he
        subst this
        rw [h2] at hb; cases hb
      | false => exact h1
/-- The slots that operation i may look into: what came before the region (from m on: but what another operation may have written over by then), what it must come behind. -/
def envOf (l : List Oper) (m : Nat) (base acc : Rho) (i : Nat) (es : List Edge) : Rho := depR l acc es ++ (match Nat.blt i m with | true => base | false => keepS l i base)
def accR (l : List Oper) : Rho → Rho
  | [] => []
  | (i, v) :: r => match (l[i]?).bind (·.dst) with
    | some d => (d, v) :: accR l r
    | none => accR l r

def afterAll (ms : List Nat) : List (Nat × Bool) → Bool
  | [] => true
  | (c, true) :: r => r.all (fun p => (ms.getD p.1 0).testBit c) && afterAll ms r
  | (_, false) :: r => afterAll ms r
def gOk (l : List Oper) : Bool := l.all fun o => match o.guard with
  | none => true
  | some (j, _) => o.after.any (fun e => Nat.beq e.on j && Region.binds .any e) && ((l[j]?).bind (·.dst)).isSome
/-- The script's own conditions: all operations, each once; what writes or makes memory in an order that is forced; the last ones (from m on) behind all others. -/
def scrOk (l : List Oper) (m : Nat) (π : List (Nat × Bool)) : Bool :=
  acyc l 0 && nodB (π.map (·.1)) && (List.range l.length).all (fun i => memB i (π.map (·.1))) && afterAll (masks l []) π && nodB (dstsOf l) && gOk l && π.all (fun c => !c.2 || Nat.blt c.1 m || π.all (fun p => p.2 || ((masks l []).getD c.1 0).testBit p.1))
/-- Whoever writes a slot that is known before comes behind the first m. -/
def wrOk (ms : List Nat) (m s : Nat) : Nat → List Oper → Bool
  | _, [] => true
  | j, o :: r => (match o.dst with
    | some d => match Nat.beq d s with
      | true => (List.range m).all fun i => (ms.getD j 0).testBit i
      | false => true
    | none => true) && wrOk ms m s (j + 1) r
theorem wrOk_spec {ms : List Nat} {m s : Nat} : ∀ {r : List Oper} {j : Nat}, wrOk ms m s j r = true → ∀ c, (r[c]?).bind (·.dst) = some s → ∀ i, i < m → (ms.getD (j + c) 0).testBit i = true := by
  intro r
  induction r with
  | nil => intro j _ c hc; simp at hc
  | cons o r ih =>
    intro j h c hc i hi
    unfold wrOk at h
    rw [Bool.and_eq_true] at h
    cases c with
    | zero =>
      have hd : o.dst = some s := by simpa using hc
      have h1 := h.1
      rw [hd] at h1
      simp only [Nat.beq_refl] at h1
      have := List.all_eq_true.1 h1 i (List.mem_range.2 hi)
      simpa using this
    | succ c =>
      have := ih h.2 c (by simpa using hc) i hi
      rwa [show j + (c + 1) = j + 1 + c by omega]
def baseOk (l : List Oper) (m : Nat) : Rho → Bool
  | [] => true
  | (s, _) :: r => wrOk (masks l []) m s 0 l && baseOk l m r

/-- A guard's word, and the value where it forbids. -/
def GV (P : Program) (acc : Rho) (o : Oper) (ρ : Rho) (F : List HP) (v : Value) : Prop := match o.guard with
  | none => OpV P o.op o.type ρ F v
  | some (j, b) => (lk acc j = some (.bool b) ∧ OpV P o.op o.type ρ F v) ∨ ((lk acc j = some (.bool (!b)) ∨ lk acc j = some undef) ∧ v = undef)

def Scr (P : Program) (X : Cx) (n : Nat) (ds : List Deferred) (l : List Oper) (m : Nat) (base : Rho) (F : List HP) (k : List Item) : List (Nat × Bool) → Rho → List HP → Prop
  | [], acc, Γ => Ex P X n ds k (accR l acc ++ base) Γ
  | (i, false) :: π, acc, Γ => ∃ o v, l[i]? = some o ∧ GV P acc o (envOf l m base acc i o.after.toList) F v ∧ Scr P X n ds l m base F k π ((i, v) :: acc) Γ
  | (i, true) :: π, acc, Γ => ∃ o, l[i]? = some o ∧ (o.guard = none ∨ ∃ j b, o.guard = some (j, b) ∧ lk acc j = some (.bool b)) ∧
      ExO P X n ds o.dst o.op o.type (fun v Γ' => (Nat.ble m i = true ∨ ∃ Δ, Γ'.Perm (F ++ Δ)) ∧ Scr P X n ds l m base F k π ((i, v) :: acc) Γ') (envOf l m base acc i o.after.toList) Γ

theorem lk_cons_ne {r : Rho} {i j : Nat} {v : Value} (h : i ≠ j) : lk ((i, v) :: r) j = lk r j := by
  conv => lhs; unfold lk
  cases hb : Nat.beq i j with
  | true => exact absurd (Nat.eq_of_beq_eq_true hb) h
  | false => rfl
theorem lk_cons_eq {r : Rho} {i : Nat} {v : Value} : lk ((i, v) :: r) i = some v := by
  unfold lk; rw [Nat.beq_refl]
theorem lk_app {r r' : Rho} {s : Nat} {v : Value} (h : lk (r ++ r') s = some v) : lk r s = some v ∨ (lk r s = none ∧ lk r' s = some v) := by
  induction r with
  | nil => exact .inr ⟨rfl, h⟩
  | cons p r ih =>
    obtain ⟨i, u⟩ := p
    rw [List.cons_append] at h
    by_cases e : i = s
    · subst e; rw [lk_cons_eq] at h; rw [lk_cons_eq]; exact .inl h
    · rw [lk_cons_ne e] at h; rw [lk_cons_ne e]; exact ih h
theorem depR_lk {l : List Oper} {acc : Rho} {s : Nat} {u : Value} : ∀ {es : List Edge}, lk (depR l acc es) s = some u → ∃ e ∈ es, Region.binds .any e = true ∧ (l[e.on]?).bind (·.dst) = some s ∧ lk acc e.on = some u := by
  intro es
  induction es with
  | nil => intro h; cases h
  | cons e es ih =>
    intro h
    unfold depR at h
    split at h
    · rename_i d v h1 h2 h3
      unfold lk at h
      cases hb : Nat.beq d s with
      | true =>
        rw [hb] at h
        have := Nat.eq_of_beq_eq_true hb
        subst this
        exact ⟨e, List.mem_cons_self .., h1, h2, by rw [h3]; exact h⟩
      | false => rw [hb] at h; obtain ⟨e', he', h'⟩ := ih h; exact ⟨e', List.mem_cons_of_mem _ he', h'⟩
    · obtain ⟨e', he', h'⟩ := ih h; exact ⟨e', List.mem_cons_of_mem _ he', h'⟩
theorem accR_lk {l : List Oper} {s : Nat} {u : Value} : ∀ {acc : Rho}, (acc.map (·.1)).Nodup → lk (accR l acc) s = some u → ∃ i, (l[i]?).bind (·.dst) = some s ∧ lk acc i = some u := by
  intro acc
  induction acc with
  | nil => intro _ h; cases h
  | cons p acc ih =>
    obtain ⟨i, v⟩ := p
    intro hn h
    rw [List.map_cons, List.nodup_cons] at hn
    have step : lk (accR l acc) s = some u → ∃ j, (l[j]?).bind (·.dst) = some s ∧ lk ((i, v) :: acc) j = some u := fun h => by
      obtain ⟨j, h1, h2⟩ := ih hn.2 h
      refine ⟨j, h1, ?_⟩
      rw [lk_cons_ne]
      · exact h2
      · rintro rfl
        apply hn.1
        have : ∀ (r : Rho) (j : Nat) (u : Value), lk r j = some u → j ∈ r.map (·.1) := by
          intro r
          induction r with
          | nil => intro j u h; cases h
          | cons q r ihr =>
            obtain ⟨a, b⟩ := q
            intro j u h
            unfold lk at h
            cases hb : Nat.beq a j with
            | true => have := Nat.eq_of_beq_eq_true hb; subst this; simp
            | false => rw [hb] at h; exact List.mem_cons_of_mem _ (ihr j u h)
        exact this _ _ _ h2
    unfold accR at h
    split at h
    · rename_i d hd
      unfold lk at h
      cases hb : Nat.beq d s with
      | true =>
        rw [hb] at h
        have := Nat.eq_of_beq_eq_true hb
        subst this
        exact ⟨i, hd, by rw [lk_cons_eq]; exact h⟩
      | false => rw [hb] at h; exact step h
    · exact step h

structure Inv (P : Program) (X : Cx) (n : Nat) (ds : List Deferred) (l : List Oper) (m : Nat) (base : Rho) (F : List HP) (k : List Item) (π : List (Nat × Bool)) (S : Nat → Bool) (ρ : Rho) (Γ : List HP) (π1 π2 : List (Nat × Bool)) (acc : Rho) : Prop where
  split : π = π1 ++ π2
  scr : Scr P X n ds l m base F k π2 acc Γ
  facts : ∀ i b, (i, b) ∈ π1 → ∃ v o, lk acc i = some v ∧ l[i]? = some o ∧ (b = true → S i = true) ∧ (b = false → ∃ acc0, leR acc0 acc ∧ GV P acc0 o (envOf l m base acc0 i o.after.toList) F v)
  dom : acc.map (·.1) = (π1.map (·.1)).reverse
  done : ∀ i, S i = true → i ∈ π1.map (·.1)
  vals : ∀ i v d, S i = true → lk acc i = some v → (l[i]?).bind (·.dst) = some d → lk ρ d = some v
  bas : ∀ s v, lk base s = some v → (∀ j, (l[j]?).bind (·.dst) = some s → S j = false) → lk ρ s = some v
  clo : Closed l S
  fr : (∃ t, m ≤ t ∧ S t = true ∧ (t, true) ∈ π) ∨ ∃ Δ, Γ.Perm (F ++ Δ)

theorem lk_dom {r : Rho} {j : Nat} {u : Value} (h : lk r j = some u) : j ∈ r.map (·.1) := by
  induction r with
  | nil => cases h
  | cons q r ih =>
    obtain ⟨a, b⟩ := q
    unfold lk at h
    cases hb : Nat.beq a j with
    | true => have := Nat.eq_of_beq_eq_true hb; subst this; simp
    | false => rw [hb] at h; exact List.mem_cons_of_mem _ (ih h)

/-- On through what only looks. -/
theorem Inv.pure {l : List Oper} {m : Nat} {base : Rho} {F : List HP} {π : List (Nat × Bool)} {S : Nat → Bool} (hnd : (π.map (·.1)).Nodup) : ∀ (π2 π1 : List (Nat × Bool)) (acc : Rho), Inv P X n ds l m base F k π S ρ Γ π1 π2 acc →
    ∃ π1' π2' acc', Inv P X n ds l m base F k π S ρ Γ π1' π2' acc' ∧ (π2' = [] ∨ ∃ c r, π2' = (c, true) :: r) := by
  intro π2
  induction π2 with
  | nil => exact fun π1 acc I => ⟨π1, [], acc, I, .inl rfl⟩
  | cons p π2 ih =>
    obtain ⟨i, b⟩ := p
    intro π1 acc I
    cases b with
    | true => exact ⟨π1, _, acc, I, .inr ⟨i, π2, rfl⟩⟩
    | false =>
      obtain ⟨o, v, ho, hg, hs⟩ := I.scr
      have hni : i ∉ π1.map (·.1) := by
        have := hnd
        rw [I.split, List.map_append, List.map_cons, List.nodup_append] at this
        intro hm
        exact this.2.2 i hm i (List.mem_cons_self ..) rfl
      have hacc : lk acc i = none := by
        cases h : lk acc i with
        | none => rfl
        | some u => have := lk_dom h; rw [I.dom] at this; exact absurd (by simpa using this) hni
      have hle : leR acc ((i, v) :: acc) := fun j u hj => by
        rw [lk_cons_ne]
        · exact hj
        · rintro rfl; rw [hacc] at hj; cases hj
      refine ih (π1 ++ [(i, false)]) ((i, v) :: acc) ⟨by rw [I.split]; simp, hs, ?_, by simp [I.dom], ?_, ?_, I.bas, I.clo, I.fr⟩
      · intro j b hj
        rw [List.mem_append] at hj
        rcases hj with hj | hj
        · obtain ⟨u, o', h1, h2, h3, h4⟩ := I.facts j b hj
          refine ⟨u, o', hle j u h1, h2, h3, fun hb => ?_⟩
          obtain ⟨acc0, h5, h6⟩ := h4 hb
          exact ⟨acc0, fun a c hc => hle a c (h5 a c hc), h6⟩
        · have e : (j, b) = (i, false) := by simpa using hj
          cases e
          exact ⟨v, o, lk_cons_eq, ho, (fun h => by cases h), fun _ => ⟨acc, hle, hg⟩⟩
      · intro j hj; rw [List.map_append]; exact List.mem_append_left _ (I.done j hj)
      · intro j u d hS hj hd
        have hji : i ≠ j := by rintro rfl; exact hni (I.done _ hS)
        rw [lk_cons_ne hji] at hj
        exact I.vals j u d hS hj hd

theorem Scr.sound_env {l : List Oper} {m : Nat} {base : Rho} {F : List HP} {π π1 π2 : List (Nat × Bool)} {S : Nat → Bool} {acc acc0 : Rho} {i : Nat} {o : Oper} (I : Inv P X n ds l m base F k π S ρ Γ π1 π2 acc) (hle : leR acc0 acc)
    (hd : ∀ e ∈ o.after, Region.binds .any e = true → S e.on = true) (hb : ∀ s v, lk base s = some v → ∀ j, (l[j]?).bind (·.dst) = some s → ∀ i, i < m → ((masks l []).getD j 0).testBit i = true)
    (hcl : ∀ j, ((masks l []).getD j 0).testBit i = true → S j = false) : leR (envOf l m base acc0 i o.after.toList) ρ := by
  intro s u h
  unfold envOf at h
  rcases lk_app h with h | ⟨_, h⟩
  · obtain ⟨e, he, hb, h1, h2⟩ := depR_lk h
    exact I.vals e.on u s (hd e (by simpa using he) hb) (hle _ _ h2) h1
  · cases hm : Nat.blt i m with
    | true =>
      rw [hm] at h
      have him : i < m := by simpa [Nat.blt_eq] using hm
      exact I.bas s u h fun j hj => hcl j (hb s u h j hj i him)
    | false =>
      rw [hm] at h
      obtain ⟨h1, h2⟩ := keepS_lk h
      exact I.bas s u h1 fun j hj => hcl j (by have := okS_spec h2 j hj; simpa using this)

theorem dsts_mem {l : List Oper} {i d : Nat} (h : (l[i]?).bind (·.dst) = some d) : d ∈ dstsOf l := by
  cases ho : l[i]? with
  | none => simp [ho] at h
  | some o => simp [ho] at h; exact List.mem_filterMap.2 ⟨o, List.mem_of_getElem? ho, h⟩
theorem dsts_inj {l : List Oper} : ∀ {i j d : Nat}, (dstsOf l).Nodup → (l[i]?).bind (·.dst) = some d → (l[j]?).bind (·.dst) = some d → i = j := by
  induction l with
  | nil => intro i j d _ h; simp at h
  | cons o l ih =>
    intro i j d hn hi hj
    unfold dstsOf at hn
    rw [List.filterMap_cons] at hn
    have hn' : (dstsOf l).Nodup := by
      split at hn
      · exact hn
      · exact (List.nodup_cons.1 hn).2
    cases i with
    | zero =>
      cases j with
      | zero => rfl
      | succ j =>
        simp at hi hj
        rw [hi] at hn
        exact absurd (dsts_mem (l := l) (i := j) (by simpa using hj)) (List.nodup_cons.1 hn).1
    | succ i =>
      cases j with
      | zero =>
        simp at hi hj
        rw [hj] at hn
        exact absurd (dsts_mem (l := l) (i := i) (by simpa using hi)) (List.nodup_cons.1 hn).1
      | succ j => exact congrArg (· + 1) (ih (d := d) hn' (by simpa using hi) (by simpa using hj))

theorem baseOk_spec {l : List Oper} {m : Nat} : ∀ {base : Rho}, baseOk l m base = true → ∀ s v, lk base s = some v → ∀ j, (l[j]?).bind (·.dst) = some s → ∀ i, i < m → ((masks l []).getD j 0).testBit i = true := by
  intro base
  induction base with
  | nil => intro _ s v h; cases h
  | cons p base ih =>
    obtain ⟨s', v'⟩ := p
    intro h s v hl j hj i hi
    unfold baseOk at h
    rw [Bool.and_eq_true] at h
    unfold lk at hl
    cases hb : Nat.beq s' s with
    | true =>
      have e := Nat.eq_of_beq_eq_true hb
      subst e
      have := wrOk_spec h.1 j hj i hi
      simpa using this
    | false => rw [hb] at hl; exact ih h.2 s v hl j hj i hi

theorem accR_some {l : List Oper} {i d : Nat} (hd : (l[i]?).bind (·.dst) = some d) : ∀ {acc : Rho}, i ∈ acc.map (·.1) → lk (accR l acc) d ≠ none := by
  intro acc
  induction acc with
  | nil => intro h; cases h
  | cons p acc ih =>
    obtain ⟨j, v⟩ := p
    intro h
    unfold accR
    by_cases e : i = j
    · subst e
      rw [hd]
      simp only
      rw [lk_cons_eq]; simp
    · have h' : i ∈ acc.map (·.1) := by
        rw [List.map_cons, List.mem_cons] at h
        exact h.resolve_left e
      split
      · rename_i d' _
        by_cases e' : d' = d
        · subst e'; rw [lk_cons_eq]; simp
        · rw [lk_cons_ne e']; exact ih h'
      · exact ih h'

theorem accR_app_le {l : List Oper} {m : Nat} {base : Rho} {F : List HP} {π π1 π2 : List (Nat × Bool)} {S : Nat → Bool} {acc : Rho} (I : Inv P X n ds l m base F k π S ρ Γ π1 π2 acc) (hnd : (π1.map (·.1)).Nodup) (hall : ∀ i, i ∈ π1.map (·.1) → S i = true) (hful : ∀ i, i < l.length → i ∈ π1.map (·.1)) : leR (accR l acc ++ base) ρ := by
  intro s v h
  have hn : (acc.map (·.1)).Nodup := by rw [I.dom]; exact (List.reverse_perm _).nodup_iff.2 hnd
  rcases lk_app h with h | ⟨h0, h⟩
  · obtain ⟨i, h1, h2⟩ := accR_lk hn h
    have hm := lk_dom h2
    rw [I.dom] at hm
    exact I.vals i v s (hall i (by simpa using hm)) h2 h1
  · by_cases hs : s ∈ dstsOf l
    · exfalso
      obtain ⟨o, ho, hd⟩ := List.mem_filterMap.1 hs
      obtain ⟨i, hi⟩ := List.getElem?_of_mem ho
      refine accR_some (l := l) (i := i) (d := s) (by simp [hi, hd]) ?_ h0
      rw [I.dom]
      simpa using hful i (List.getElem?_eq_some_iff.1 hi).1
    · exact I.bas s v h fun j hj => absurd (dsts_mem hj) hs

/-- A REGION WHOSE ORDER IS OPEN, BY A SCRIPT: m: from where on the operations come behind all others; π: an order in which to think of them (true: those that write or make memory); F: what those that only look lean on. -/
theorem x_script {id : Nat} {l : List Oper} (m : Nat) (π : List (Nat × Bool)) (F : List HP) (hmo : P.follows .mixedOrders = true) (hall' : (scrOk l m π && baseOk l m ρ && (dstsOf l).all (fun d => Nat.blt d n)) = true) (hF : ∃ Δ, Γ.Perm (F ++ Δ))
    (h : Scr P X n ds l m ρ F k π [] Γ) : Ex P X n ds (.code (.region id l.toArray true) :: k) ρ Γ := by
  simp only [Bool.and_eq_true] at hall'
  obtain ⟨⟨hok, hb⟩, hn'⟩ := hall'
  have hn : ∀ d ∈ dstsOf l, d < n := fun d hd => by have := List.all_eq_true.1 hn' d hd; simpa [Nat.blt_eq] using this
  unfold scrOk at hok
  simp only [Bool.and_eq_true] at hok
  obtain ⟨⟨⟨⟨⟨⟨h1, h2⟩, h3⟩, h4⟩, h5⟩, h8⟩, h9⟩ := hok
  have hnd := nodB_iff.1 h2
  have hdn := nodB_iff.1 h5
  have hall : ∀ i, i < l.length → i ∈ π.map (·.1) := fun i hi => memB_iff.1 (List.all_eq_true.1 h3 i (List.mem_range.2 hi))
  refine x_draw' hmo h1 (fun S ρ' Γ' => ∃ π1 π2 acc, Inv P X n ds l m ρ F k π S ρ' Γ' π1 π2 acc ∧ (π2 = [] ∨ ∃ c r, π2 = (c, true) :: r)) ?_ ?_ ?_
  · exact Inv.pure hnd π [] [] ⟨rfl, h, fun i b hi => (by cases hi), rfl, fun i hi => (by cases hi), fun i v d hi => (by cases hi), fun s v hs _ => hs, fun j o _ hj => (by cases hj), .inr hF⟩
  · rintro i o ho S ρ' Γ' hSi hd ⟨π1, π2, acc, I, hhead⟩
    have hil : i < l.length := (List.getElem?_eq_some_iff.1 ho).1
    have hclo' : Closed l (fun j => S j || j == i) := by
      intro j o' hj hSj e he hbe
      simp only [Bool.or_eq_true, beq_iff_eq] at hSj ⊢
      rcases hSj with hSj | rfl
      · exact .inl (I.clo j o' hj hSj e he hbe)
      · rw [ho] at hj; cases hj; exact .inl (hd e he hbe)
    have htail : ∀ j, ((masks l []).getD j 0).testBit i = true → S j = false := by
      intro t htb
      cases hSt : S t with
      | false => rfl
      | true =>
        exfalso
        have htl' : t < l.length := by
          have hm := I.done t hSt
          obtain ⟨⟨a, b⟩, hab, rfl⟩ := List.mem_map.1 hm
          obtain ⟨_, o', _, ho', _⟩ := I.facts a b hab
          exact (List.getElem?_eq_some_iff.1 ho').1
        have := closed_mask h1 I.clo t htl' hSt i htb
        rw [hSi] at this; cases this
    -- what is known once i has left v
    have next : ∀ v, lk acc i = some v → i ∈ π1.map (·.1) → Inv P X n ds l m ρ F k π (fun j => S j || j == i) (put o.dst v ρ') Γ' π1 π2 acc := by
      intro v hv hi1
      refine ⟨I.split, I.scr, fun j b hj => ?_, I.dom, ?_, ?_, ?_, hclo', I.fr.imp_left fun ⟨t, a, b, c⟩ => ⟨t, a, by simp [b], c⟩⟩
      · obtain ⟨u, o', g1, g2, g3, g4⟩ := I.facts j b hj
        exact ⟨u, o', g1, g2, fun hb => by simp [g3 hb], g4⟩
      · intro j hj
        simp only [Bool.or_eq_true, beq_iff_eq] at hj
        rcases hj with hj | rfl
        · exact I.done j hj
        · exact hi1
      · intro j u d hj hju hjd
        simp only [Bool.or_eq_true, beq_iff_eq] at hj
        by_cases hji : j = i
        · subst hji
          rw [hv] at hju; cases hju
          have : o.dst = some d := by simpa [ho] using hjd
          rw [this]; exact lk_cons_eq
        · have hSj : S j = true := hj.resolve_right hji
          have := I.vals j u d hSj hju hjd
          cases hod : o.dst with
          | none => exact this
          | some d' =>
            have hne : d' ≠ d := by
              rintro rfl
              exact hji (dsts_inj hdn hjd (by simp [ho, hod]))
            show lk ((d', v) :: ρ') d = some u
            rw [lk_cons_ne hne]; exact this
      · intro s u hs hor
        have hold : lk ρ' s = some u := I.bas s u hs fun j hj => by
          have := hor j hj
          simp only [Bool.or_eq_false_iff] at this
          exact this.1
        cases hod : o.dst with
        | none => exact hold
        | some d' =>
          have hne : d' ≠ s := by
            rintro rfl
            have := hor i (by simp [ho, hod])
            simp at this
          show lk ((d', v) :: ρ') s = some u
          rw [lk_cons_ne hne]; exact hold
    have hdst : ∀ d, o.dst = some d → Nat.blt d n = true := fun d hod => by
      have := hn d (dsts_mem (i := i) (by simp [ho, hod])); simpa [Nat.blt_eq] using this
    have hiπ := hall i hil
    rw [I.split, List.map_append, List.mem_append] at hiπ
    rcases hiπ with hi1 | hi2
    · -- one that only looks, and was foreseen
      obtain ⟨⟨a, b⟩, hab, rfl⟩ := List.mem_map.1 hi1
      obtain ⟨v, o', g1, g2, g3, g4⟩ := I.facts a b hab
      rw [ho] at g2; cases g2
      cases b with
      | true => have := g3 rfl; rw [hSi] at this; cases this
      | false =>
        obtain ⟨acc0, hle, hgv⟩ := g4 rfl
        have hle' := Scr.sound_env I hle hd (baseOk_spec hb) htail
        have hfr2 : ∃ Δ, Γ'.Perm (F ++ Δ) := by
          rcases I.fr with ⟨t, htm, hSt, htπ⟩ | h
          · exfalso
            have h10 := List.all_eq_true.1 h9 _ htπ
            have h11 : π.all (fun p => p.2 || ((masks l []).getD t 0).testBit p.1) = true := by
              simp only [Bool.not_true, Bool.false_or, Bool.or_eq_true] at h10
              rcases h10 with h10 | h10
              · simp [Nat.blt_eq] at h10; omega
              · exact h10
            have h12 := List.all_eq_true.1 h11 (a, false) (by rw [I.split]; exact List.mem_append_left _ hab)
            simp only [Bool.false_or] at h12
            have htl' : t < l.length := by
              have hmm := I.done t hSt
              obtain ⟨⟨a', b'⟩, hab', rfl⟩ := List.mem_map.1 hmm
              obtain ⟨_, o', _, ho', _⟩ := I.facts a' b' hab'
              exact (List.getElem?_eq_some_iff.1 ho').1
            have := closed_mask h1 I.clo t htl' hSt a h12
            rw [hSi] at this; cases this
          · exact h
        obtain ⟨Δ, hperm⟩ := hfr2
        have hdrop : ∀ (F Δ : List HP), Ent (F ++ Δ) F := fun F Δ => by
          refine (Ent.perm List.perm_append_comm).trans ?_
          induction Δ with
          | nil => exact .refl _
          | cons A Δ ih => exact (Ent.drop A _).trans ih
        have hweak : ∀ E w, St E Γ' w → St E F w := fun E w s => (hdrop F Δ).st (s.perm hperm)
        have go : OpV P o.op o.type (envOf l m ρ acc0 a o.after.toList) F v → ExO P X n ds o.dst o.op o.type (fun v' Γ'' => ∃ π1 π2 acc, Inv P X n ds l m ρ F k π (fun j => S j || j == a) (put o.dst v' ρ') Γ'' π1 π2 acc ∧ (π2 = [] ∨ ∃ c r, π2 = (c, true) :: r)) ρ' Γ' := by
          intro hv
          cases hod : o.dst with
          | none =>
            intro ops' i' o' rest k' ρF hle'' hops hdst' hop hty hw hK t w htn hmt hst
            have hr := hv.2 (Act.mk t ds).eval o' X.E w hop hty (fun x u hx => (hmt.le fun s z hz => hle'' s z (hle' s z hz)).ev ds hx) (fun xs vs hx => (hmt.le fun s z hz => hle'' s z (hle' s z hz)).evL ds hx) (hweak _ _ hst)
            refine .step (m' := lone (X.base.atR ⟨t, ds⟩ (.inRegion ops' rest :: k')) X.cs w) (step_lone_go ?_)
              (hK v Γ' ⟨π1, π2, acc, (by have := next v g1 hi1; rwa [hod] at this), hhead⟩ t w htn hmt hst)
            rw [stepGR_op hops (hw t hmt), Oper.semAt_eq _ _ _ (by rw [hop]; exact hv.1)]
            have hfin := Frame.finish_atR X.base ⟨t, ds⟩ ops' i' rest k' v
            have hp : ((ops'[i']?).bind (·.dst)) = none := by simp [hops, hdst']
            rw [hp] at hfin
            simp only [stepG.apply, Sem.runT_eq, hr, if_true, GStep.bare_after, hfin]
            rfl
          | some d =>
            have := o_v (X := X) (n := n) (ds := ds) (d := d) (Nx := fun v' Γ'' => ∃ π1 π2 acc, Inv P X n ds l m ρ F k π (fun j => S j || j == a) (put (some d) v' ρ') Γ'' π1 π2 acc ∧ (π2 = [] ∨ ∃ c r, π2 = (c, true) :: r))
              (hv.weak hweak) (hdst d hod) ⟨π1, π2, acc, (by have := next v g1 hi1; rwa [hod] at this), hhead⟩
            exact this.le hle'
        unfold GV at hgv
        cases hgo : o.guard with
        | none => rw [hgo] at hgv; exact .plain hgo (go hgv)
        | some jb =>
          obtain ⟨j, b⟩ := jb
          rw [hgo] at hgv
          simp only at hgv
          have hg8 := List.all_eq_true.1 h8 o (List.mem_of_getElem? ho)
          simp only [hgo, Bool.and_eq_true] at hg8
          obtain ⟨hg9, hg10⟩ := hg8
          obtain ⟨e, he, hej⟩ := Array.any_eq_true'.1 hg9
          simp only [Bool.and_eq_true] at hej
          have hej1 := Nat.eq_of_beq_eq_true hej.1
          obtain ⟨d, hd'⟩ := Option.isSome_iff_exists.1 hg10
          have hSj : S j = true := hej1 ▸ hd e he hej.2
          have hgd : ∀ u, lk acc0 j = some u → gd ρ' l.toArray j = some u := by
            intro u hu
            unfold gd
            have : (l.toArray[j]?).bind (·.dst) = some d := by simpa using hd'
            rw [this]
            exact I.vals j u d hSj (hle j u hu) hd'
          rcases hgv with ⟨hb1, hv⟩ | ⟨hb1, rfl⟩
          · exact .guarded hgo (hgd _ hb1) (go hv)
          · rcases hb1 with hb1 | hb1
            · exact .passed hgo (hgd _ hb1) (.inl rfl) hdst ⟨π1, π2, acc, next undef g1 hi1, hhead⟩
            · exact .passed hgo (hgd _ hb1) (.inr rfl) hdst ⟨π1, π2, acc, next undef g1 hi1, hhead⟩
    · -- one that writes: it is the next of these
      rcases hhead with rfl | ⟨c, r, rfl⟩
      · cases hi2
      · have hic : i = c := by
          rw [List.map_cons, List.mem_cons] at hi2
          rcases hi2 with rfl | hi2
          · rfl
          · exfalso
            have hafter : ∀ (π1 : List (Nat × Bool)), afterAll (masks l []) (π1 ++ (c, true) :: r) = true → r.all (fun p => ((masks l []).getD p.1 0).testBit c) = true := by
              intro π1
              induction π1 with
              | nil => intro h; simp only [List.nil_append, afterAll, Bool.and_eq_true] at h; exact h.1
              | cons p π1 ih =>
                obtain ⟨a, b⟩ := p
                cases b with
                | true => intro h; simp only [List.cons_append, afterAll, Bool.and_eq_true] at h; exact ih h.2
                | false => intro h; simp only [List.cons_append, afterAll] at h; exact ih h
            have h7 := hafter π1 (by rw [← I.split]; exact h4)
            obtain ⟨⟨a, b⟩, hab, rfl⟩ := List.mem_map.1 hi2
            have hbit := List.all_eq_true.1 h7 _ hab
            have hSc : (fun j => S j || j == a) c = true := closed_mask h1 hclo' a hil (by simp) c hbit
            have hnn := hnd
            rw [I.split, List.map_append, List.map_cons, List.nodup_append] at hnn
            simp only [Bool.or_eq_true, beq_iff_eq] at hSc
            rcases hSc with hSc | rfl
            · exact hnn.2.2 c (I.done c hSc) c (List.mem_cons_self ..) rfl
            · exact (List.nodup_cons.1 hnn.2.1).1 hi2
        subst hic
        obtain ⟨o', ho', hgu, hex⟩ := I.scr
        rw [ho] at ho'; cases ho'
        have hni : i ∉ π1.map (·.1) := by
          have hnn := hnd
          rw [I.split, List.map_append, List.map_cons, List.nodup_append] at hnn
          intro hm
          exact hnn.2.2 i hm i (List.mem_cons_self ..) rfl
        have hacc : lk acc i = none := by
          cases h : lk acc i with
          | none => rfl
          | some u => have := lk_dom h; rw [I.dom] at this; exact absurd (by simpa using this) hni
        have hle' := Scr.sound_env I (leR.refl acc) hd (baseOk_spec hb) htail
        have hex' := (hex.mono (Nx' := fun v Γ'' => ∃ π1 π2 acc, Inv P X n ds l m ρ F k π (fun j => S j || j == i) (put o.dst v ρ') Γ'' π1 π2 acc ∧ (π2 = [] ∨ ∃ c r, π2 = (c, true) :: r)) fun v Γ'' ⟨hfr, hsc⟩ => by
          have hle : leR acc ((i, v) :: acc) := fun j u hj => by
            rw [lk_cons_ne]
            · exact hj
            · rintro rfl; rw [hacc] at hj; cases hj
          have hput : ∀ s u, (∀ d, o.dst = some d → d ≠ s) → lk ρ' s = some u → lk (put o.dst v ρ') s = some u := by
            intro s u hne hs
            cases hod : o.dst with
            | none => exact hs
            | some d' => show lk ((d', v) :: ρ') s = some u; rw [lk_cons_ne (hne d' hod)]; exact hs
          refine Inv.pure hnd r (π1 ++ [(i, true)]) ((i, v) :: acc) ⟨by rw [I.split]; simp, hsc, ?_, by simp [I.dom], ?_, ?_, ?_, hclo', hfr.imp_left fun hm => ⟨i, Nat.le_of_ble_eq_true hm, by simp, by rw [I.split]; simp⟩⟩
          · intro j b hj
            rw [List.mem_append] at hj
            rcases hj with hj | hj
            · obtain ⟨u, o'', g1, g2, g3, g4⟩ := I.facts j b hj
              refine ⟨u, o'', hle j u g1, g2, fun hb => by simp [g3 hb], fun hb => ?_⟩
              obtain ⟨acc0, g5, g6⟩ := g4 hb
              exact ⟨acc0, fun a c hc => hle a c (g5 a c hc), g6⟩
            · have e : (j, b) = (i, true) := by simpa using hj
              cases e
              exact ⟨v, o, lk_cons_eq, ho, (fun _ => by simp), fun h => by cases h⟩
          · intro j hj
            simp only [Bool.or_eq_true, beq_iff_eq] at hj
            rw [List.map_append, List.mem_append]
            rcases hj with hj | rfl
            · exact .inl (I.done j hj)
            · exact .inr (by simp)
          · intro j u d hj hju hjd
            simp only [Bool.or_eq_true, beq_iff_eq] at hj
            by_cases hji : j = i
            · subst hji
              rw [lk_cons_eq] at hju; cases hju
              have : o.dst = some d := by simpa [ho] using hjd
              rw [this]; exact lk_cons_eq
            · have hSj : S j = true := hj.resolve_right hji
              rw [lk_cons_ne (Ne.symm hji)] at hju
              exact hput d u (fun d' hod hdd => by
                subst hdd
                exact hji (dsts_inj hdn hjd (by simp [ho, hod]))) (I.vals j u d hSj hju hjd)
          · intro s u hs hor
            refine hput s u (fun d' hod hdd => ?_) (I.bas s u hs fun j hj => by
              have := hor j hj
              simp only [Bool.or_eq_false_iff] at this
              exact this.1)
            subst hdd
            have := hor i (by simp [ho, hod])
            simp at this).le hle'
        rcases hgu with hgo | ⟨j, b, hgo, hgj⟩
        · exact .plain hgo hex'
        · have hg8 := List.all_eq_true.1 h8 o (List.mem_of_getElem? ho)
          simp only [hgo, Bool.and_eq_true] at hg8
          obtain ⟨hg9, hg10⟩ := hg8
          obtain ⟨e, he, hej⟩ := Array.any_eq_true'.1 hg9
          simp only [Bool.and_eq_true] at hej
          have hej1 := Nat.eq_of_beq_eq_true hej.1
          obtain ⟨d, hd'⟩ := Option.isSome_iff_exists.1 hg10
          have hSj : S j = true := hej1 ▸ hd e he hej.2
          refine .guarded hgo ?_ hex'
          unfold gd
          have : (l.toArray[j]?).bind (·.dst) = some d := by simpa using hd'
          rw [this]
          exact I.vals j _ d hSj hgj hd'
  · rintro S ρ' Γ' hS ⟨π1, π2, acc, I, hhead⟩
    have hπ2 : π2 = [] := by
      rcases hhead with h | ⟨c, r, rfl⟩
      · exact h
      · exfalso
        obtain ⟨o, ho, _⟩ := I.scr
        have hSc := hS c (List.getElem?_eq_some_iff.1 ho).1
        have hnn := hnd
        rw [I.split, List.map_append, List.map_cons, List.nodup_append] at hnn
        exact hnn.2.2 c (I.done c hSc) c (List.mem_cons_self ..) rfl
    subst hπ2
    have hπ : π = π1 := by rw [I.split]; simp
    have hscr : Ex P X n ds k (accR l acc ++ ρ) Γ' := I.scr
    have hl := accR_app_le I (by rw [← hπ]; exact hnd) (fun i hi => by
      obtain ⟨⟨a, b⟩, hab, rfl⟩ := List.mem_map.1 hi
      obtain ⟨_, o', _, ho', _⟩ := I.facts a b hab
      exact hS a (List.getElem?_eq_some_iff.1 ho').1) (fun i hi => by rw [← hπ]; exact hall i hi)
    exact fun t w htn hmt hst => hscr t w htn (hmt.le hl) hst

/-! ### The script's steps -/
def frcR : Rho → Option Rho
  | [] => some []
  | (i, v) :: r => match frcR r with
    | some r' => some ((i, v) :: r')
    | none => none
theorem frcR_eq {r r' : Rho} (h : frcR r = some r') : r' = r := by
  induction r generalizing r' with
  | nil => cases h; rfl
  | cons p r ih =>
    obtain ⟨i, v⟩ := p
    unfold frcR at h
    split at h
    · rename_i u hu; cases h; rw [ih hu]
    · cases h
variable {l : List Oper} {m : Nat} {base : Rho} {F : List HP} {π : List (Nat × Bool)} {acc : Rho}
theorem s_v {i : Nat} {dst : Option Tmp} {op : Op} {ty : TypeId} {pos : String} {af : Array Edge} {v : Value} (ho : l[i]? = some ⟨dst, op, ty, pos, af, none⟩) (hv : OpV P op ty (envOf l m base acc i af.toList) F v) (h : Scr P X n ds l m base F k π ((i, v) :: acc) Γ) :
    Scr P X n ds l m base F k ((i, false) :: π) acc Γ := ⟨_, v, ho, hv, h⟩
theorem s_vg {i : Nat} {dst : Option Tmp} {op : Op} {ty : TypeId} {pos : String} {af : Array Edge} {j : Nat} {b : Bool} {v : Value} (ho : l[i]? = some ⟨dst, op, ty, pos, af, some (j, b)⟩) (hg : lk acc j = some (.bool b)) (hv : OpV P op ty (envOf l m base acc i af.toList) F v) (h : Scr P X n ds l m base F k π ((i, v) :: acc) Γ) :
    Scr P X n ds l m base F k ((i, false) :: π) acc Γ := ⟨_, v, ho, .inl ⟨hg, hv⟩, h⟩
theorem s_no {i : Nat} {dst : Option Tmp} {op : Op} {ty : TypeId} {pos : String} {af : Array Edge} {j : Nat} {b c : Bool} (ho : l[i]? = some ⟨dst, op, ty, pos, af, some (j, b)⟩) (hg : lk acc j = some (.bool c)) (hc : (c == !b) = true) (h : Scr P X n ds l m base F k π ((i, undef) :: acc) Γ) :
    Scr P X n ds l m base F k ((i, false) :: π) acc Γ := ⟨_, undef, ho, .inr ⟨.inl (by rw [hg]; rw [eq_of_beq hc]), rfl⟩, h⟩
theorem s_no' {i : Nat} {dst : Option Tmp} {op : Op} {ty : TypeId} {pos : String} {af : Array Edge} {j : Nat} {b : Bool} (ho : l[i]? = some ⟨dst, op, ty, pos, af, some (j, b)⟩) (hg : lk acc j = some undef) (h : Scr P X n ds l m base F k π ((i, undef) :: acc) Γ) :
    Scr P X n ds l m base F k ((i, false) :: π) acc Γ := ⟨_, undef, ho, .inr ⟨.inr hg, rfl⟩, h⟩
theorem s_x {i : Nat} {dst : Option Tmp} {op : Op} {ty : TypeId} {pos : String} {af : Array Edge} (ho : l[i]? = some ⟨dst, op, ty, pos, af, none⟩)
    (h : ExO P X n ds dst op ty (fun v Γ' => (∃ Δ, Γ'.Perm (F ++ Δ)) ∧ Scr P X n ds l m base F k π ((i, v) :: acc) Γ') (envOf l m base acc i af.toList) Γ) :
    Scr P X n ds l m base F k ((i, true) :: π) acc Γ := ⟨_, ho, .inl rfl, h.mono fun _ _ ⟨a, b⟩ => ⟨.inr a, b⟩⟩
/-- A last store: what the others leaned on may change. -/
theorem s_xt {i : Nat} {dst : Option Tmp} {op : Op} {ty : TypeId} {pos : String} {af : Array Edge} (ho : l[i]? = some ⟨dst, op, ty, pos, af, none⟩) (hm : Nat.ble m i = true)
    (h : ExO P X n ds dst op ty (fun v Γ' => Scr P X n ds l m base F k π ((i, v) :: acc) Γ') (envOf l m base acc i af.toList) Γ) :
    Scr P X n ds l m base F k ((i, true) :: π) acc Γ := ⟨_, ho, .inl rfl, h.mono fun _ _ b => ⟨.inl hm, b⟩⟩
theorem s_xg {i : Nat} {dst : Option Tmp} {op : Op} {ty : TypeId} {pos : String} {af : Array Edge} {j : Nat} {b : Bool} (ho : l[i]? = some ⟨dst, op, ty, pos, af, some (j, b)⟩) (hg : lk acc j = some (.bool b))
    (h : ExO P X n ds dst op ty (fun v Γ' => (∃ Δ, Γ'.Perm (F ++ Δ)) ∧ Scr P X n ds l m base F k π ((i, v) :: acc) Γ') (envOf l m base acc i af.toList) Γ) :
    Scr P X n ds l m base F k ((i, true) :: π) acc Γ := ⟨_, ho, .inr ⟨j, b, rfl, hg⟩, h.mono fun _ _ ⟨a, b⟩ => ⟨.inr a, b⟩⟩
theorem s_end {ρ' : Rho} (he : frcR (accR l acc ++ base) = some ρ') (h : Ex P X n ds k ρ' Γ) : Scr P X n ds l m base F k [] acc Γ := by
  rw [frcR_eq he] at h; exact h
theorem permF {Δ' : List HP} [T : Takes Γ F Δ'] : ∃ Δ, Γ.Perm (F ++ Δ) := ⟨_, T.h⟩
theorem perm0 : ∃ Δ, Γ.Perm ([] ++ Δ) := ⟨Γ, .refl _⟩
end draw

section looks
variable {P : Program} {ρ : Rho} {Γ : List HP} {ty : TypeId}
theorem v_load {t : TypeId} {x : Operand} {b o off : Nat} {vs : List Value} {v : Value} [T : TyCell P t] (hx : ev ρ x = some (.pointer (some ⟨b, o, none⟩))) [H : HasRow Γ b off vs] (ho : Nat.ble off o = true) (hv : vs[o - off]? = some v) : OpV P (.load t x) ty ρ Γ v := v_loadC hx (Cell.row ho hv)
theorem v_loadI {t : TypeId} {x : Operand} {b o off i : Nat} {vs : List Value} {v : Value} [T : TyCell P t] (hx : ev ρ x = some (.pointer (some ⟨b, o, none⟩))) [H : HasRow Γ b off vs] (ho : o = off + i) (hv : vs[i]? = some v) : OpV P (.load t x) ty ρ Γ v :=
  v_loadC hx (fun E w s => by rw [ho]; exact (s.hasRow (b := b) hv).1)
theorem v_loadR {A : HP} {t s : Nat} {x : Operand} {a : Option Addr} {b o off len i : Nat} {xs : List Value} {v : Value} [T : TyCell P t] (hx : ev ρ x = some (.pointer (some ⟨b, o, none⟩))) (R : Reads A s a len xs) [H : Has Γ A] (ha : a = some ⟨b, off, none⟩) (ho : o = off + i) (hv : xs[i]? = some v) : OpV P (.load t x) ty ρ Γ v :=
  v_loadC hx (fun E w s => by
    rcases s.reads R with h0 | ⟨b', off', ha', hc⟩
    · have := R.1; rw [h0] at this; simp at this; subst this; cases hv
    · rw [ha] at ha'; cases ha'; rw [ho]; exact hc _ _ hv)
theorem v_loadA {t s : Nat} {x : Operand} {b o off : Nat} {vs us : List Value} [T : TyAgg P t s] (hx : ev ρ x = some (.pointer (some ⟨b, o, none⟩))) [H : HasRow Γ b off vs] (ho : Nat.ble off o = true) (hv : (vs.drop (o - off)).take s = us) (hl : us.length = s) : OpV P (.load t x) ty ρ Γ (.agg us.toArray) :=
  v_loadAC hx hl (fun j v hj => Cell.row (by have := Nat.le_of_ble_eq_true ho; exact Nat.ble_eq ▸ (by omega : off ≤ o + j)) (by
    have h1 := Nat.le_of_ble_eq_true ho
    rw [← hv, List.getElem?_take] at hj
    split at hj
    · rw [List.getElem?_drop] at hj
      rw [show o + j - off = o - off + j by omega]; exact hj
    · cases hj))
theorem v_loadAR {A : HP} {t s s' : Nat} {x : Operand} {a : Option Addr} {b off o len i : Nat} {xs us : List Value} [T : TyAgg P t s] (hx : ev ρ x = some (.pointer (some ⟨b, o, none⟩))) (R : Reads A s' a len xs) [H : Has Γ A] (ha : a = some ⟨b, off, none⟩) (ho : o = off + i)
    (hl : us.length = s) (hv : ∀ j v, us[j]? = some v → xs[i + j]? = some v) : OpV P (.load t x) ty ρ Γ (.agg us.toArray) :=
  v_loadAC hx hl (fun j v hj E w s => by
    rcases s.reads R with h0 | ⟨b', off', ha', hc⟩
    · have := R.1; rw [h0] at this; simp at this; subst this; have := hv _ _ hj; cases this
    · rw [ha] at ha'; cases ha'; rw [ho, Nat.add_assoc]; exact hc _ _ (hv _ _ hj))
/-- An element's place, the base known. -/
theorem v_indexH {t e s y : Nat} {x ix : Operand} {a : Option Addr} {b off len cap j : Nat} {kk : IntKind} {i : Int} [T : TySlice P t e s y] (hx : ev ρ x = some (.slice a len cap)) (hi : ev ρ ix = some (.int kk i)) (ha : a = some ⟨b, off, none⟩) (hj : i = (j : Int)) (hlt : j < len) :
    OpV P (.indexAddr t x ix) ty ρ Γ (.pointer (some ⟨b, off + j * s, none⟩)) := by subst ha; exact v_indexS hx hi hj hlt
end looks
/-- The base of a slice that has elements. -/
theorem x_base {P : Program} {X : Cx} {n : Nat} {ds : List Deferred} {ρ : Rho} {Γ : List HP} {todo : List Item} {A : HP} {s len : Nat} {a : Option Addr} {xs : List Value} (R : Reads A s a len xs) [H : Has Γ A] (h0 : 0 < len) (h : ∀ b off, a = some ⟨b, off, none⟩ → Ex P X n ds todo ρ Γ) : Ex P X n ds todo ρ Γ :=
  fun t w hn hm hs => by
    rcases hs.reads R with e | ⟨b, off, ha, _⟩
    · omega
    · exact h b off ha t w hn hm hs
end Go.Proofs.Ythneebbmodkjiaa
