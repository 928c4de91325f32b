/- A region whose order is open, by a tree of scripts: where several operations that write or make memory may come next. -/
import Derived.Test.YthneebbmodkjiaaSLn
namespace Go.Proofs.Ythneebbmodkjiaa
open Go.RowKit
inductive Tr
  | nil
  | look (i : Nat) (t : Tr)
  | act (i : Nat) (t : Tr)
  | alt (a b : Tr)
def rmB (i : Nat) (xs : List Nat) : List Nat := xs.filter fun x => !Nat.beq x i
theorem mem_rmB {i j : Nat} {xs : List Nat} : j ∈ rmB i xs ↔ j ∈ xs ∧ j ≠ i := by
  unfold rmB; rw [List.mem_filter]
  constructor
  · rintro ⟨h1, h2⟩; exact ⟨h1, fun e => by subst e; simp at h2⟩
  · rintro ⟨h1, h2⟩
    refine ⟨h1, ?_⟩
    cases hb : Nat.beq j i with
    | true => exact absurd (Nat.eq_of_beq_eq_true hb) h2
    | false => rfl
def heads : Tr → List Nat
  | .act i _ => [i]
  | .alt a b => heads a ++ heads b
  | _ => []
def chkH (ms : List Nat) (H pend : List Nat) : Bool := pend.all fun p => memB p H || H.any fun h => (ms.getD p 0).testBit h
def okT (ms : List Nat) (len m : Nat) (A : List Nat) : Bool → Tr → List Nat → Bool
  | top, .nil, pend => top && pend.isEmpty
  | top, .look i t, pend => top && memB i pend && !memB i A && okT ms len m A true t (rmB i pend)
  | top, .act i t, pend => (!top || chkH ms [i] pend) && memB i pend && memB i A && (Nat.blt i m || (List.range len).all fun p => memB p A || (ms.getD i 0).testBit p) && okT ms len m A true t (rmB i pend)
  | top, .alt a b, pend => (!top || chkH ms (heads a ++ heads b) pend) && okT ms len m A false a pend && okT ms len m A false b pend
section draw
variable {P : Program} {X : Cx} {n : Nat} {ds : List Deferred} {k : List Item} {ρ : Rho} {Γ : List HP}
def ScrT (P : Program) (X : Cx) (n : Nat) (ds : List Deferred) (l : List Oper) (m : Nat) (base : Rho) (F : List HP) (k : List Item) : Tr → Rho → List HP → Prop
  | .nil, acc, Γ => Ex P X n ds k (accR l acc ++ base) Γ
  | .look i t, acc, Γ => ∃ o v, l[i]? = some o ∧ GV P acc o (envOf l m base acc i o.after.toList) F v ∧ ScrT P X n ds l m base F k t ((i, v) :: acc) Γ
  | .act i t, acc, Γ => ∃ o, l[i]? = some o ∧ (o.guard = none ∨ ∃ j b, o.guard = some (j, b) ∧ lk acc j = some (.bool b)) ∧
      ExO P X n ds o.dst o.op o.type (fun v Γ' => (Nat.ble m i = true ∨ ∃ Δ, Γ'.Perm (F ++ Δ)) ∧ ScrT P X n ds l m base F k t ((i, v) :: acc) Γ') (envOf l m base acc i o.after.toList) Γ
  | .alt a b, acc, Γ => ScrT P X n ds l m base F k a acc Γ ∧ ScrT P X n ds l m base F k b acc Γ
/-- The alternative that begins with an operation. -/
theorem pick_head {l : List Oper} {m : Nat} {base : Rho} {F : List HP} {ms A : List Nat} {len : Nat} {acc : Rho} {i : Nat} : ∀ (T : Tr) (top : Bool) (pend : List Nat), okT ms len m A top T pend = true → ScrT P X n ds l m base F k T acc Γ → i ∈ heads T →
    ∃ t, ScrT P X n ds l m base F k (.act i t) acc Γ ∧ okT ms len m A false (.act i t) pend = true
  | .nil, _, _, _, _, h => by cases h
  | .look _ _, _, _, _, _, h => by cases h
  | .act j t, top, pend, ho, hs, h => by
    have e : i = j := by simpa [heads] using h
    subst e
    refine ⟨t, hs, ?_⟩
    unfold okT at ho ⊢
    simp only [Bool.and_eq_true] at ho ⊢
    exact ⟨⟨⟨⟨rfl, ho.1.1.1.2⟩, ho.1.1.2⟩, ho.1.2⟩, ho.2⟩
  | .alt a b, top, pend, ho, hs, h => by
    unfold okT at ho
    simp only [Bool.and_eq_true] at ho
    rcases List.mem_append.1 h with h | h
    · exact pick_head a false pend ho.1.2 hs.1 h
    · exact pick_head b false pend ho.2 hs.2 h
theorem heads_ne {ms A : List Nat} {len m : Nat} : ∀ (T : Tr) (pend : List Nat), okT ms len m A false T pend = true → ∃ i, i ∈ heads T
  | .nil, _, h => by simp [okT] at h
  | .look i t, _, h => by simp [okT] at h
  | .act i t, _, _ => ⟨i, by simp [heads]⟩
  | .alt a b, pend, h => by
    unfold okT at h
    simp only [Bool.and_eq_true] at h
    obtain ⟨i, hi⟩ := heads_ne a pend h.1.2
    exact ⟨i, List.mem_append_left _ hi⟩
theorem head_chk {ms A : List Nat} {len m : Nat} : ∀ (T : Tr) (pend : List Nat), okT ms len m A true T pend = true → (∃ i t, T = .look i t) ∨ T = .nil ∨ chkH ms (heads T) pend = true
  | .nil, _, _ => .inr (.inl rfl)
  | .look i t, _, _ => .inl ⟨i, t, rfl⟩
  | .act i t, pend, h => by
    unfold okT at h
    simp only [Bool.and_eq_true, Bool.not_true, Bool.false_or] at h
    exact .inr (.inr h.1.1.1.1)
  | .alt a b, pend, h => by
    unfold okT at h
    simp only [Bool.and_eq_true, Bool.not_true, Bool.false_or] at h
    exact .inr (.inr h.1.1)
structure InvT (P : Program) (X : Cx) (n : Nat) (ds : List Deferred) (l : List Oper) (m : Nat) (base : Rho) (F : List HP) (k : List Item) (A : List Nat) (S : Nat → Bool) (ρ : Rho) (Γ : List HP) (π1 : List (Nat × Bool)) (pend : List Nat) (T : Tr) (acc : Rho) : Prop where
  nd : (π1.map (·.1)).Nodup
  part : ∀ i, i < l.length → i ∈ π1.map (·.1) ∨ i ∈ pend
  disj : ∀ i, i ∈ pend → i ∉ π1.map (·.1)
  ok : okT (masks l []) l.length m A true T pend = true
  flag : ∀ i b, (i, b) ∈ π1 → b = memB i A
  scr : ScrT P X n ds l m base F k T acc Γ
  facts : ∀ i b, (i, b) ∈ π1 → ∃ v o, lk acc i = some v ∧ l[i]? = some o ∧ (b = true → S i = true) ∧ (b = false → ∃ acc0, leR acc0 acc ∧ GV P acc0 o (envOf l m base acc0 i o.after.toList) F v)
  dom : acc.map (·.1) = (π1.map (·.1)).reverse
  done : ∀ i, S i = true → i ∈ π1.map (·.1)
  vals : ∀ i v d, S i = true → lk acc i = some v → (l[i]?).bind (·.dst) = some d → lk ρ d = some v
  bas : ∀ s v, lk base s = some v → (∀ j, (l[j]?).bind (·.dst) = some s → S j = false) → lk ρ s = some v
  clo : Closed l S
  fr : (∃ t, m ≤ t ∧ S t = true ∧ (List.range l.length).all (fun p => memB p A || ((masks l []).getD t 0).testBit p) = true) ∨ ∃ Δ, Γ.Perm (F ++ Δ)
/-- On through what only looks. -/
theorem InvT.pure {l : List Oper} {m : Nat} {base : Rho} {F : List HP} {A : List Nat} {S : Nat → Bool} : ∀ (T : Tr) (π1 : List (Nat × Bool)) (pend : List Nat) (acc : Rho), InvT P X n ds l m base F k A S ρ Γ π1 pend T acc →
    ∃ π1' pend' T' acc', InvT P X n ds l m base F k A S ρ Γ π1' pend' T' acc' ∧ ∀ i t, T' ≠ .look i t
  | .nil, π1, pend, acc, I => ⟨π1, pend, .nil, acc, I, fun _ _ h => by cases h⟩
  | .act i t, π1, pend, acc, I => ⟨π1, pend, .act i t, acc, I, fun _ _ h => by cases h⟩
  | .alt a b, π1, pend, acc, I => ⟨π1, pend, .alt a b, acc, I, fun _ _ h => by cases h⟩
  | .look i T, π1, pend, acc, I => by
    obtain ⟨o, v, ho, hg, hs⟩ := I.scr
    have hok := I.ok
    unfold okT at hok
    simp only [Bool.and_eq_true, Bool.true_and, Bool.not_eq_true'] at hok
    obtain ⟨⟨hp, hA⟩, hok⟩ := hok
    have hni : i ∉ π1.map (·.1) := I.disj i (memB_iff.1 hp)
    have hacc : lk acc i = none := by
      cases h : lk acc i with
      | none => rfl
      | some u => have := lk_dom h; rw [I.dom] at this; exact absurd (by simpa using this) hni
    have hle : leR acc ((i, v) :: acc) := fun j u hj => by
      rw [lk_cons_ne]
      · exact hj
      · rintro rfl; rw [hacc] at hj; cases hj
    refine InvT.pure T (π1 ++ [(i, false)]) (rmB i pend) ((i, v) :: acc) ⟨?_, ?_, ?_, hok, ?_, hs, ?_, by simp [I.dom], ?_, ?_, I.bas, I.clo, I.fr⟩
    · rw [List.map_append, List.nodup_append]
      exact ⟨I.nd, by simp, fun a ha b hb => by
        have : b = i := by simpa using hb
        subst this
        rintro rfl
        exact hni ha⟩
    · intro j hj
      rw [List.map_append, List.mem_append]
      rcases I.part j hj with h | h
      · exact .inl (.inl h)
      · by_cases e : j = i
        · exact .inl (.inr (by simp [e]))
        · exact .inr (mem_rmB.2 ⟨h, e⟩)
    · intro j hj hm
      obtain ⟨h1, h2⟩ := mem_rmB.1 hj
      rw [List.map_append, List.mem_append] at hm
      rcases hm with hm | hm
      · exact I.disj j h1 hm
      · exact h2 (by simpa using hm)
    · intro j b hj
      rcases List.mem_append.1 hj with hj | hj
      · exact I.flag j b hj
      · have e : (j, b) = (i, false) := by simpa using hj
        cases e
        exact hA.symm
    · intro j b hj
      rw [List.mem_append] at hj
      rcases hj with hj | hj
      · obtain ⟨u, o', h1, h2, h3, h4⟩ := I.facts j b hj
        refine ⟨u, o', hle j u h1, h2, h3, fun hb => ?_⟩
        obtain ⟨acc0, h5, h6⟩ := h4 hb
        exact ⟨acc0, fun a c hc => hle a c (h5 a c hc), h6⟩
      · have e : (j, b) = (i, false) := by simpa using hj
        cases e
        exact ⟨v, o, lk_cons_eq, ho, (fun h => by cases h), fun _ => ⟨acc, hle, hg⟩⟩
    · intro j hj; rw [List.map_append]; exact List.mem_append_left _ (I.done j hj)
    · intro j u d hS hj hd
      have hji : i ≠ j := by rintro rfl; exact hni (I.done _ hS)
      rw [lk_cons_ne hji] at hj
      exact I.vals j u d hS hj hd
theorem ScrT.sound_env {l : List Oper} {m : Nat} {base : Rho} {F : List HP} {A pend : List Nat} {π1 : List (Nat × Bool)} {T : Tr} {S : Nat → Bool} {acc acc0 : Rho} {i : Nat} {o : Oper} (I : InvT P X n ds l m base F k A S ρ Γ π1 pend T acc) (hle : leR acc0 acc)
    (hd : ∀ e ∈ o.after, Region.binds .any e = true → S e.on = true) (hb : ∀ s v, lk base s = some v → ∀ j, (l[j]?).bind (·.dst) = some s → ∀ i, i < m → ((masks l []).getD j 0).testBit i = true)
    (hcl : ∀ j, ((masks l []).getD j 0).testBit i = true → S j = false) : leR (envOf l m base acc0 i o.after.toList) ρ := by
  intro s u h
  unfold envOf at h
  rcases lk_app h with h | ⟨_, h⟩
  · obtain ⟨e, he, hb, h1, h2⟩ := depR_lk h
    exact I.vals e.on u s (hd e (by simpa using he) hb) (hle _ _ h2) h1
  · cases hm : Nat.blt i m with
    | true =>
      rw [hm] at h
      have him : i < m := by simpa [Nat.blt_eq] using hm
      exact I.bas s u h fun j hj => hcl j (hb s u h j hj i him)
    | false =>
      rw [hm] at h
      obtain ⟨h1, h2⟩ := keepS_lk h
      exact I.bas s u h1 fun j hj => hcl j (by have := okS_spec h2 j hj; simpa using this)

theorem accT_app_le {l : List Oper} {m : Nat} {base : Rho} {F : List HP} {A pend : List Nat} {π1 : List (Nat × Bool)} {T : Tr} {S : Nat → Bool} {acc : Rho} (I : InvT P X n ds l m base F k A S ρ Γ π1 pend T acc) (hnd : (π1.map (·.1)).Nodup) (hall : ∀ i, i ∈ π1.map (·.1) → S i = true) (hful : ∀ i, i < l.length → i ∈ π1.map (·.1)) : leR (accR l acc ++ base) ρ := by
  intro s v h
  have hn : (acc.map (·.1)).Nodup := by rw [I.dom]; exact (List.reverse_perm _).nodup_iff.2 hnd
  rcases lk_app h with h | ⟨h0, h⟩
  · obtain ⟨i, h1, h2⟩ := accR_lk hn h
    have hm := lk_dom h2
    rw [I.dom] at hm
    exact I.vals i v s (hall i (by simpa using hm)) h2 h1
  · by_cases hs : s ∈ dstsOf l
    · exfalso
      obtain ⟨o, ho, hd⟩ := List.mem_filterMap.1 hs
      obtain ⟨i, hi⟩ := List.getElem?_of_mem ho
      refine accR_some (l := l) (i := i) (d := s) (by simp [hi, hd]) ?_ h0
      rw [I.dom]
      simpa using hful i (List.getElem?_eq_some_iff.1 hi).1
    · exact I.bas s v h fun j hj => absurd (dsts_mem hj) hs

theorem x_scriptT {id : Nat} {l : List Oper} (m : Nat) (A : List Nat) (T : Tr) (F : List HP) (hmo : P.follows .mixedOrders = true) (hall' : (okT (masks l []) l.length m A true T (List.range l.length) && acyc l 0 && nodB (dstsOf l) && gOk l && baseOk l m ρ && (dstsOf l).all (fun d => Nat.blt d n)) = true) (hF : ∃ Δ, Γ.Perm (F ++ Δ))
    (h : ScrT P X n ds l m ρ F k T [] Γ) : Ex P X n ds (.code (.region id l.toArray true) :: k) ρ Γ := by
  simp only [Bool.and_eq_true] at hall'
  obtain ⟨⟨⟨⟨⟨hok, h1⟩, h5⟩, h8⟩, hb⟩, hn'⟩ := hall'
  have hn : ∀ d ∈ dstsOf l, d < n := fun d hd => by have := List.all_eq_true.1 hn' d hd; simpa [Nat.blt_eq] using this
  have hdn := nodB_iff.1 h5
  refine x_draw' hmo h1 (fun S ρ' Γ' => ∃ π1 pend T acc, InvT P X n ds l m ρ F k A S ρ' Γ' π1 pend T acc ∧ ∀ i t, T ≠ .look i t) ?_ ?_ ?_
  · exact InvT.pure T [] (List.range l.length) [] ⟨by simp, fun i hi => .inr (List.mem_range.2 hi), fun i _ h => by simp at h, hok, fun i b hi => (by cases hi), h, fun i b hi => (by cases hi), rfl, fun i hi => (by cases hi), fun i v d hi => (by cases hi), fun s v hs _ => hs, fun j o _ hj => (by cases hj), .inr hF⟩
  · rintro i o ho S ρ' Γ' hSi hd ⟨π1, pend, T, acc, I, hhead⟩
    have hil : i < l.length := (List.getElem?_eq_some_iff.1 ho).1
    have hclo' : Closed l (fun j => S j || j == i) := by
      intro j o' hj hSj e he hbe
      simp only [Bool.or_eq_true, beq_iff_eq] at hSj ⊢
      rcases hSj with hSj | rfl
      · exact .inl (I.clo j o' hj hSj e he hbe)
      · rw [ho] at hj; cases hj; exact .inl (hd e he hbe)
    have htail : ∀ j, ((masks l []).getD j 0).testBit i = true → S j = false := by
      intro t htb
      cases hSt : S t with
      | false => rfl
      | true =>
        exfalso
        have htl' : t < l.length := by
          have hm := I.done t hSt
          obtain ⟨⟨a, b⟩, hab, rfl⟩ := List.mem_map.1 hm
          obtain ⟨_, o', _, ho', _⟩ := I.facts a b hab
          exact (List.getElem?_eq_some_iff.1 ho').1
        have := closed_mask h1 I.clo t htl' hSt i htb
        rw [hSi] at this; cases this
    -- what is known once i has left v
    have next : ∀ v, lk acc i = some v → i ∈ π1.map (·.1) → InvT P X n ds l m ρ F k A (fun j => S j || j == i) (put o.dst v ρ') Γ' π1 pend T acc := by
      intro v hv hi1
      refine ⟨I.nd, I.part, I.disj, I.ok, I.flag, I.scr, fun j b hj => ?_, I.dom, ?_, ?_, ?_, hclo', I.fr.imp_left fun ⟨t, a, b, c⟩ => ⟨t, a, by simp [b], c⟩⟩
      · obtain ⟨u, o', g1, g2, g3, g4⟩ := I.facts j b hj
        exact ⟨u, o', g1, g2, fun hb => by simp [g3 hb], g4⟩
      · intro j hj
        simp only [Bool.or_eq_true, beq_iff_eq] at hj
        rcases hj with hj | rfl
        · exact I.done j hj
        · exact hi1
      · intro j u d hj hju hjd
        simp only [Bool.or_eq_true, beq_iff_eq] at hj
        by_cases hji : j = i
        · subst hji
          rw [hv] at hju; cases hju
          have : o.dst = some d := by simpa [ho] using hjd
          rw [this]; exact lk_cons_eq
        · have hSj : S j = true := hj.resolve_right hji
          have := I.vals j u d hSj hju hjd
          cases hod : o.dst with
          | none => exact this
          | some d' =>
            have hne : d' ≠ d := by
              rintro rfl
              exact hji (dsts_inj hdn hjd (by simp [ho, hod]))
            show lk ((d', v) :: ρ') d = some u
            rw [lk_cons_ne hne]; exact this
      · intro s u hs hor
        have hold : lk ρ' s = some u := I.bas s u hs fun j hj => by
          have := hor j hj
          simp only [Bool.or_eq_false_iff] at this
          exact this.1
        cases hod : o.dst with
        | none => exact hold
        | some d' =>
          have hne : d' ≠ s := by
            rintro rfl
            have := hor i (by simp [ho, hod])
            simp at this
          show lk ((d', v) :: ρ') s = some u
          rw [lk_cons_ne hne]; exact hold
    have hdst : ∀ d, o.dst = some d → Nat.blt d n = true := fun d hod => by
      have := hn d (dsts_mem (i := i) (by simp [ho, hod])); simpa [Nat.blt_eq] using this
    rcases I.part i hil with hi1 | hi2
    · -- one that only looks, and was foreseen
      obtain ⟨⟨a, b⟩, hab, rfl⟩ := List.mem_map.1 hi1
      obtain ⟨v, o', g1, g2, g3, g4⟩ := I.facts a b hab
      rw [ho] at g2; cases g2
      cases b with
      | true => have := g3 rfl; rw [hSi] at this; cases this
      | false =>
        obtain ⟨acc0, hle, hgv⟩ := g4 rfl
        have hle' := ScrT.sound_env I hle hd (baseOk_spec hb) htail
        have hfr2 : ∃ Δ, Γ'.Perm (F ++ Δ) := by
          rcases I.fr with ⟨t, htm, hSt, htπ⟩ | h
          · exfalso
            have h11 := List.all_eq_true.1 htπ a (List.mem_range.2 hil)
            have hfa := I.flag a false hab
            have h12 : ((masks l []).getD t 0).testBit a = true := by
              rw [← hfa] at h11; simpa using h11
            have htl' : t < l.length := by
              have hmm := I.done t hSt
              obtain ⟨⟨a', b'⟩, hab', rfl⟩ := List.mem_map.1 hmm
              obtain ⟨_, o', _, ho', _⟩ := I.facts a' b' hab'
              exact (List.getElem?_eq_some_iff.1 ho').1
            have := closed_mask h1 I.clo t htl' hSt a h12
            rw [hSi] at this; cases this
          · exact h
        obtain ⟨Δ, hperm⟩ := hfr2
        have hdrop : ∀ (F Δ : List HP), Ent (F ++ Δ) F := fun F Δ => by
          refine (Ent.perm List.perm_append_comm).trans ?_
          induction Δ with
          | nil => exact .refl _
          | cons A Δ ih => exact (Ent.drop A _).trans ih
        have hweak : ∀ E w, St E Γ' w → St E F w := fun E w s => (hdrop F Δ).st (s.perm hperm)
        have go : OpV P o.op o.type (envOf l m ρ acc0 a o.after.toList) F v → ExO P X n ds o.dst o.op o.type (fun v' Γ'' => ∃ π1 pend T acc, InvT P X n ds l m ρ F k A (fun j => S j || j == a) (put o.dst v' ρ') Γ'' π1 pend T acc ∧ ∀ i t, T ≠ .look i t) ρ' Γ' := by
          intro hv
          cases hod : o.dst with
          | none =>
            intro ops' i' o' rest k' ρF hle'' hops hdst' hop hty hw hK t w htn hmt hst
            have hr := hv.2 (Act.mk t ds).eval o' X.E w hop hty (fun x u hx => (hmt.le fun s z hz => hle'' s z (hle' s z hz)).ev ds hx) (fun xs vs hx => (hmt.le fun s z hz => hle'' s z (hle' s z hz)).evL ds hx) (hweak _ _ hst)
            refine .step (m' := lone (X.base.atR ⟨t, ds⟩ (.inRegion ops' rest :: k')) X.cs w) (step_lone_go ?_)
              (hK v Γ' ⟨π1, pend, T, acc, (by have := next v g1 hi1; rwa [hod] at this), hhead⟩ t w htn hmt hst)
            rw [stepGR_op hops (hw t hmt), Oper.semAt_eq _ _ _ (by rw [hop]; exact hv.1)]
            have hfin := Frame.finish_atR X.base ⟨t, ds⟩ ops' i' rest k' v
            have hp : ((ops'[i']?).bind (·.dst)) = none := by simp [hops, hdst']
            rw [hp] at hfin
            simp only [stepG.apply, Sem.runT_eq, hr, if_true, GStep.bare_after, hfin]
            rfl
          | some d =>
            have := o_v (X := X) (n := n) (ds := ds) (d := d) (Nx := fun v' Γ'' => ∃ π1 pend T acc, InvT P X n ds l m ρ F k A (fun j => S j || j == a) (put (some d) v' ρ') Γ'' π1 pend T acc ∧ ∀ i t, T ≠ .look i t)
              (hv.weak hweak) (hdst d hod) ⟨π1, pend, T, acc, (by have := next v g1 hi1; rwa [hod] at this), hhead⟩
            exact this.le hle'
        unfold GV at hgv
        cases hgo : o.guard with
        | none => rw [hgo] at hgv; exact .plain hgo (go hgv)
        | some jb =>
          obtain ⟨j, b⟩ := jb
          rw [hgo] at hgv
          simp only at hgv
          have hg8 := List.all_eq_true.1 h8 o (List.mem_of_getElem? ho)
          simp only [hgo, Bool.and_eq_true] at hg8
          obtain ⟨hg9, hg10⟩ := hg8
          obtain ⟨e, he, hej⟩ := Array.any_eq_true'.1 hg9
          simp only [Bool.and_eq_true] at hej
          have hej1 := Nat.eq_of_beq_eq_true hej.1
          obtain ⟨d, hd'⟩ := Option.isSome_iff_exists.1 hg10
          have hSj : S j = true := hej1 ▸ hd e he hej.2
          have hgd : ∀ u, lk acc0 j = some u → gd ρ' l.toArray j = some u := by
            intro u hu
            unfold gd
            have : (l.toArray[j]?).bind (·.dst) = some d := by simpa using hd'
            rw [this]
            exact I.vals j u d hSj (hle j u hu) hd'
          rcases hgv with ⟨hb1, hv⟩ | ⟨hb1, rfl⟩
          · exact .guarded hgo (hgd _ hb1) (go hv)
          · rcases hb1 with hb1 | hb1
            · exact .passed hgo (hgd _ hb1) (.inl rfl) hdst ⟨π1, pend, T, acc, next undef g1 hi1, hhead⟩
            · exact .passed hgo (hgd _ hb1) (.inr rfl) hdst ⟨π1, pend, T, acc, next undef g1 hi1, hhead⟩
    · -- one that writes: it is the next of these
      have hiH : i ∈ heads T := by
        rcases head_chk T pend I.ok with ⟨j, t, e⟩ | e | hc
        · exact absurd e (hhead j t)
        · subst e
          have := I.ok
          unfold okT at this
          cases pend with
          | nil => cases hi2
          | cons p q => simp at this
        · have h7 := List.all_eq_true.1 hc i hi2
          rw [Bool.or_eq_true] at h7
          rcases h7 with h7 | h7
          · exact memB_iff.1 h7
          · obtain ⟨c, hcH, hbit⟩ := List.any_eq_true.1 h7
            have hSc : (fun j => S j || j == i) c = true := closed_mask h1 hclo' i hil (by simp) c hbit
            simp only [Bool.or_eq_true, beq_iff_eq] at hSc
            rcases hSc with hSc | rfl
            · obtain ⟨t, _, h8'⟩ := pick_head T true pend I.ok I.scr hcH
              unfold okT at h8'
              simp only [Bool.and_eq_true] at h8'
              exact absurd (I.done c hSc) (I.disj c (memB_iff.1 h8'.1.1.1.2))
            · exact hcH
      obtain ⟨r, hscr, hokr⟩ := pick_head T true pend I.ok I.scr hiH
      unfold okT at hokr
      simp only [Bool.and_eq_true, Bool.or_eq_true] at hokr
      obtain ⟨⟨⟨⟨-, hp⟩, hA⟩, hlast⟩, hokr⟩ := hokr
      · obtain ⟨o', ho', hgu, hex⟩ := hscr
        rw [ho] at ho'; cases ho'
        have hni : i ∉ π1.map (·.1) := I.disj i hi2
        have hacc : lk acc i = none := by
          cases h : lk acc i with
          | none => rfl
          | some u => have := lk_dom h; rw [I.dom] at this; exact absurd (by simpa using this) hni
        have hle' := ScrT.sound_env I (leR.refl acc) hd (baseOk_spec hb) htail
        have hex' := (hex.mono (Nx' := fun v Γ'' => ∃ π1 pend T acc, InvT P X n ds l m ρ F k A (fun j => S j || j == i) (put o.dst v ρ') Γ'' π1 pend T acc ∧ ∀ i t, T ≠ .look i t) fun v Γ'' ⟨hfr, hsc⟩ => by
          have hle : leR acc ((i, v) :: acc) := fun j u hj => by
            rw [lk_cons_ne]
            · exact hj
            · rintro rfl; rw [hacc] at hj; cases hj
          have hput : ∀ s u, (∀ d, o.dst = some d → d ≠ s) → lk ρ' s = some u → lk (put o.dst v ρ') s = some u := by
            intro s u hne hs
            cases hod : o.dst with
            | none => exact hs
            | some d' => show lk ((d', v) :: ρ') s = some u; rw [lk_cons_ne (hne d' hod)]; exact hs
          refine InvT.pure r (π1 ++ [(i, true)]) (rmB i pend) ((i, v) :: acc) ⟨?_, ?_, ?_, hokr, ?_, hsc, ?_, by simp [I.dom], ?_, ?_, ?_, hclo', hfr.imp_left fun hm => ⟨i, Nat.le_of_ble_eq_true hm, by simp, hlast.resolve_left fun hh => ?_⟩⟩
          · rw [List.map_append, List.nodup_append]
            exact ⟨I.nd, by simp, fun a ha b hb => by
              have : b = i := by simpa using hb
              subst this
              rintro rfl
              exact hni ha⟩
          · intro j hj
            rw [List.map_append, List.mem_append]
            rcases I.part j hj with h | h
            · exact .inl (.inl h)
            · by_cases e : j = i
              · exact .inl (.inr (by simp [e]))
              · exact .inr (mem_rmB.2 ⟨h, e⟩)
          · intro j hj hm
            obtain ⟨h1, h2⟩ := mem_rmB.1 hj
            rw [List.map_append, List.mem_append] at hm
            rcases hm with hm | hm
            · exact I.disj j h1 hm
            · exact h2 (by simpa using hm)
          · intro j b hj
            rcases List.mem_append.1 hj with hj | hj
            · exact I.flag j b hj
            · have e : (j, b) = (i, true) := by simpa using hj
              cases e
              exact hA.symm
          · intro j b hj
            rw [List.mem_append] at hj
            rcases hj with hj | hj
            · obtain ⟨u, o'', g1, g2, g3, g4⟩ := I.facts j b hj
              refine ⟨u, o'', hle j u g1, g2, fun hb => by simp [g3 hb], fun hb => ?_⟩
              obtain ⟨acc0, g5, g6⟩ := g4 hb
              exact ⟨acc0, fun a c hc => hle a c (g5 a c hc), g6⟩
            · have e : (j, b) = (i, true) := by simpa using hj
              cases e
              exact ⟨v, o, lk_cons_eq, ho, (fun _ => by simp), fun h => by cases h⟩
          · intro j hj
            simp only [Bool.or_eq_true, beq_iff_eq] at hj
            rw [List.map_append, List.mem_append]
            rcases hj with hj | rfl
            · exact .inl (I.done j hj)
            · exact .inr (by simp)
          · intro j u d hj hju hjd
            simp only [Bool.or_eq_true, beq_iff_eq] at hj
            by_cases hji : j = i
            · subst hji
              rw [lk_cons_eq] at hju; cases hju
              have : o.dst = some d := by simpa [ho] using hjd
              rw [this]; exact lk_cons_eq
            · have hSj : S j = true := hj.resolve_right hji
              rw [lk_cons_ne (Ne.symm hji)] at hju
              exact hput d u (fun d' hod hdd => by
                subst hdd
                exact hji (dsts_inj hdn hjd (by simp [ho, hod]))) (I.vals j u d hSj hju hjd)
          · intro s u hs hor
            refine hput s u (fun d' hod hdd => ?_) (I.bas s u hs fun j hj => by
              have := hor j hj
              simp only [Bool.or_eq_false_iff] at this
              exact this.1)
            subst hdd
            have := hor i (by simp [ho, hod])
            simp at this
          · have h1' := Nat.le_of_ble_eq_true hm
            have h2' : i < m := by simpa [Nat.blt_eq] using hh
            omega).le hle'
        rcases hgu with hgo | ⟨j, b, hgo, hgj⟩
        · exact .plain hgo hex'
        · have hg8 := List.all_eq_true.1 h8 o (List.mem_of_getElem? ho)
          simp only [hgo, Bool.and_eq_true] at hg8
          obtain ⟨hg9, hg10⟩ := hg8
          obtain ⟨e, he, hej⟩ := Array.any_eq_true'.1 hg9
          simp only [Bool.and_eq_true] at hej
          have hej1 := Nat.eq_of_beq_eq_true hej.1
          obtain ⟨d, hd'⟩ := Option.isSome_iff_exists.1 hg10
          have hSj : S j = true := hej1 ▸ hd e he hej.2
          refine .guarded hgo ?_ hex'
          unfold gd
          have : (l.toArray[j]?).bind (·.dst) = some d := by simpa using hd'
          rw [this]
          exact I.vals j _ d hSj hgj hd'
  · rintro S ρ' Γ' hS ⟨π1, pend, T, acc, I, hhead⟩
    have hno : ∀ i ∈ pend, ¬ i < l.length := fun i hi hil => I.disj i hi (I.done i (hS i hil))
    have hT : T = .nil := by
      cases T with
      | nil => rfl
      | look i t => exact absurd rfl (hhead i t)
      | act i t =>
        exfalso
        obtain ⟨r, ⟨o, ho, _⟩, hokr⟩ := pick_head (Tr.act i t) true pend I.ok I.scr (i := i) (by simp [heads])
        unfold okT at hokr
        simp only [Bool.and_eq_true] at hokr
        exact hno i (memB_iff.1 hokr.1.1.1.2) (List.getElem?_eq_some_iff.1 ho).1
      | alt a b =>
        exfalso
        have hk := I.ok
        unfold okT at hk
        simp only [Bool.and_eq_true] at hk
        obtain ⟨i, hi⟩ := heads_ne a pend hk.1.2
        obtain ⟨r, ⟨o, ho, _⟩, hokr⟩ := pick_head (Tr.alt a b) true pend I.ok I.scr (i := i) (List.mem_append_left _ hi)
        unfold okT at hokr
        simp only [Bool.and_eq_true] at hokr
        exact hno i (memB_iff.1 hokr.1.1.1.2) (List.getElem?_eq_some_iff.1 ho).1
    subst hT
    have hscr : Ex P X n ds k (accR l acc ++ ρ) Γ' := I.scr
    have hl := accT_app_le I I.nd (fun i hi => by
      obtain ⟨⟨a, b⟩, hab, rfl⟩ := List.mem_map.1 hi
      obtain ⟨_, o', _, ho', _⟩ := I.facts a b hab
      exact hS a (List.getElem?_eq_some_iff.1 ho').1) (fun i hi => (I.part i hi).resolve_right fun h => hno i h hi)
    exact fun t w htn hmt hst => hscr t w htn (hmt.le hl) hst

variable {l : List Oper} {m : Nat} {base : Rho} {F : List HP} {T : Tr} {acc : Rho}
theorem t_v {i : Nat} {dst : Option Tmp} {op : Op} {ty : TypeId} {pos : String} {af : Array Edge} {v : Value} (ho : l[i]? = some ⟨dst, op, ty, pos, af, none⟩) (hv : OpV P op ty (envOf l m base acc i af.toList) F v) (h : ScrT P X n ds l m base F k T ((i, v) :: acc) Γ) :
    ScrT P X n ds l m base F k (.look i T) acc Γ := ⟨_, v, ho, hv, h⟩
theorem t_x {i : Nat} {dst : Option Tmp} {op : Op} {ty : TypeId} {pos : String} {af : Array Edge} (ho : l[i]? = some ⟨dst, op, ty, pos, af, none⟩)
    (h : ExO P X n ds dst op ty (fun v Γ' => (∃ Δ, Γ'.Perm (F ++ Δ)) ∧ ScrT P X n ds l m base F k T ((i, v) :: acc) Γ') (envOf l m base acc i af.toList) Γ) :
    ScrT P X n ds l m base F k (.act i T) acc Γ := ⟨_, ho, .inl rfl, h.mono fun _ _ ⟨a, b⟩ => ⟨.inr a, b⟩⟩
theorem t_end {ρ' : Rho} (he : frcR (accR l acc ++ base) = some ρ') (h : Ex P X n ds k ρ' Γ) : ScrT P X n ds l m base F k .nil acc Γ := by
  rw [frcR_eq he] at h; exact h
theorem t_alt {T T' : Tr} (h : ScrT P X n ds l m base F k T acc Γ) (h' : ScrT P X n ds l m base F k T' acc Γ) : ScrT P X n ds l m base F k (.alt T T') acc Γ := ⟨h, h'⟩
end draw
end Go.Proofs.Ythneebbmodkjiaa
