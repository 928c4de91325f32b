/- Separation-style assertions over the model's heap: what a world holds, cell by cell, and how it is changed. Plain lemmas: no program in sight. -/
import Derived.Calls
import Derived.AtR
import Derived.Below
import Derived.KernelRfl
namespace Go.Proofs.Ythneebbmodkjiaa
open Go.RowKit

/-- What is owned at a place: a cell that may be written; a whole object. -/
inductive Bit where
  | own (v : Value)
  | obj (o : Obj)

/-- A partial heap: by blocks; 'some i': the i-th cell; 'none': the whole block. -/
abbrev PH := Nat → Option Nat → Option Bit

abbrev HP := PH → Prop

def PH.disj (h k : PH) : Prop := ∀ b x y, h b x ≠ none → k b y ≠ none → x ≠ y ∧ x ≠ none ∧ y ≠ none
def PH.join (h k : PH) : PH := fun b x => (h b x).or (k b x)
def PH.emp : PH := fun _ _ => none

theorem PH.disj.symm {h k : PH} (d : h.disj k) : k.disj h := fun b x y hx hy => let ⟨a, c, e⟩ := d b y x hy hx; ⟨Ne.symm a, e, c⟩
theorem PH.join_comm {h k : PH} (d : h.disj k) : h.join k = k.join h := by
  funext b x
  unfold PH.join
  cases h1 : h b x with
  | none => simp
  | some e =>
    cases h2 : k b x with
    | none => simp
    | some f => exact absurd rfl (d b x x (by simp [h1]) (by simp [h2])).1
theorem PH.join_assoc (h k l : PH) : (h.join k).join l = h.join (k.join l) := by
  funext b x; simp [PH.join, Option.or_assoc]
theorem PH.join_emp (h : PH) : h.join PH.emp = h := by funext b x; simp [PH.join, PH.emp]
theorem PH.emp_join (h : PH) : PH.emp.join h = h := by funext b x; simp [PH.join, PH.emp]
theorem PH.emp_disj (h : PH) : PH.emp.disj h := fun _ _ _ hx _ => absurd rfl hx
theorem PH.disj_emp (h : PH) : h.disj PH.emp := fun _ _ _ _ hx => absurd rfl hx
theorem PH.join_ne {h k : PH} {b : Nat} {x : Option Nat} (hx : h.join k b x ≠ none) : h b x ≠ none ∨ k b x ≠ none := by
  unfold PH.join at hx
  cases h1 : h b x with
  | none => right; simpa [h1] using hx
  | some e => left; simp
theorem PH.join_left {h k : PH} {b : Nat} {x : Option Nat} (hx : h b x ≠ none) : h.join k b x ≠ none := by
  unfold PH.join; cases h1 : h b x with
  | none => exact absurd h1 hx
  | some e => simp
theorem PH.join_right {h k : PH} {b : Nat} {x : Option Nat} (hx : k b x ≠ none) : h.join k b x ≠ none := by
  unfold PH.join; cases h1 : h b x with
  | none => simpa using hx
  | some e => simp
theorem PH.disj_join {h k l : PH} : h.disj (k.join l) ↔ h.disj k ∧ h.disj l :=
  ⟨fun d => ⟨fun b x y hx hy => d b x y hx (PH.join_left hy), fun b x y hx hy => d b x y hx (PH.join_right hy)⟩,
   fun ⟨d, e⟩ b x y hx hy => (PH.join_ne hy).elim (d b x y hx) (e b x y hx)⟩
theorem PH.join_disj {h k l : PH} : (h.join k).disj l ↔ h.disj l ∧ k.disj l :=
  ⟨fun d => let ⟨a, b⟩ := PH.disj_join.1 d.symm; ⟨a.symm, b.symm⟩, fun ⟨a, b⟩ => (PH.disj_join.2 ⟨a.symm, b.symm⟩).symm⟩

def Sat : List HP → PH → Prop
  | [], h => h = PH.emp
  | A :: Γ, h => ∃ h1 h2, A h1 ∧ Sat Γ h2 ∧ h1.disj h2 ∧ h = h1.join h2

theorem Sat.append {Γ Δ : List HP} {h : PH} : Sat (Γ ++ Δ) h ↔ ∃ h1 h2, Sat Γ h1 ∧ Sat Δ h2 ∧ h1.disj h2 ∧ h = h1.join h2 := by
  induction Γ generalizing h with
  | nil => exact ⟨fun s => ⟨_, h, rfl, s, PH.emp_disj h, (PH.emp_join h).symm⟩, fun ⟨h1, h2, e, s, _, hh⟩ => by
      cases e; rw [hh, PH.emp_join]; exact s⟩
  | cons A Γ ih =>
    constructor
    · rintro ⟨a, r, hA, hr, d, rfl⟩
      obtain ⟨g, k, hg, hk, d2, rfl⟩ := ih.1 hr
      obtain ⟨d3, d4⟩ := PH.disj_join.1 d
      exact ⟨a.join g, k, ⟨a, g, hA, hg, d3, rfl⟩, hk, PH.join_disj.2 ⟨d4, d2⟩, (PH.join_assoc a g k).symm⟩
    · rintro ⟨ag, k, ⟨a, g, hA, hg, d3, rfl⟩, hk, d, rfl⟩
      obtain ⟨d4, d2⟩ := PH.join_disj.1 d
      exact ⟨a, g.join k, hA, ih.2 ⟨g, k, hg, hk, d2, rfl⟩, PH.disj_join.2 ⟨d3, d4⟩, PH.join_assoc a g k⟩

theorem Sat.perm {Γ Δ : List HP} (p : Γ.Perm Δ) : ∀ {h : PH}, Sat Γ h → Sat Δ h := by
  induction p with
  | nil => exact id
  | cons A _ ih => rintro h ⟨a, r, hA, hr, d, e⟩; exact ⟨a, r, hA, ih hr, d, e⟩
  | swap A B Γ =>
    rintro h ⟨b, r, hB, ⟨a, g, hA, hg, d, rfl⟩, d2, rfl⟩
    obtain ⟨d3, d4⟩ := PH.disj_join.1 d2
    exact ⟨a, b.join g, hA, ⟨b, g, hB, hg, d4, rfl⟩, PH.disj_join.2 ⟨d3.symm, d⟩, by
      rw [← PH.join_assoc, PH.join_comm d3, PH.join_assoc]⟩
  | trans _ _ i1 i2 => exact fun s => i2 (i1 s)

def EntOk (w : World) (b : Nat) : Option Nat → Bit → Prop
  | some o, .own v => w.cell? ⟨b, o, none⟩ = some v ∧ w.frozen? ⟨b, o, none⟩ = false
  | none, .obj o => w.heap[b]? = some o
  | _, _ => False

def Wd (h : PH) (w : World) : Prop := ∀ b x e, h b x = some e → EntOk w b x e

theorem EntOk.lt {w : World} {b : Nat} {x : Option Nat} {e : Bit} (h : EntOk w b x e) : b < w.heap.size := by
  cases x with
  | some o => cases e with
    | own v => exact World.block_lt_of_cell? w ⟨b, o, none⟩ h.1
    | obj o => exact h.elim
  | none => cases e with
    | own v => exact h.elim
    | obj o => exact (Array.getElem?_eq_some_iff.1 h).1

theorem Wd.left {h k : PH} {w : World} (H : Wd (h.join k) w) : Wd h w := fun b x e he => H b x e (by simp [PH.join, he])
theorem Wd.right {h k : PH} {w : World} (d : h.disj k) (H : Wd (h.join k) w) : Wd k w := Wd.left (PH.join_comm d ▸ H)

/-- What of a world no store in memory turns. -/
structure Env where
  os : Os
  tape : Nat → Question → Nat
  output : Array (Nat × ByteArray)
  deriving Inhabited

def Env.of (w : World) : Env := ⟨w.os, w.tape, w.output⟩
def Env.ok (E : Env) (w : World) : Prop := w.os = E.os ∧ w.tape = E.tape ∧ w.output = E.output

/-- THE STATE: the world holds what the list says, each part by itself. -/
def St (E : Env) (Γ : List HP) (w : World) : Prop := E.ok w ∧ ∃ h, Sat Γ h ∧ Wd h w

theorem St.perm {E : Env} {Γ Δ : List HP} {w : World} (p : Γ.Perm Δ) (s : St E Γ w) : St E Δ w :=
  let ⟨e, h, a, b⟩ := s; ⟨e, h, a.perm p, b⟩

theorem St.drop {E : Env} {A : HP} {Γ : List HP} {w : World} (s : St E (A :: Γ) w) : St E Γ w := by
  obtain ⟨e, h, ⟨a, r, _, hr, d, rfl⟩, b⟩ := s
  exact ⟨e, r, hr, b.right d⟩

theorem St.drew {E : Env} {Γ : List HP} {w : World} (s : St E Γ w) : St E Γ w.drew := by
  obtain ⟨e, h, a, b⟩ := s
  refine ⟨e, h, a, fun k x f hk => ?_⟩
  have := b k x f hk
  cases x <;> cases f <;> exact this

/-! ### One state out of another -/
def Ent (Γ Δ : List HP) : Prop := ∀ h, Sat Γ h → ∃ g, Sat Δ g ∧ ∀ b x e, g b x = some e → h b x = some e
theorem Ent.refl (Γ : List HP) : Ent Γ Γ := fun h s => ⟨h, s, fun _ _ _ x => x⟩
theorem Ent.trans {Γ Δ Θ : List HP} (p : Ent Γ Δ) (q : Ent Δ Θ) : Ent Γ Θ := fun h s =>
  let ⟨g, sg, hg⟩ := p h s; let ⟨k, sk, hk⟩ := q g sg; ⟨k, sk, fun b x e he => hg b x e (hk b x e he)⟩
theorem Ent.perm {Γ Δ : List HP} (p : Γ.Perm Δ) : Ent Γ Δ := fun h s => ⟨h, s.perm p, fun _ _ _ x => x⟩
theorem Ent.drop (A : HP) (Γ : List HP) : Ent (A :: Γ) Γ := by
  rintro h ⟨a, r, _, hr, d, rfl⟩
  refine ⟨r, hr, fun b x e he => ?_⟩
  rw [PH.join_comm d]; simp [PH.join, he]
theorem PH.disj.sub {h k g : PH} (d : h.disj k) (s : ∀ b x e, g b x = some e → k b x = some e) : h.disj g := fun b x y hx hy => by
  obtain ⟨e, he⟩ := Option.ne_none_iff_exists'.1 hy
  exact d b x y hx (by rw [s b y e he]; simp)
theorem Ent.cons (A : HP) {Γ Δ : List HP} (p : Ent Γ Δ) : Ent (A :: Γ) (A :: Δ) := by
  rintro h ⟨a, r, hA, hr, d, rfl⟩
  obtain ⟨g, sg, hg⟩ := p r hr
  refine ⟨a.join g, ⟨a, g, hA, sg, d.sub hg, rfl⟩, fun b x e he => ?_⟩
  unfold PH.join at he ⊢
  cases h1 : a b x with
  | some f => simpa [h1] using he
  | none => simp [h1] at he; simp [hg b x e he]
theorem Ent.append (Θ : List HP) {Γ Δ : List HP} (p : Ent Γ Δ) : Ent (Θ ++ Γ) (Θ ++ Δ) := by
  induction Θ with
  | nil => exact p
  | cons A Θ ih => exact ih.cons A
theorem Ent.frame {Γ Δ : List HP} (p : Ent Γ Δ) (Θ : List HP) : Ent (Γ ++ Θ) (Δ ++ Θ) :=
  (Ent.perm List.perm_append_comm).trans ((p.append Θ).trans (Ent.perm List.perm_append_comm))
theorem Ent.st {Γ Δ : List HP} (p : Ent Γ Δ) {E : Env} {w : World} (s : St E Γ w) : St E Δ w :=
  let ⟨e, h, a, b⟩ := s; let ⟨g, sg, hg⟩ := p h a; ⟨e, g, sg, fun k x f hk => b k x f (hg k x f hk)⟩
theorem Ent.one {A B : HP} (p : ∀ h, A h → B h) (Γ : List HP) : Ent (A :: Γ) (B :: Γ) := by
  rintro h ⟨a, r, hA, hr, d, rfl⟩; exact ⟨_, ⟨a, r, p a hA, hr, d, rfl⟩, fun _ _ _ x => x⟩

/-! ### Parts made of parts -/
/-- Several parts as one. -/
def Sep (l : List HP) : HP := Sat l
theorem Ent.sep_out (l Γ : List HP) : Ent (Sep l :: Γ) (l ++ Γ) := by
  rintro h ⟨a, r, hA, hr, d, rfl⟩; exact ⟨_, Sat.append.2 ⟨a, r, hA, hr, d, rfl⟩, fun _ _ _ x => x⟩
theorem Ent.sep_in (l Γ : List HP) : Ent (l ++ Γ) (Sep l :: Γ) := by
  intro h s; obtain ⟨a, r, hA, hr, d, rfl⟩ := Sat.append.1 s; exact ⟨_, ⟨a, r, hA, hr, d, rfl⟩, fun _ _ _ x => x⟩
/-- There is one such that. -/
def Any {α : Sort _} (A : α → HP) : HP := fun h => ∃ a, A a h
/-- A fact beside a part. -/
def Fact (p : Prop) (A : HP) : HP := fun h => p ∧ A h
theorem St.ex {E : Env} {α : Sort _} {A : α → HP} {Γ : List HP} {w : World} (s : St E (Any A :: Γ) w) : ∃ a, St E (A a :: Γ) w :=
  let ⟨e, h, ⟨a, r, ⟨x, hA⟩, hr, d, hh⟩, W⟩ := s; ⟨x, e, h, ⟨a, r, hA, hr, d, hh⟩, W⟩
theorem St.fact {E : Env} {p : Prop} {A : HP} {Γ : List HP} {w : World} (s : St E (Fact p A :: Γ) w) : p ∧ St E (A :: Γ) w :=
  let ⟨e, h, ⟨a, r, ⟨x, hA⟩, hr, d, hh⟩, W⟩ := s; ⟨x, e, h, ⟨a, r, hA, hr, d, hh⟩, W⟩
theorem Ent.ex {α : Sort _} {A : α → HP} (x : α) (Γ : List HP) : Ent (A x :: Γ) (Any A :: Γ) := Ent.one (fun _ h => ⟨x, h⟩) Γ
theorem Ent.fact {p : Prop} (hp : p) {A : HP} (Γ : List HP) : Ent (A :: Γ) (Fact p A :: Γ) := Ent.one (fun _ h => ⟨hp, h⟩) Γ

/-! ### Rows of cells -/
/-- Cells of one block, one behind the other. -/
def row (b off : Nat) (vs : List Value) : PH := fun k x => match x with
  | some i => if k = b ∧ off ≤ i then (vs[i - off]?).map Bit.own else none
  | none => none
def Row (b off : Nat) (vs : List Value) : HP := fun h => h = row b off vs
/-- A whole object. -/
def Whole (b : Nat) (o : Obj) : HP := fun h => h = fun k x => if k = b ∧ x = none then some (.obj o) else none
/-- What lay in a world below a block's number. -/
def Old (w : World) (n : Nat) : HP := fun h => h = fun k x => if k < n ∧ x = none then (w.heap[k]?).map Bit.obj else none
def Emp : HP := fun h => h = PH.emp

theorem row_some {b off k i : Nat} {vs : List Value} {e : Bit} (h : row b off vs k (some i) = some e) : k = b ∧ off ≤ i ∧ ∃ v, vs[i - off]? = some v ∧ e = .own v := by
  unfold row at h
  dsimp only at h
  split at h
  · rename_i hc
    cases hv : vs[i - off]? with
    | none => simp [hv] at h
    | some v => simp [hv] at h; exact ⟨hc.1, hc.2, v, rfl, h.symm⟩
  · simp at h
theorem row_none {b off k : Nat} {vs : List Value} : row b off vs k none = none := rfl
theorem row_get {b off i : Nat} {vs : List Value} {v : Value} (h : vs[i]? = some v) : row b off vs b (some (off + i)) = some (.own v) := by
  simp [row, h]

theorem Wd.row_cell {b off i : Nat} {vs : List Value} {v : Value} {w : World} (H : Wd (row b off vs) w) (h : vs[i]? = some v) :
    w.cell? ⟨b, off + i, none⟩ = some v ∧ w.frozen? ⟨b, off + i, none⟩ = false := H b (some (off + i)) _ (row_get h)

theorem St.row_cell {E : Env} {Γ : List HP} {w : World} {b off i : Nat} {vs : List Value} {v : Value} (s : St E (Row b off vs :: Γ) w) (h : vs[i]? = some v) :
    w.cell? ⟨b, off + i, none⟩ = some v ∧ w.frozen? ⟨b, off + i, none⟩ = false := by
  obtain ⟨_, _, ⟨a, r, rfl, _, _, rfl⟩, H⟩ := s
  exact H.left.row_cell h

theorem row_append (b off : Nat) (xs ys : List Value) : row b off (xs ++ ys) = (row b off xs).join (row b (off + xs.length) ys) := by
  funext k x
  cases x with
  | none => rfl
  | some i =>
    simp only [PH.join, row]
    by_cases hk : k = b
    · subst hk
      by_cases h1 : off ≤ i
      · simp only [h1, and_self, if_true, true_and]
        by_cases h2 : i - off < xs.length
        · rw [List.getElem?_append_left h2]
          have : ¬ off + xs.length ≤ i := by omega
          simp [this]
        · rw [List.getElem?_append_right (by omega)]
          have h3 : off + xs.length ≤ i := by omega
          have h4 : xs[i - off]? = none := by simp; omega
          simp only [h3, if_true, h4, Option.map_none, Option.none_or]
          congr 2; omega
      · have : ¬ off + xs.length ≤ i := by omega
        simp [h1, this]
    · simp [hk]

theorem row_disj (b off : Nat) (xs ys : List Value) (o2 : Nat) (h : off + xs.length ≤ o2) : (row b off xs).disj (row b o2 ys) := by
  intro k x y hx hy
  cases x with
  | none => exact absurd rfl hx
  | some i => cases y with
    | none => exact absurd rfl hy
    | some j =>
      obtain ⟨e, he⟩ := Option.ne_none_iff_exists'.1 hx
      obtain ⟨f, hf⟩ := Option.ne_none_iff_exists'.1 hy
      obtain ⟨_, h1, v, hv, _⟩ := row_some he
      obtain ⟨_, h2, _⟩ := row_some hf
      have : i - off < xs.length := (List.getElem?_eq_some_iff.1 hv).1
      refine ⟨?_, by simp, by simp⟩
      intro e; cases e; omega

/-- A row in two. -/
theorem St.row_split {E : Env} {Γ : List HP} {w : World} {b off : Nat} {xs ys : List Value} :
    St E (Row b off (xs ++ ys) :: Γ) w ↔ St E (Row b off xs :: Row b (off + xs.length) ys :: Γ) w := by
  constructor
  · rintro ⟨e, _, ⟨a, r, rfl, hr, d, rfl⟩, H⟩
    rw [row_append] at d H
    obtain ⟨d1, d2⟩ := PH.join_disj.1 d
    refine ⟨e, _, ⟨_, _, rfl, ⟨_, _, rfl, hr, d2, rfl⟩, PH.disj_join.2 ⟨row_disj _ _ _ _ _ (Nat.le_refl _), d1⟩, rfl⟩, ?_⟩
    rw [← PH.join_assoc]; exact H
  · rintro ⟨e, _, ⟨a, r, rfl, ⟨_, g, rfl, hr, d2, rfl⟩, d, rfl⟩, H⟩
    obtain ⟨_, d1⟩ := PH.disj_join.1 d
    refine ⟨e, _, ⟨_, _, rfl, hr, ?_, rfl⟩, ?_⟩
    · rw [row_append]; exact PH.join_disj.2 ⟨d1, d2⟩
    · rw [row_append, PH.join_assoc]; exact H

/-- A store. -/
theorem Wd.setCell {b o : Nat} {v : Value} {u : Value} {w : World} {r : PH} (hc : w.cell? ⟨b, o, none⟩ = some u) (hr : r b none = none) (hr' : r b (some o) = none) (H : Wd r w) : Wd r (w.setCell ⟨b, o, none⟩ v) := by
  intro k x e he
  have h0 := H k x e he
  cases x with
  | some i => cases e with
    | own z =>
      refine ⟨?_, by rw [World.frozen?_setCell]; exact h0.2⟩
      rw [World.cell?_setCell_other _ _ _ _ ?_]
      · exact h0.1
      · intro e'
        cases e'
        rw [hr'] at he; cases he
    | obj z => exact h0
  | none => cases e with
    | own z => exact h0
    | obj z =>
      have hk : k ≠ b := by rintro rfl; rw [hr] at he; cases he
      show (w.setCell _ v).heap[k]? = some z
      rw [Below.heap_setCell _ _ _ _ hk]; exact h0

theorem St.row_set {E : Env} {Γ : List HP} {w : World} {b off i : Nat} {vs : List Value} (v : Value) (s : St E (Row b off vs :: Γ) w) (h : i < vs.length) :
    St E (Row b off (vs.set i v) :: Γ) (w.setCell ⟨b, off + i, none⟩ v) := by
  obtain ⟨e, _, ⟨a, r, rfl, hr, d, rfl⟩, H⟩ := s
  have hi : vs[i]? = some vs[i] := List.getElem?_eq_getElem h
  have hrow := row_get (b := b) (off := off) hi
  have hc := H.left.row_cell hi
  have hne : row b off vs b (some (off + i)) ≠ none := by simp [hrow]
  have hlen : ∀ k x, row b off (vs.set i v) k x ≠ none → row b off vs k x ≠ none := by
    intro k x hx
    cases x with
    | none => exact hx
    | some j =>
      obtain ⟨f, hf⟩ := Option.ne_none_iff_exists'.1 hx
      obtain ⟨rfl, h1, z, hz, _⟩ := row_some hf
      have : j - off < vs.length := by simpa using (List.getElem?_eq_some_iff.1 hz).1
      simp [row, h1, List.getElem?_eq_getElem this]
  have hr0 : r b none = none := by
    apply Classical.byContradiction; intro hn
    exact (d b _ _ hne hn).2.2 rfl
  have hr1 : r b (some (off + i)) = none := by
    apply Classical.byContradiction; intro hn
    exact (d b _ _ hne hn).1 rfl
  refine ⟨e, _, ⟨_, _, rfl, hr, fun k x y hx hy => d k x y (hlen k x hx) hy, rfl⟩, ?_⟩
  intro k x f hf
  unfold PH.join at hf
  cases hrow' : row b off (vs.set i v) k x with
  | none => rw [hrow'] at hf; exact Wd.setCell hc.1 hr0 hr1 (H.right d) k x f (by simpa using hf)
  | some f' =>
    rw [hrow'] at hf
    obtain rfl : f' = f := by simpa using hf
    cases x with
    | none => cases hrow'
    | some j =>
      obtain ⟨rfl, h1, z, hz, rfl⟩ := row_some hrow'
      rw [List.getElem?_set] at hz
      by_cases hj : i = j - off
      · rw [if_pos hj, if_pos h] at hz
        obtain rfl : v = z := by simpa using hz
        have ej : off + i = j := by omega
        subst ej
        exact ⟨World.cell?_setCell_same _ _ _ hc.1, by rw [World.frozen?_setCell]; exact hc.2⟩
      · rw [if_neg hj] at hz
        have h2 := H.left.row_cell hz
        have e2 : off + (j - off) = j := by omega
        rw [e2] at h2
        refine ⟨?_, by rw [World.frozen?_setCell]; exact h2.2⟩
        rw [World.cell?_setCell_other _ _ _ _ (by intro e'; cases e'; omega)]
        exact h2.1

/-- A new object. -/
theorem Wd.alloc {h : PH} {w : World} (H : Wd h w) (o : Obj) : Wd h (w.alloc o) := by
  intro k x e he
  have h0 := H k x e he
  have hlt := h0.lt
  cases x with
  | some i => cases e with
    | own z => exact ⟨by rw [World.cell?_alloc_lt _ _ _ hlt]; exact h0.1, by rw [World.frozen?_alloc_old _ _ _ (Nat.ne_of_lt hlt)]; exact h0.2⟩
    | obj z => exact h0
  | none => cases e with
    | own z => exact h0
    | obj z => exact (Below.heap_alloc w o k hlt).trans h0

theorem Wd.new_ne {h : PH} {w : World} (H : Wd h w) {x : Option Nat} : h w.heap.size x = none := by
  cases hh : h w.heap.size x with
  | none => rfl
  | some e => exact absurd (H _ _ _ hh).lt (Nat.lt_irrefl _)

theorem St.alloc_row {E : Env} {Γ : List HP} {w : World} (vs : List Value) (T : TypeId) (s : St E Γ w) : St E (Row w.heap.size 0 vs :: Γ) (w.alloc (.cells vs.toArray T)) := by
  obtain ⟨e, h, a, H⟩ := s
  refine ⟨e, _, ⟨_, h, rfl, a, ?_, rfl⟩, ?_⟩
  · intro k x y hx hy
    cases x with
    | none => exact absurd rfl hx
    | some i =>
      obtain ⟨f, hf⟩ := Option.ne_none_iff_exists'.1 hx
      obtain ⟨rfl, _⟩ := row_some hf
      exact absurd H.new_ne hy
  · intro k x f hf
    unfold PH.join at hf
    cases hrow : row w.heap.size 0 vs k x with
    | none => rw [hrow] at hf; exact H.alloc _ k x f (by simpa using hf)
    | some f' =>
      rw [hrow] at hf
      obtain rfl : f' = f := by simpa using hf
      cases x with
      | none => cases hrow
      | some j =>
        obtain ⟨rfl, _, z, hz, rfl⟩ := row_some hrow
        exact ⟨by rw [World.cell?_alloc_new]; simpa using hz, World.frozen?_alloc_new _ _ _ _⟩

theorem whole_some {b k : Nat} {o : Obj} {x : Option Nat} {e : Bit} (h : (fun (k : Nat) (x : Option Nat) => if k = b ∧ x = none then some (Bit.obj o) else none) k x = some e) : k = b ∧ x = none ∧ e = .obj o := by
  dsimp only at h
  split at h
  · rename_i hc; exact ⟨hc.1, hc.2, by cases h; rfl⟩
  · cases h

theorem St.alloc_whole {E : Env} {Γ : List HP} {w : World} (o : Obj) (s : St E Γ w) : St E (Whole w.heap.size o :: Γ) (w.alloc o) := by
  obtain ⟨e, h, a, H⟩ := s
  refine ⟨e, _, ⟨_, h, rfl, a, ?_, rfl⟩, ?_⟩
  · intro k x y hx hy
    obtain ⟨f, hf⟩ := Option.ne_none_iff_exists'.1 hx
    obtain ⟨rfl, _⟩ := whole_some hf
    exact absurd H.new_ne hy
  · intro k x f hf
    unfold PH.join at hf
    cases hrow : (fun (k : Nat) (x : Option Nat) => if k = w.heap.size ∧ x = none then some (Bit.obj o) else none) k x with
    | none => rw [hrow] at hf; exact H.alloc _ k x f (by simpa using hf)
    | some f' =>
      rw [hrow] at hf
      obtain rfl : f' = f := by simpa using hf
      obtain ⟨rfl, rfl, rfl⟩ := whole_some hrow
      show (w.heap.push o)[w.heap.size]? = some o
      simp

theorem St.whole_get {E : Env} {Γ : List HP} {w : World} {b : Nat} {o : Obj} (s : St E (Whole b o :: Γ) w) : w.heap[b]? = some o := by
  obtain ⟨_, _, ⟨a, r, rfl, _, _, rfl⟩, H⟩ := s
  exact H.left b none (.obj o) (by simp)

theorem St.whole_set {E : Env} {Γ : List HP} {w : World} {b : Nat} {o : Obj} (o' : Obj) (s : St E (Whole b o :: Γ) w) (w' : World) (hw : w' = { w with heap := w.heap.setIfInBounds b o' }) : St E (Whole b o' :: Γ) w' := by
  subst hw
  have hb := s.whole_get
  obtain ⟨e, _, ⟨a, r, rfl, hr, d, rfl⟩, H⟩ := s
  have hlt : b < w.heap.size := (Array.getElem?_eq_some_iff.1 hb).1
  have hrb : ∀ y, r b y = none := fun y => by
    apply Classical.byContradiction; intro hn
    exact (d b none y (by simp) hn).2.1 rfl
  refine ⟨e, _, ⟨_, r, rfl, hr, ?_, rfl⟩, ?_⟩
  · intro k x y hx hy
    obtain ⟨f, hf⟩ := Option.ne_none_iff_exists'.1 hx
    obtain ⟨rfl, rfl, _⟩ := whole_some hf
    exact absurd (hrb y) hy
  · intro k x f hf
    unfold PH.join at hf
    cases hrow : (fun (k : Nat) (x : Option Nat) => if k = b ∧ x = none then some (Bit.obj o') else none) k x with
    | none =>
      rw [hrow] at hf
      have hf' : r k x = some f := by simpa using hf
      have hk : k ≠ b := by rintro rfl; rw [hrb] at hf'; cases hf'
      have h0 := H.right d k x f hf'
      have hh : ({ w with heap := w.heap.setIfInBounds b o' } : World).heap[k]? = w.heap[k]? := by
        simp only [Array.getElem?_setIfInBounds]; rw [if_neg (Ne.symm hk)]
      cases x with
      | some i => cases f with
        | own z => exact ⟨(World.cell?_of_block hh).trans h0.1, (World.frozen?_of_block hh).trans h0.2⟩
        | obj z => exact h0
      | none => cases f with
        | own z => exact h0
        | obj z => exact hh.trans h0
    | some f' =>
      rw [hrow] at hf
      obtain rfl : f' = f := by simpa using hf
      obtain ⟨rfl, rfl, rfl⟩ := whole_some hrow
      show (w.heap.setIfInBounds k o')[k]? = some o'
      simp [hlt]

theorem St.start (w : World) : St (Env.of w) [Old w w.heap.size] w := by
  refine ⟨⟨rfl, rfl, rfl⟩, _, ⟨_, PH.emp, rfl, rfl, PH.disj_emp _, rfl⟩, ?_⟩
  intro k x e he
  simp only [PH.join, PH.emp, Option.or_none] at he
  split at he
  · rename_i hc
    obtain ⟨_, rfl⟩ := hc
    cases hk : w.heap[k]? with
    | none => simp [hk] at he
    | some o => simp [hk] at he; subst he; exact hk
  · cases he

theorem St.old_get {w0 : World} {n : Nat} {E : Env} {Γ : List HP} {w : World} (s : St E (Old w0 n :: Γ) w) (hn : n ≤ w0.heap.size) (k : Nat) (hk : k < n) : w.heap[k]? = w0.heap[k]? := by
  obtain ⟨e, _, ⟨a, r, rfl, _, _, rfl⟩, H⟩ := s
  have h0 : w0.heap[k]? = some w0.heap[k] := Array.getElem?_eq_getElem (by omega)
  rw [h0]
  exact H.left k none (.obj w0.heap[k]) (by simp [hk, h0])

theorem St.below {w0 : World} {Γ : List HP} {w : World} (s : St (Env.of w0) (Old w0 w0.heap.size :: Γ) w) : Below w0.heap.size w0 w := by
  have h := fun k hk => s.old_get (Nat.le_refl _) k hk
  obtain ⟨⟨e1, e2, e3⟩, _⟩ := s
  refine ⟨e1, e2, e3, ?_, h⟩
  apply Classical.byContradiction; intro hlt
  have h1 := h w.heap.size (by omega)
  rw [Array.getElem?_eq_getElem (by omega : w.heap.size < w0.heap.size)] at h1
  simp at h1

end Go.Proofs.Ythneebbmodkjiaa
