/- Separation-style assertions over the model's heap: what a world holds, cell by cell, and how it is changed. Plain lemmas: no program in sight. -/
import Derived.Calls
import Derived.AtR
import Derived.Below
import Derived.KernelRfl
import Derived.Laws.Bits
namespace Go.Proofs.Ythneebbmodkjiaa
open Go.RowKit

/-- What is owned at a place: a cell that may be written; a whole object. -/
inductive Bit where
  | own (v : Value)
  | obj (o : Obj)

/-- A partial heap: by blocks; 'some i': the i-th cell; 'none': the whole block. -/
abbrev PH := Nat → Option Nat → Option Bit

abbrev HP := PH → Prop

def PH.disj (h k : PH) : Prop := ∀ b x y, h b x ≠ none → k b y ≠ none → x ≠ y ∧ x ≠ none ∧ y ≠ none
def PH.join (h k : PH) : PH := fun b x => (h b x).or (k b x)
def PH.emp : PH := fun _ _ => none

theorem PH.disj.symm {h k : PH} (d : h.disj k) : k.disj h := fun b x y hx hy => let ⟨a, c, e⟩ := d b y x hy hx; ⟨Ne.symm a, e, c⟩
theorem PH.join_comm {h k : PH} (d : h.disj k) : h.join k = k.join h := by
  funext b x
  unfold PH.join
  cases h1 : h b x with
  | none => simp
  | some e =>
    cases h2 : k b x with
    | none => simp
    | some f => exact absurd rfl (d b x x (by simp [h1]) (by simp [h2])).1
theorem PH.join_assoc (h k l : PH) : (h.join k).join l = h.join (k.join l) := by
  funext b x; simp [PH.join, Option.or_assoc]
theorem PH.join_emp (h : PH) : h.join PH.emp = h := by funext b x; simp [PH.join, PH.emp]
theorem PH.emp_join (h : PH) : PH.emp.join h = h := by funext b x; simp [PH.join, PH.emp]
theorem PH.emp_disj (h : PH) : PH.emp.disj h := fun _ _ _ hx _ => absurd rfl hx
theorem PH.disj_emp (h : PH) : h.disj PH.emp := fun _ _ _ _ hx => absurd rfl hx
theorem PH.join_ne {h k : PH} {b : Nat} {x : Option Nat} (hx : h.join k b x ≠ none) : h b x ≠ none ∨ k b x ≠ none := by
  unfold PH.join at hx
  cases h1 : h b x with
  | none => right; simpa [h1] using hx
  | some e => left; simp
theorem PH.join_left {h k : PH} {b : Nat} {x : Option Nat} (hx : h b x ≠ none) : h.join k b x ≠ none := by
  unfold PH.join; cases h1 : h b x with
  | none => exact absurd h1 hx
  | some e => simp
theorem PH.join_right {h k : PH} {b : Nat} {x : Option Nat} (hx : k b x ≠ none) : h.join k b x ≠ none := by
  unfold PH.join; cases h1 : h b x with
  | none => simpa using hx
  | some e => simp
theorem PH.disj_join {h k l : PH} : h.disj (k.join l) ↔ h.disj k ∧ h.disj l :=
  ⟨fun d => ⟨fun b x y hx hy => d b x y hx (PH.join_left hy), fun b x y hx hy => d b x y hx (PH.join_right hy)⟩,
   fun ⟨d, e⟩ b x y hx hy => (PH.join_ne hy).elim (d b x y hx) (e b x y hx)⟩
theorem PH.join_disj {h k l : PH} : (h.join k).disj l ↔ h.disj l ∧ k.disj l :=
  ⟨fun d => let ⟨a, b⟩ := PH.disj_join.1 d.symm; ⟨a.symm, b.symm⟩, fun ⟨a, b⟩ => (PH.disj_join.2 ⟨a.symm, b.symm⟩).symm⟩

def Sat : List HP → PH → Prop
  | [], h => h = PH.emp
  | A :: Γ, h => ∃ h1 h2, A h1 ∧ Sat Γ h2 ∧ h1.disj h2 ∧ h = h1.join h2

theorem Sat.append {Γ Δ : List HP} {h : PH} : Sat (Γ ++ Δ) h ↔ ∃ h1 h2, Sat Γ h1 ∧ Sat Δ h2 ∧ h1.disj h2 ∧ h = h1.join h2 := by
  induction Γ generalizing h with
  | nil => exact ⟨fun s => ⟨_, h, rfl, s, PH.emp_disj h, (PH.emp_join h).symm⟩, fun ⟨h1, h2, e, s, _, hh⟩ => by
      cases e; rw [hh, PH.emp_join]; exact s⟩
  | cons A Γ ih =>
    constructor
    · rintro ⟨a, r, hA, hr, d, rfl⟩
      obtain ⟨g, k, hg, hk, d2, rfl⟩ := ih.1 hr
      obtain ⟨d3, d4⟩ := PH.disj_join.1 d
      exact ⟨a.join g, k, ⟨a, g, hA, hg, d3, rfl⟩, hk, PH.join_disj.2 ⟨d4, d2⟩, (PH.join_assoc a g k).symm⟩
    · rintro ⟨ag, k, ⟨a, g, hA, hg, d3, rfl⟩, hk, d, rfl⟩
      obtain ⟨d4, d2⟩ := PH.join_disj.1 d
      exact ⟨a, g.join k, hA, ih.2 ⟨g, k, hg, hk, d2, rfl⟩, PH.disj_join.2 ⟨d3, d4⟩, PH.join_assoc a g k⟩

theorem Sat.perm {Γ Δ : List HP} (p : Γ.Perm Δ) : ∀ {h : PH}, Sat Γ h → Sat Δ h := by
  induction p with
  | nil => exact id
  | cons A _ ih => rintro h ⟨a, r, hA, hr, d, e⟩; exact ⟨a, r, hA, ih hr, d, e⟩
  | swap A B Γ =>
    rintro h ⟨b, r, hB, ⟨a, g, hA, hg, d, rfl⟩, d2, rfl⟩
    obtain ⟨d3, d4⟩ := PH.disj_join.1 d2
    exact ⟨a, b.join g, hA, ⟨b, g, hB, hg, d4, rfl⟩, PH.disj_join.2 ⟨d3.symm, d⟩, by
      rw [← PH.join_assoc, PH.join_comm d3, PH.join_assoc]⟩
  | trans _ _ i1 i2 => exact fun s => i2 (i1 s)

def EntOk (w : World) (b : Nat) : Option Nat → Bit → Prop
  | some o, .own v => w.cell? ⟨b, o, none⟩ = some v ∧ w.frozen? ⟨b, o, none⟩ = false
  | none, .obj o => w.heap[b]? = some o
  | _, _ => False

def Wd (h : PH) (w : World) : Prop := ∀ b x e, h b x = some e → EntOk w b x e

theorem EntOk.lt {w : World} {b : Nat} {x : Option Nat} {e : Bit} (h : EntOk w b x e) : b < w.heap.size := by
  cases x with
  | some o => cases e with
    | own v => exact World.block_lt_of_cell? w ⟨b, o, none⟩ h.1
    | obj o => exact h.elim
  | none => cases e with
    | own v => exact h.elim
    | obj o => exact (Array.getElem?_eq_some_iff.1 h).1

theorem Wd.left {h k : PH} {w : World} (H : Wd (h.join k) w) : Wd h w := fun b x e he => H b x e (by simp [PH.join, he])
theorem Wd.right {h k : PH} {w : World} (d : h.disj k) (H : Wd (h.join k) w) : Wd k w := Wd.left (PH.join_comm d ▸ H)

/-- What of a world no store in memory turns. -/
structure Env where
  os : Os
  tape : Nat → Question → Nat
  output : Array (Nat × ByteArray)
  deriving Inhabited

def Env.of (w : World) : Env := ⟨w.os, w.tape, w.output⟩
def Env.ok (E : Env) (w : World) : Prop := w.os = E.os ∧ w.tape = E.tape ∧ w.output = E.output

/-- THE STATE: the world holds what the list says, each part by itself. -/
def St (E : Env) (Γ : List HP) (w : World) : Prop := E.ok w ∧ ∃ h, Sat Γ h ∧ Wd h w

theorem St.perm {E : Env} {Γ Δ : List HP} {w : World} (p : Γ.Perm Δ) (s : St E Γ w) : St E Δ w :=
  let ⟨e, h, a, b⟩ := s; ⟨e, h, a.perm p, b⟩

theorem St.drop {E : Env} {A : HP} {Γ : List HP} {w : World} (s : St E (A :: Γ) w) : St E Γ w := by
  obtain ⟨e, h, ⟨a, r, _, hr, d, rfl⟩, b⟩ := s
  exact ⟨e, r, hr, b.right d⟩

theorem St.drew {E : Env} {Γ : List HP} {w : World} (s : St E Γ w) : St E Γ w.drew := by
  obtain ⟨e, h, a, b⟩ := s
  refine ⟨e, h, a, fun k x f hk => ?_⟩
  have := b k x f hk
  cases x <;> cases f <;> exact this

/-! ### One state out of another -/
def Ent (Γ Δ : List HP) : Prop := ∀ h, Sat Γ h → ∃ g, Sat Δ g ∧ ∀ b x e, g b x = some e → h b x = some e
theorem Ent.refl (Γ : List HP) : Ent Γ Γ := fun h s => ⟨h, s, fun _ _ _ x => x⟩
theorem Ent.trans {Γ Δ Θ : List HP} (p : Ent Γ Δ) (q : Ent Δ Θ) : Ent Γ Θ := fun h s =>
  let ⟨g, sg, hg⟩ := p h s; let ⟨k, sk, hk⟩ := q g sg; ⟨k, sk, fun b x e he => hg b x e (hk b x e he)⟩
theorem Ent.perm {Γ Δ : List HP} (p : Γ.Perm Δ) : Ent Γ Δ := fun h s => ⟨h, s.perm p, fun _ _ _ x => x⟩
theorem Ent.drop (A : HP) (Γ : List HP) : Ent (A :: Γ) Γ := by
  rintro h ⟨a, r, _, hr, d, rfl⟩
  refine ⟨r, hr, fun b x e he => ?_⟩
  rw [PH.join_comm d]; simp [PH.join, he]
theorem PH.disj.sub {h k g : PH} (d : h.disj k) (s : ∀ b x e, g b x = some e → k b x = some e) : h.disj g := fun b x y hx hy => by
  obtain ⟨e, he⟩ := Option.ne_none_iff_exists'.1 hy
  exact d b x y hx (by rw [s b y e he]; simp)
theorem Ent.cons (A : HP) {Γ Δ : List HP} (p : Ent Γ Δ) : Ent (A :: Γ) (A :: Δ) := by
  rintro h ⟨a, r, hA, hr, d, rfl⟩
  obtain ⟨g, sg, hg⟩ := p r hr
  refine ⟨a.join g, ⟨a, g, hA, sg, d.sub hg, rfl⟩, fun b x e he => ?_⟩
  unfold PH.join at he ⊢
  cases h1 : a b x with
  | some f => simpa [h1] using he
  | none => simp [h1] at he; simp [hg b x e he]
theorem Ent.append (Θ : List HP) {Γ Δ : List HP} (p : Ent Γ Δ) : Ent (Θ ++ Γ) (Θ ++ Δ) := by
  induction Θ with
  | nil => exact p
  | cons A Θ ih => exact ih.cons A
theorem Ent.frame {Γ Δ : List HP} (p : Ent Γ Δ) (Θ : List HP) : Ent (Γ ++ Θ) (Δ ++ Θ) :=
  (Ent.perm List.perm_append_comm).trans ((p.append Θ).trans (Ent.perm List.perm_append_comm))
theorem Ent.st {Γ Δ : List HP} (p : Ent Γ Δ) {E : Env} {w : World} (s : St E Γ w) : St E Δ w :=
  let ⟨e, h, a, b⟩ := s; let ⟨g, sg, hg⟩ := p h a; ⟨e, g, sg, fun k x f hk => b k x f (hg k x f hk)⟩
theorem Ent.one {A B : HP} (p : ∀ h, A h → B h) (Γ : List HP) : Ent (A :: Γ) (B :: Γ) := by
  rintro h ⟨a, r, hA, hr, d, rfl⟩; exact ⟨_, ⟨a, r, p a hA, hr, d, rfl⟩, fun _ _ _ x => x⟩

/-! ### Parts made of parts -/
/-- Several parts as one. -/
def Sep (l : List HP) : HP := Sat l
theorem Ent.sep_out (l Γ : List HP) : Ent (Sep l :: Γ) (l ++ Γ) := by
  rintro h ⟨a, r, hA, hr, d, rfl⟩; exact ⟨_, Sat.append.2 ⟨a, r, hA, hr, d, rfl⟩, fun _ _ _ x => x⟩
theorem Ent.sep_in (l Γ : List HP) : Ent (l ++ Γ) (Sep l :: Γ) := by
  intro h s; obtain ⟨a, r, hA, hr, d, rfl⟩ := Sat.append.1 s; exact ⟨_, ⟨a, r, hA, hr, d, rfl⟩, fun _ _ _ x => x⟩
/-- There is one such that. -/
def Any {α : Sort _} (A : α → HP) : HP := fun h => ∃ a, A a h
/-- A fact beside a part. -/
def Fact (p : Prop) (A : HP) : HP := fun h => p ∧ A h
theorem St.ex {E : Env} {α : Sort _} {A : α → HP} {Γ : List HP} {w : World} (s : St E (Any A :: Γ) w) : ∃ a, St E (A a :: Γ) w :=
  let ⟨e, h, ⟨a, r, ⟨x, hA⟩, hr, d, hh⟩, W⟩ := s; ⟨x, e, h, ⟨a, r, hA, hr, d, hh⟩, W⟩
theorem St.fact {E : Env} {p : Prop} {A : HP} {Γ : List HP} {w : World} (s : St E (Fact p A :: Γ) w) : p ∧ St E (A :: Γ) w :=
  let ⟨e, h, ⟨a, r, ⟨x, hA⟩, hr, d, hh⟩, W⟩ := s; ⟨x, e, h, ⟨a, r, hA, hr, d, hh⟩, W⟩
theorem Ent.ex {α : Sort _} {A : α → HP} (x : α) (Γ : List HP) : Ent (A x :: Γ) (Any A :: Γ) := Ent.one (fun _ h => ⟨x, h⟩) Γ
theorem Ent.fact {p : Prop} (hp : p) {A : HP} (Γ : List HP) : Ent (A :: Γ) (Fact p A :: Γ) := Ent.one (fun _ h => ⟨hp, h⟩) Γ

/-! ### Rows of cells -/
/-- Cells of one block, one behind the other. -/
def row (b off : Nat) (vs : List Value) : PH := fun k x => match x with
  | some i => if k = b ∧ off ≤ i then (vs[i - off]?).map Bit.own else none
  | none => none
def Row (b off : Nat) (vs : List Value) : HP := fun h => h = row b off vs
/-- A whole object. -/
def Whole (b : Nat) (o : Obj) : HP := fun h => h = fun k x => if k = b ∧ x = none then some (.obj o) else none
/-- What lay in a world below a block's number. -/
def Old (w : World) (n : Nat) : HP := fun h => h = fun k x => if k < n ∧ x = none then (w.heap[k]?).map Bit.obj else none
def Emp : HP := fun h => h = PH.emp

theorem row_some {b off k i : Nat} {vs : List Value} {e : Bit} (h : row b off vs k (some i) = some e) : k = b ∧ off ≤ i ∧ ∃ v, vs[i - off]? = some v ∧ e = .own v := by
  unfold row at h
  dsimp only at h
  split at h
  · rename_i hc
    cases hv : vs[i - off]? with
    | none => simp [hv] at h
    | some v => simp [hv] at h; exact ⟨hc.1, hc.2, v, rfl, h.symm⟩
  · simp at h
theorem row_none {b off k : Nat} {vs : List Value} : row b off vs k none = none := rfl
theorem row_get {b off i : Nat} {vs : List Value} {v : Value} (h : vs[i]? = some v) : row b off vs b (some (off + i)) = some (.own v) := by
  simp [row, h]

theorem Wd.row_cell {b off i : Nat} {vs : List Value} {v : Value} {w : World} (H : Wd (row b off vs) w) (h : vs[i]? = some v) :
    w.cell? ⟨b, off + i, none⟩ = some v ∧ w.frozen? ⟨b, off + i, none⟩ = false := H b (some (off + i)) _ (row_get h)

theorem St.row_cell {E : Env} {Γ : List HP} {w : World} {b off i : Nat} {vs : List Value} {v : Value} (s : St E (Row b off vs :: Γ) w) (h : vs[i]? = some v) :
    w.cell? ⟨b, off + i, none⟩ = some v ∧ w.frozen? ⟨b, off + i, none⟩ = false := by
  obtain ⟨_, _, ⟨a, r, rfl, _, _, rfl⟩, H⟩ := s
  exact H.left.row_cell h

theorem row_append (b off : Nat) (xs ys : List Value) : row b off (xs ++ ys) = (row b off xs).join (row b (off + xs.length) ys) := by
  funext k x
  cases x with
  | none => rfl
  | some i =>
    simp only [PH.join, row]
    by_cases hk : k = b
    · subst hk
      by_cases h1 : off ≤ i
      · simp only [h1, and_self, if_true, true_and]
        by_cases h2 : i - off < xs.length
        · rw [List.getElem?_append_left h2]
          have : ¬ off + xs.length ≤ i := by omega
          simp [this]
        · rw [List.getElem?_append_right (by omega)]
          have h3 : off + xs.length ≤ i := by omega
          have h4 : xs[i - off]? = none := by simp; omega
          simp only [h3, if_true, h4, Option.map_none, Option.none_or]
          congr 2; omega
      · have : ¬ off + xs.length ≤ i := by omega
        simp [h1, this]
    · simp [hk]

theorem row_disj (b off : Nat) (xs ys : List Value) (o2 : Nat) (h : off + xs.length ≤ o2) : (row b off xs).disj (row b o2 ys) := by
  intro k x y hx hy
  cases x with
  | none => exact absurd rfl hx
  | some i => cases y with
    | none => exact absurd rfl hy
    | some j =>
      obtain ⟨e, he⟩ := Option.ne_none_iff_exists'.1 hx
      obtain ⟨f, hf⟩ := Option.ne_none_iff_exists'.1 hy
      obtain ⟨_, h1, v, hv, _⟩ := row_some he
      obtain ⟨_, h2, _⟩ := row_some hf
      have : i - off < xs.length := (List.getElem?_eq_some_iff.1 hv).1
      refine ⟨?_, by simp, by simp⟩
      intro e; cases e; omega

/-- A row in two. -/
theorem St.row_split {E : Env} {Γ : List HP} {w : World} {b off : Nat} {xs ys : List Value} :
    St E (Row b off (xs ++ ys) :: Γ) w ↔ St E (Row b off xs :: Row b (off + xs.length) ys :: Γ) w := by
  constructor
  · rintro ⟨e, _, ⟨a, r, rfl, hr, d, rfl⟩, H⟩
    rw [row_append] at d H
    obtain ⟨d1, d2⟩ := PH.join_disj.1 d
    refine ⟨e, _, ⟨_, _, rfl, ⟨_, _, rfl, hr, d2, rfl⟩, PH.disj_join.2 ⟨row_disj _ _ _ _ _ (Nat.le_refl _), d1⟩, rfl⟩, ?_⟩
    rw [← PH.join_assoc]; exact H
  · rintro ⟨e, _, ⟨a, r, rfl, ⟨_, g, rfl, hr, d2, rfl⟩, d, rfl⟩, H⟩
    obtain ⟨_, d1⟩ := PH.disj_join.1 d
    refine ⟨e, _, ⟨_, _, rfl, hr, ?_, rfl⟩, ?_⟩
    · rw [row_append]; exact PH.join_disj.2 ⟨d1, d2⟩
    · rw [row_append, PH.join_assoc]; exact H

/-- A store. -/
theorem Wd.setCell {b o : Nat} {v : Value} {u : Value} {w : World} {r : PH} (hc : w.cell? ⟨b, o, none⟩ = some u) (hr : r b none = none) (hr' : r b (some o) = none) (H : Wd r w) : Wd r (w.setCell ⟨b, o, none⟩ v) := by
  intro k x e he
  have h0 := H k x e he
  cases x with
  | some i => cases e with
    | own z =>
      refine ⟨?_, by rw [World.frozen?_setCell]; exact h0.2⟩
      rw [World.cell?_setCell_other _ _ _ _ ?_]
      · exact h0.1
      · intro e'
        cases e'
        rw [hr'] at he; cases he
    | obj z => exact h0
  | none => cases e with
    | own z => exact h0
    | obj z =>
      have hk : k ≠ b := by rintro rfl; rw [hr] at he; cases he
      show (w.setCell _ v).heap[k]? = some z
      rw [Below.heap_setCell _ _ _ _ hk]; exact h0

theorem St.row_set {E : Env} {Γ : List HP} {w : World} {b off i : Nat} {vs : List Value} (v : Value) (s : St E (Row b off vs :: Γ) w) (h : i < vs.length) :
    St E (Row b off (vs.set i v) :: Γ) (w.setCell ⟨b, off + i, none⟩ v) := by
  obtain ⟨e, _, ⟨a, r, rfl, hr, d, rfl⟩, H⟩ := s
  have hi : vs[i]? = some vs[i] := List.getElem?_eq_getElem h
  have hrow := row_get (b := b) (off := off) hi
  have hc := H.left.row_cell hi
  have hne : row b off vs b (some (off + i)) ≠ none := by simp [hrow]
  have hlen : ∀ k x, row b off (vs.set i v) k x ≠ none → row b off vs k x ≠ none := by
    intro k x hx
    cases x with
    | none => exact hx
    | some j =>
      obtain ⟨f, hf⟩ := Option.ne_none_iff_exists'.1 hx
      obtain ⟨rfl, h1, z, hz, _⟩ := row_some hf
      have : j - off < vs.length := by simpa using (List.getElem?_eq_some_iff.1 hz).1
      simp [row, h1, List.getElem?_eq_getElem this]
  have hr0 : r b none = none := by
    apply Classical.byContradiction; intro hn
    exact (d b _ _ hne hn).2.2 rfl
  have hr1 : r b (some (off + i)) = none := by
    apply Classical.byContradiction; intro hn
    exact (d b _ _ hne hn).1 rfl
  refine ⟨e, _, ⟨_, _, rfl, hr, fun k x y hx hy => d k x y (hlen k x hx) hy, rfl⟩, ?_⟩
  intro k x f hf
  unfold PH.join at hf
  cases hrow' : row b off (vs.set i v) k x with
  | none => rw [hrow'] at hf; exact Wd.setCell hc.1 hr0 hr1 (H.right d) k x f (by simpa using hf)
  | some f' =>
    rw [hrow'] at hf
    obtain rfl : f' = f := by simpa using hf
    cases x with
    | none => cases hrow'
    | some j =>
      obtain ⟨rfl, h1, z, hz, rfl⟩ := row_some hrow'
      rw [List.getElem?_set] at hz
      by_cases hj : i = j - off
      · rw [if_pos hj, if_pos h] at hz
        obtain rfl : v = z := by simpa using hz
        have ej : off + i = j := by omega
        subst ej
        exact ⟨World.cell?_setCell_same _ _ _ hc.1, by rw [World.frozen?_setCell]; exact hc.2⟩
      · rw [if_neg hj] at hz
        have h2 := H.left.row_cell hz
        have e2 : off + (j - off) = j := by omega
        rw [e2] at h2
        refine ⟨?_, by rw [World.frozen?_setCell]; exact h2.2⟩
        rw [World.cell?_setCell_other _ _ _ _ (by intro e'; cases e'; omega)]
        exact h2.1

/-- A new object. -/
theorem Wd.alloc {h : PH} {w : World} (H : Wd h w) (o : Obj) : Wd h (w.alloc o) := by
  intro k x e he
  have h0 := H k x e he
  have hlt := h0.lt
  cases x with
  | some i => cases e with
    | own z => exact ⟨by rw [World.cell?_alloc_lt _ _ _ hlt]; exact h0.1, by rw [World.frozen?_alloc_old _ _ _ (Nat.ne_of_lt hlt)]; exact h0.2⟩
    | obj z => exact h0
  | none => cases e with
    | own z => exact h0
    | obj z => exact (Below.heap_alloc w o k hlt).trans h0

theorem Wd.new_ne {h : PH} {w : World} (H : Wd h w) {x : Option Nat} : h w.heap.size x = none := by
  cases hh : h w.heap.size x with
  | none => rfl
  | some e => exact absurd (H _ _ _ hh).lt (Nat.lt_irrefl _)

theorem St.alloc_row {E : Env} {Γ : List HP} {w : World} (vs : List Value) (T : TypeId) (s : St E Γ w) : St E (Row w.heap.size 0 vs :: Γ) (w.alloc (.cells vs.toArray T)) := by
  obtain ⟨e, h, a, H⟩ := s
  refine ⟨e, _, ⟨_, h, rfl, a, ?_, rfl⟩, ?_⟩
  · intro k x y hx hy
    cases x with
    | none => exact absurd rfl hx
    | some i =>
      obtain ⟨f, hf⟩ := Option.ne_none_iff_exists'.1 hx
      obtain ⟨rfl, _⟩ := row_some hf
      exact absurd H.new_ne hy
  · intro k x f hf
    unfold PH.join at hf
    cases hrow : row w.heap.size 0 vs k x with
    | none => rw [hrow] at hf; exact H.alloc _ k x f (by simpa using hf)
    | some f' =>
      rw [hrow] at hf
      obtain rfl : f' = f := by simpa using hf
      cases x with
      | none => cases hrow
      | some j =>
        obtain ⟨rfl, _, z, hz, rfl⟩ := row_some hrow
        exact ⟨by rw [World.cell?_alloc_new]; simpa using hz, World.frozen?_alloc_new _ _ _ _⟩

theorem whole_some {b k : Nat} {o : Obj} {x : Option Nat} {e : Bit} (h : (fun (k : Nat) (x : Option Nat) => if k = b ∧ x = none then some (Bit.obj o) else none) k x = some e) : k = b ∧ x = none ∧ e = .obj o := by
  dsimp only at h
  split at h
  · rename_i hc; exact ⟨hc.1, hc.2, by cases h; rfl⟩
  · cases h

theorem St.alloc_whole {E : Env} {Γ : List HP} {w : World} (o : Obj) (s : St E Γ w) : St E (Whole w.heap.size o :: Γ) (w.alloc o) := by
  obtain ⟨e, h, a, H⟩ := s
  refine ⟨e, _, ⟨_, h, rfl, a, ?_, rfl⟩, ?_⟩
  · intro k x y hx hy
    obtain ⟨f, hf⟩ := Option.ne_none_iff_exists'.1 hx
    obtain ⟨rfl, _⟩ := whole_some hf
    exact absurd H.new_ne hy
  · intro k x f hf
    unfold PH.join at hf
    cases hrow : (fun (k : Nat) (x : Option Nat) => if k = w.heap.size ∧ x = none then some (Bit.obj o) else none) k x with
    | none => rw [hrow] at hf; exact H.alloc _ k x f (by simpa using hf)
    | some f' =>
      rw [hrow] at hf
      obtain rfl : f' = f := by simpa using hf
      obtain ⟨rfl, rfl, rfl⟩ := whole_some hrow
      show (w.heap.push o)[w.heap.size]? = some o
      simp

theorem St.whole_get {E : Env} {Γ : List HP} {w : World} {b : Nat} {o : Obj} (s : St E (Whole b o :: Γ) w) : w.heap[b]? = some o := by
  obtain ⟨_, _, ⟨a, r, rfl, _, _, rfl⟩, H⟩ := s
  exact H.left b none (.obj o) (by simp)

theorem St.whole_set {E : Env} {Γ : List HP} {w : World} {b : Nat} {o : Obj} (o' : Obj) (s : St E (Whole b o :: Γ) w) (w' : World) (hw : w' = { w with heap := w.heap.setIfInBounds b o' }) : St E (Whole b o' :: Γ) w' := by
  subst hw
  have hb := s.whole_get
  obtain ⟨e, _, ⟨a, r, rfl, hr, d, rfl⟩, H⟩ := s
  have hlt : b < w.heap.size := (Array.getElem?_eq_some_iff.1 hb).1
  have hrb : ∀ y, r b y = none := fun y => by
    apply Classical.byContradiction; intro hn
    exact (d b none y (by simp) hn).2.1 rfl
  refine ⟨e, _, ⟨_, r, rfl, hr, ?_, rfl⟩, ?_⟩
  · intro k x y hx hy
    obtain ⟨f, hf⟩ := Option.ne_none_iff_exists'.1 hx
    obtain ⟨rfl, rfl, _⟩ := whole_some hf
    exact absurd (hrb y) hy
  · intro k x f hf
    unfold PH.join at hf
    cases hrow : (fun (k : Nat) (x : Option Nat) => if k = b ∧ x = none then some (Bit.obj o') else none) k x with
    | none =>
      rw [hrow] at hf
      have hf' : r k x = some f := by simpa using hf
      have hk : k ≠ b := by rintro rfl; rw [hrb] at hf'; cases hf'
      have h0 := H.right d k x f hf'
      have hh : ({ w with heap := w.heap.setIfInBounds b o' } : World).heap[k]? = w.heap[k]? := by
        simp only [Array.getElem?_setIfInBounds]; rw [if_neg (Ne.symm hk)]
      cases x with
      | some i => cases f with
        | own z => exact ⟨(World.cell?_of_block hh).trans h0.1, (World.frozen?_of_block hh).trans h0.2⟩
        | obj z => exact h0
      | none => cases f with
        | own z => exact h0
        | obj z => exact hh.trans h0
    | some f' =>
      rw [hrow] at hf
      obtain rfl : f' = f := by simpa using hf
      obtain ⟨rfl, rfl, rfl⟩ := whole_some hrow
      show (w.heap.setIfInBounds k o')[k]? = some o'
      simp [hlt]

theorem St.start (w : World) : St (Env.of w) [Old w w.heap.size] w := by
  refine ⟨⟨rfl, rfl, rfl⟩, _, ⟨_, PH.emp, rfl, rfl, PH.disj_emp _, rfl⟩, ?_⟩
  intro k x e he
  simp only [PH.join, PH.emp, Option.or_none] at he
  split at he
  · rename_i hc
    obtain ⟨_, rfl⟩ := hc
    cases hk : w.heap[k]? with
    | none => simp [hk] at he
    | some o => simp [hk] at he; subst he; exact hk
  · cases he

theorem St.old_get {w0 : World} {n : Nat} {E : Env} {Γ : List HP} {w : World} (s : St E (Old w0 n :: Γ) w) (hn : n ≤ w0.heap.size) (k : Nat) (hk : k < n) : w.heap[k]? = w0.heap[k]? := by
  obtain ⟨e, _, ⟨a, r, rfl, _, _, rfl⟩, H⟩ := s
  have h0 : w0.heap[k]? = some w0.heap[k] := Array.getElem?_eq_getElem (by omega)
  rw [h0]
  exact H.left k none (.obj w0.heap[k]) (by simp [hk, h0])

theorem St.below {w0 : World} {Γ : List HP} {w : World} (s : St (Env.of w0) (Old w0 w0.heap.size :: Γ) w) : Below w0.heap.size w0 w := by
  have h := fun k hk => s.old_get (Nat.le_refl _) k hk
  obtain ⟨⟨e1, e2, e3⟩, _⟩ := s
  refine ⟨e1, e2, e3, ?_, h⟩
  apply Classical.byContradiction; intro hlt
  have h1 := h w.heap.size (by omega)
  rw [Array.getElem?_eq_getElem (by omega : w.heap.size < w0.heap.size)] at h1
  simp at h1

end Go.Proofs.Ythneebbmodkjiaa

namespace Go.Proofs.Ythneebbmodkjiaa
open Go.RowKit

/-! ### Slots -/
abbrev Rho := List (Nat × Value)
def lk : Rho → Nat → Option Value
  | [], _ => none
  | (k, v) :: r, i => match Nat.beq k i with
    | true => some v
    | false => lk r i
def Mat (ρ : Rho) (t : Array Value) : Prop := ∀ i v, lk ρ i = some v → t[i]? = some v
def ev (ρ : Rho) : Operand → Option Value
  | .tmp t => lk ρ t
  | .const v => some v
  | .global g => some (.pointer (some ⟨g, 0, none⟩))
  | .func f => some (.func (.func f) #[] #[])
def evL (ρ : Rho) : List Operand → Option (List Value)
  | [] => some []
  | x :: xs => match ev ρ x with
    | some v => match evL ρ xs with
      | some vs => some (v :: vs)
      | none => none
    | none => none

theorem Mat.nil (t : Array Value) : Mat [] t := fun _ _ h => by cases h
theorem Mat.ev {ρ : Rho} {t : Array Value} (h : Mat ρ t) (ds : List Deferred) {x : Operand} {v : Value} (hx : ev ρ x = some v) : (Act.mk t ds).eval x = v := by
  cases x with
  | tmp i => have := h i v hx; simp [Act.eval, Array.getD_eq_getD_getElem?, this]
  | const c => cases hx; rfl
  | global g => cases hx; rfl
  | func f => cases hx; rfl
theorem Mat.evL {ρ : Rho} {t : Array Value} (h : Mat ρ t) (ds : List Deferred) : ∀ {xs : List Operand} {vs : List Value}, evL ρ xs = some vs → xs.map (Act.mk t ds).eval = vs := by
  intro xs
  induction xs with
  | nil => intro vs hv; cases hv; rfl
  | cons x xs ih =>
    intro vs hv
    unfold Ythneebbmodkjiaa.evL at hv
    cases h1 : Ythneebbmodkjiaa.ev ρ x with
    | none => simp [h1] at hv
    | some v =>
      cases h2 : Ythneebbmodkjiaa.evL ρ xs with
      | none => simp [h1, h2] at hv
      | some us =>
        simp [h1, h2] at hv
        subst hv
        rw [List.map_cons, h.ev ds h1, ih h2]
theorem Mat.put {ρ : Rho} {t : Array Value} (h : Mat ρ t) {d : Nat} (v : Value) (hd : d < t.size) : Mat ((d, v) :: ρ) (t.setIfInBounds d v) := by
  intro i u hu
  unfold lk at hu
  rw [Array.getElem?_setIfInBounds]
  cases hb : Nat.beq d i with
  | true =>
    rw [hb] at hu
    have e := Nat.eq_of_beq_eq_true hb
    subst e
    simp at hu
    simp [hd, hu]
  | false =>
    rw [hb] at hu
    have e := Nat.ne_of_beq_eq_false hb
    rw [if_neg e]
    exact h i u hu

/-- Each slot of the first list is there in the second. -/
def subR : Rho → Rho → Prop
  | [], _ => True
  | (i, v) :: r, ρ => lk ρ i = some v ∧ subR r ρ
theorem Mat.sub {ρ ρ' : Rho} {t : Array Value} (h : Mat ρ t) (s : subR ρ' ρ) : Mat ρ' t := by
  induction ρ' with
  | nil => exact Mat.nil t
  | cons e r ih =>
    obtain ⟨i, v⟩ := e
    intro j u hu
    unfold lk at hu
    cases hb : Nat.beq i j with
    | true =>
      rw [hb] at hu
      have e := Nat.eq_of_beq_eq_true hb
      subst e
      simp at hu; subst hu
      exact h i v s.1
    | false => rw [hb] at hu; exact ih s.2 j u hu

/-! ### Coming somewhere -/
def Reach (P : Program) (m : Machine) (G : Machine → Prop) : Prop := ∃ m', Steps P m m' ∧ G m'
theorem Reach.now {P : Program} {m : Machine} {G : Machine → Prop} (h : G m) : Reach P m G := ⟨m, .refl P m, h⟩
theorem Reach.step {P : Program} {m m' : Machine} {G : Machine → Prop} (h : step P m = .next m') (h' : Reach P m' G) : Reach P m G :=
  let ⟨x, s, g⟩ := h'; ⟨x, .head h s, g⟩
theorem Reach.trans {P : Program} {m : Machine} {G G' : Machine → Prop} (h : Reach P m G) (k : ∀ x, G x → Reach P x G') : Reach P m G' :=
  let ⟨x, s, g⟩ := h; let ⟨y, t, g'⟩ := k x g; ⟨y, Steps.trans s t, g'⟩
theorem Reach.steps {P : Program} {m m' : Machine} {G : Machine → Prop} (h : Steps P m m') (h' : Reach P m' G) : Reach P m G :=
  let ⟨x, s, g⟩ := h'; ⟨x, Steps.trans h s, g⟩

/-- What stands still while a body is walked: the function, the loop whose round it is, who called, what no store turns, where to come. -/
structure Cx where
  fn : FuncId
  ro : Option Nat
  cs : List Frame
  E : Env
  G : Machine → Prop

def Cx.base (X : Cx) : Frame := { (default : Frame) with fn := X.fn, kind := .normal, roundOf := X.ro }

def Ex (P : Program) (X : Cx) (n : Nat) (ds : List Deferred) (todo : List Item) (ρ : Rho) (Γ : List HP) : Prop :=
  ∀ (tmps : Array Value) (w : World), tmps.size = n → Mat ρ tmps → St X.E Γ w → Reach P (lone (X.base.atR ⟨tmps, ds⟩ todo) X.cs w) X.G

section ctl
variable {P : Program} {X : Cx} {n : Nat} {ds : List Deferred} {k : List Item} {ρ : Rho} {Γ : List HP}
theorem x_skip (h : Ex P X n ds k ρ Γ) : Ex P X n ds (.code .skip :: k) ρ Γ := fun t w hn hm hs => .step stepR_skip (h t w hn hm hs)
theorem x_label {l : Nat} (h : Ex P X n ds k ρ Γ) : Ex P X n ds (.code (.label l) :: k) ρ Γ := fun t w hn hm hs => .step stepR_label (h t w hn hm hs)
theorem x_inBlock {id : Nat} (h : Ex P X n ds k ρ Γ) : Ex P X n ds (.inBlock id :: k) ρ Γ := fun t w hn hm hs => .step stepR_inBlock (h t w hn hm hs)
theorem x_inScope {c : Code} (h : Ex P X n ds k ρ Γ) : Ex P X n ds (.inScope c :: k) ρ Γ := fun t w hn hm hs =>
  .step (step_lone_go (by simp [stepG, stepG.exec, Frame.atR])) (h t w hn hm hs)
theorem x_seq {a b : Code} (h : Ex P X n ds (.code a :: .code b :: k) ρ Γ) : Ex P X n ds (.code (.seq a b) :: k) ρ Γ := fun t w hn hm hs => .step stepR_seq (h t w hn hm hs)
theorem x_block {id : Nat} {c : Code} (h : Ex P X n ds (.code c :: .inBlock id :: k) ρ Γ) : Ex P X n ds (.code (.block id c) :: k) ρ Γ := fun t w hn hm hs => .step stepR_block (h t w hn hm hs)
theorem x_scope {c : Code} (h : Ex P X n ds (.code c :: .inScope c :: k) ρ Γ) : Ex P X n ds (.code (.scope c) :: k) ρ Γ := fun t w hn hm hs =>
  .step (step_lone_go (by simp [stepG, stepG.exec, Frame.atR])) (h t w hn hm hs)
theorem x_true {c : Operand} {a b : Code} (hc : ev ρ c = some (.bool true)) (h : Ex P X n ds (.code a :: k) ρ Γ) : Ex P X n ds (.code (.cond c a b) :: k) ρ Γ :=
  fun t w hn hm hs => .step (stepR_cond (hm.ev ds hc)) (h t w hn hm hs)
theorem x_false {c : Operand} {a b : Code} (hc : ev ρ c = some (.bool false)) (h : Ex P X n ds (.code b :: k) ρ Γ) : Ex P X n ds (.code (.cond c a b) :: k) ρ Γ :=
  fun t w hn hm hs => .step (stepR_cond (hm.ev ds hc)) (h t w hn hm hs)
theorem x_cond {c : Operand} {a b : Code} {p : Bool} (hc : ev ρ c = some (.bool p)) (h1 : p = true → Ex P X n ds (.code a :: k) ρ Γ) (h2 : p = false → Ex P X n ds (.code b :: k) ρ Γ) :
    Ex P X n ds (.code (.cond c a b) :: k) ρ Γ := by
  cases p with
  | true => exact x_true hc (h1 rfl)
  | false => exact x_false hc (h2 rfl)
theorem x_exit {id : Nat} {k' : List Item} (he : exitTo id k = some k') (h : Ex P X n ds k' ρ Γ) : Ex P X n ds (.code (.exit id) :: k) ρ Γ := fun t w hn hm hs => .step (stepR_exit he) (h t w hn hm hs)
theorem x_goto {l : Nat} {k' : List Item} (he : gotoIn l k = some k') (h : Ex P X n ds k' ρ Γ) : Ex P X n ds (.code (.goto l) :: k) ρ Γ := fun t w hn hm hs => .step (stepR_goto he) (h t w hn hm hs)

/-- Less is known. -/
theorem x_weak {ρ' : Rho} {Γ' : List HP} {todo : List Item} (h : Ex P X n ds todo ρ' Γ') (hρ : subR ρ' ρ) (hΓ : Ent Γ Γ') : Ex P X n ds todo ρ Γ :=
  fun t w hn hm hs => h t w hn (hm.sub hρ) (hΓ.st hs)
theorem x_mem {Γ' : List HP} {todo : List Item} (hΓ : Ent Γ Γ') (h : Ex P X n ds todo ρ Γ') : Ex P X n ds todo ρ Γ :=
  fun t w hn hm hs => h t w hn hm (hΓ.st hs)
theorem x_open {α : Type} {Γ' : α → List HP} {todo : List Item} (hΓ : ∀ E w, St E Γ w → ∃ a, St E (Γ' a) w) (h : ∀ a, Ex P X n ds todo ρ (Γ' a)) : Ex P X n ds todo ρ Γ :=
  fun t w hn hm hs => let ⟨a, s⟩ := hΓ _ _ hs; h a t w hn hm s

theorem x_inLoop {c : Code} (h : Ex P X n ds (.code c :: .inLoop c :: k) ρ Γ) : Ex P X n ds (.inLoop c :: k) ρ Γ := fun t w hn hm hs => .step stepR_inLoop (h t w hn hm hs)
/-- A loop: what is known at each round's head, by a, under I; a measure that falls. -/
theorem x_loop {c : Code} {α : Type} (I : α → Prop) (ρI : α → Rho) (ΓI : α → List HP) (μ : α → Nat) (a0 : α) (h0 : I a0) (hρ : subR (ρI a0) ρ) (hΓ : Ent Γ (ΓI a0))
    (round : ∀ a, I a → (∀ a', I a' → μ a' < μ a → Ex P X n ds (.inLoop c :: k) (ρI a') (ΓI a')) → Ex P X n ds (.code c :: .inLoop c :: k) (ρI a) (ΓI a)) :
    Ex P X n ds (.code (.loop c) :: k) ρ Γ := by
  have key : ∀ m a, μ a = m → I a → Ex P X n ds (.code c :: .inLoop c :: k) (ρI a) (ΓI a) := by
    intro m
    induction m using Nat.strongRecOn with
    | _ m ih => exact fun a ha hI => round a hI fun a' hI' hlt => x_inLoop (ih (μ a') (ha ▸ hlt) a' rfl hI')
  exact fun t w hn hm hs => .step stepR_loop (key _ a0 rfl h0 t w hn (hm.sub hρ) (hΓ.st hs))
end ctl

/-! ### A list of operations -/
def ExR (P : Program) (X : Cx) (n : Nat) (ds : List Deferred) (ops : Array Oper) (l : List Oper) (k : List Item) (ρ : Rho) (Γ : List HP) : Prop :=
  ∀ i, ops.toList.drop i = l → Ex P X n ds (.inRegion ops (List.range' i l.length) :: k) ρ Γ

/-- All that the first slots say the second say. -/
def leR (ρ ρ' : Rho) : Prop := ∀ i v, lk ρ i = some v → lk ρ' i = some v
theorem leR.refl (ρ : Rho) : leR ρ ρ := fun _ _ h => h
theorem Mat.le {ρ ρ' : Rho} {t : Array Value} (h : Mat ρ' t) (s : leR ρ ρ') : Mat ρ t := fun i v hv => h i v (s i v hv)
def put (dst : Option Tmp) (v : Value) (ρ : Rho) : Rho := match dst with
  | some d => (d, v) :: ρ
  | none => ρ
/-- One operation, whatever comes behind it: Nx is what is to hold of its value and of the heap there. -/
def ExO (P : Program) (X : Cx) (n : Nat) (ds : List Deferred) (dst : Option Tmp) (op : Op) (ty : TypeId) (Nx : Value → List HP → Prop) (ρ : Rho) (Γ : List HP) : Prop :=
  ∀ (ops : Array Oper) (i : Nat) (o : Oper) (rest : List Nat) (k : List Item) (ρF : Rho), leR ρ ρF → ops[i]? = some o → o.dst = dst → o.op = op → o.type = ty → (∀ t, Mat ρF t → Region.wanted o (yielded ops t) = true) →
    (∀ v Γ', Nx v Γ' → Ex P X n ds (.inRegion ops rest :: k) (put dst v ρF) Γ') → Ex P X n ds (.inRegion ops (i :: rest) :: k) ρF Γ

section ops
variable {P : Program} {X : Cx} {n : Nat} {ds : List Deferred} {k : List Item} {ρ : Rho} {Γ : List HP} {ops : Array Oper} {l : List Oper}

theorem x_region {id : Nat} {l : List Oper} (h : ExR P X n ds l.toArray l k ρ Γ) : Ex P X n ds (.code (.region id l.toArray false) :: k) ρ Γ :=
  fun t w hn hm hs => .step stepR_region (by
    have := h 0 (by simp) t w hn hm hs
    simpa [List.range_eq_range'] using this)
theorem r_nil (h : Ex P X n ds k ρ Γ) : ExR P X n ds ops [] k ρ Γ := fun _ _ t w hn hm hs => .step stepR_region_end (h t w hn hm hs)

theorem drop_cons {i : Nat} {o : Oper} (h : ops.toList.drop i = o :: l) : ops[i]? = some o ∧ ops.toList.drop (i + 1) = l := by
  constructor
  · have : (ops.toList.drop i)[0]? = some o := by rw [h]; rfl
    rw [List.getElem?_drop] at this
    simpa using this
  · have : (ops.toList.drop i).drop 1 = l := by rw [h]; rfl
    rwa [List.drop_drop] at this

theorem r_op {d : Nat} {op : Op} {ty : TypeId} {pos : String} {af : Array Edge} (h : ExO P X n ds (some d) op ty (fun v Γ' => ExR P X n ds ops l k ((d, v) :: ρ) Γ') ρ Γ) : ExR P X n ds ops (⟨some d, op, ty, pos, af, none⟩ :: l) k ρ Γ := by
  intro i hi
  obtain ⟨ho, hd⟩ := drop_cons hi
  exact h ops i _ _ k ρ (.refl ρ) ho rfl rfl rfl (fun _ _ => rfl) (fun _ _ hx => hx (i + 1) hd)
theorem r_do {op : Op} {ty : TypeId} {pos : String} {af : Array Edge} (h : ExO P X n ds none op ty (fun _ Γ' => ExR P X n ds ops l k ρ Γ') ρ Γ) : ExR P X n ds ops (⟨none, op, ty, pos, af, none⟩ :: l) k ρ Γ := by
  intro i hi
  obtain ⟨ho, hd⟩ := drop_cons hi
  exact h ops i _ _ k ρ (.refl ρ) ho rfl rfl rfl (fun _ _ => rfl) (fun _ _ hx => hx (i + 1) hd)

/-- What an operation that was done has left in its slot. -/
def gd (ρ : Rho) (ops : Array Oper) (j : Nat) : Option Value := match (ops[j]?).bind (·.dst) with
  | some d => lk ρ d
  | none => none

theorem gd_yielded {j : Nat} {b : Bool} (h : gd ρ ops j = some (.bool b)) {t : Array Value} (hm : Mat ρ t) : yielded ops t j = some b := by
  unfold gd at h
  unfold yielded
  cases hd : (ops[j]?).bind (·.dst) with
  | none => simp [hd] at h
  | some d => simp [hd] at h; simp [hm d _ h]
theorem gd_undef {j : Nat} (h : gd ρ ops j = some undef) {t : Array Value} (hm : Mat ρ t) : yielded ops t j = none := by
  unfold gd at h
  unfold yielded
  cases hd : (ops[j]?).bind (·.dst) with
  | none => simp
  | some d => simp [hd] at h; simp [hm d _ h, undef]

theorem r_guard {d : Nat} {op : Op} {ty : TypeId} {pos : String} {af : Array Edge} {j : Nat} {b : Bool} (hg : gd ρ ops j = some (.bool b)) (h : ExO P X n ds (some d) op ty (fun v Γ' => ExR P X n ds ops l k ((d, v) :: ρ) Γ') ρ Γ) :
    ExR P X n ds ops (⟨some d, op, ty, pos, af, some (j, b)⟩ :: l) k ρ Γ := by
  intro i hi
  obtain ⟨ho, hd⟩ := drop_cons hi
  exact h ops i _ _ k ρ (.refl ρ) ho rfl rfl rfl (fun t hm => by simp [Region.wanted, gd_yielded hg hm]) (fun _ _ hx => hx (i + 1) hd)

theorem r_pass {i : Nat} {o : Oper} (ho : ops[i]? = some o) (hw : ∀ t, Mat ρ t → Region.wanted o (yielded ops t) = false) (hd : ops.toList.drop (i + 1) = l) {d : Nat} (hdst : o.dst = some d) (hn : Nat.blt d n = true)
    (h : ExR P X n ds ops l k ((d, undef) :: ρ) Γ) : Ex P X n ds (.inRegion ops (List.range' i (l.length + 1)) :: k) ρ Γ := by
  intro t w htn hm hs
  have hlt : d < t.size := by rw [htn]; exact of_decide_eq_true (by simpa [Nat.blt_eq] using hn)
  refine .step (stepR_op_skip (by simp [ho, hw t hm])) ?_
  have hp : ((ops[i]?).bind (·.dst)) = some d := by simp [ho, hdst]
  rw [hp]
  exact h (i + 1) hd (t.setIfInBounds d undef) w (by simpa using htn) (hm.put undef hlt) hs

theorem r_skip {d : Nat} {op : Op} {ty : TypeId} {pos : String} {af : Array Edge} {j : Nat} {b c : Bool} (hg : gd ρ ops j = some (.bool c)) (hbc : (c == b) = false) (hn : Nat.blt d n = true)
    (h : ExR P X n ds ops l k ((d, undef) :: ρ) Γ) : ExR P X n ds ops (⟨some d, op, ty, pos, af, some (j, b)⟩ :: l) k ρ Γ := by
  intro i hi
  obtain ⟨ho, hd⟩ := drop_cons hi
  exact r_pass ho (fun t hm => by
    simp only [Region.wanted, gd_yielded hg hm]
    cases c <;> cases b <;> first | rfl | cases hbc) hd rfl hn h
theorem r_skip' {d : Nat} {op : Op} {ty : TypeId} {pos : String} {af : Array Edge} {j : Nat} {b : Bool} (hg : gd ρ ops j = some undef) (hn : Nat.blt d n = true)
    (h : ExR P X n ds ops l k ((d, undef) :: ρ) Γ) : ExR P X n ds ops (⟨some d, op, ty, pos, af, some (j, b)⟩ :: l) k ρ Γ := by
  intro i hi
  obtain ⟨ho, hd⟩ := drop_cons hi
  exact r_pass ho (fun t hm => by simp [Region.wanted, gd_undef hg hm]) hd rfl hn h

end ops

section ops
variable {P : Program} {X : Cx} {n : Nat} {ds : List Deferred} {ρ : Rho} {Γ : List HP} {Nx : Value → List HP → Prop}
/-- An operation that leaves a value. -/
theorem o_value {d : Nat} {op : Op} {ty : TypeId} (hnd : ∀ c, op ≠ .defer c) (hn : Nat.blt d n = true)
    (h : ∀ (e : Operand → Value) (o : Oper) (w : World), o.op = op → o.type = ty → (∀ x v, ev ρ x = some v → e x = v) → (∀ xs vs, evL ρ xs = some vs → xs.map e = vs) → St X.E Γ w →
      ∃ v w' Γ', (execOp e o).run P w = .ok (.value v) w' ∧ St X.E Γ' w' ∧ Nx v Γ') :
    ExO P X n ds (some d) op ty Nx ρ Γ := by
  intro ops i o rest k ρF hle ho hdst hop hty hw hK t w htn hm hs
  obtain ⟨v, w', Γ', hr, hs', hnext⟩ := h (Act.mk t ds).eval o w hop hty (fun x v hx => (hm.le hle).ev ds hx) (fun xs vs hx => (hm.le hle).evL ds hx) hs
  have hlt : d < t.size := by rw [htn]; exact of_decide_eq_true (by simpa [Nat.blt_eq] using hn)
  refine .step (m' := lone (X.base.atR ⟨t.setIfInBounds d v, ds⟩ (.inRegion ops rest :: k)) X.cs w') (step_lone_go ?_)
    (hK _ _ hnext _ w' (by simpa using htn) (hm.put v hlt) hs')
  rw [stepGR_op ho (hw t hm), Oper.semAt_eq _ _ _ (by rw [hop]; exact hnd)]
  have hfin := Frame.finish_atR X.base ⟨t, ds⟩ ops i rest k v
  have hp : ((ops[i]?).bind (·.dst)) = some d := by simp [ho, hdst]
  rw [hp] at hfin
  simp only [stepG.apply, Sem.runT_eq, hr, if_true, GStep.bare_after, hfin]
  rfl
theorem o_skip {op : Op} {ty : TypeId} (hnd : ∀ c, op ≠ .defer c)
    (h : ∀ (e : Operand → Value) (o : Oper) (w : World), o.op = op → o.type = ty → (∀ x v, ev ρ x = some v → e x = v) → St X.E Γ w →
      ∃ w' Γ', (execOp e o).run P w = .ok .skip w' ∧ St X.E Γ' w' ∧ Nx undef Γ') :
    ExO P X n ds none op ty Nx ρ Γ := by
  intro ops i o rest k ρF hle ho hdst hop hty hw hK t w htn hm hs
  obtain ⟨w', Γ', hr, hs', hnext⟩ := h (Act.mk t ds).eval o w hop hty (fun x v hx => (hm.le hle).ev ds hx) hs
  refine .step (m' := lone (X.base.atR ⟨t, ds⟩ (.inRegion ops rest :: k)) X.cs w') (step_lone_go ?_)
    (hK _ _ hnext _ w' htn hm hs')
  rw [stepGR_op ho (hw t hm), Oper.semAt_eq _ _ _ (by rw [hop]; exact hnd)]
  have hfin := Frame.finish_atR X.base ⟨t, ds⟩ ops i rest k undef
  have hp : ((ops[i]?).bind (·.dst)) = none := by simp [ho, hdst]
  rw [hp] at hfin
  simp only [stepG.apply, Sem.runT_eq, hr, if_true, GStep.bare_after, hfin]
  rfl
theorem ExO.mono {dst : Option Tmp} {op : Op} {ty : TypeId} {Nx Nx' : Value → List HP → Prop} (h : ExO P X n ds dst op ty Nx ρ Γ) (hx : ∀ v Γ', Nx v Γ' → Nx' v Γ') : ExO P X n ds dst op ty Nx' ρ Γ :=
  fun ops i o rest k ρF hle ho hdst hop hty hw hK => h ops i o rest k ρF hle ho hdst hop hty hw fun v Γ' hn => hK v Γ' (hx _ _ hn)
theorem ExO.le {dst : Option Tmp} {op : Op} {ty : TypeId} {ρ' : Rho} (h : ExO P X n ds dst op ty Nx ρ Γ) (hle : leR ρ ρ') : ExO P X n ds dst op ty Nx ρ' Γ :=
  fun ops i o rest k ρF hle' => h ops i o rest k ρF fun i v hv => hle' i v (hle i v hv)

/-- AN OPERATION THAT ONLY LOOKS: its value, whatever the world, as long as that holds what Γ says. -/
def OpV (P : Program) (op : Op) (ty : TypeId) (ρ : Rho) (Γ : List HP) (v : Value) : Prop :=
  (∀ c, op ≠ .defer c) ∧ ∀ (e : Operand → Value) (o : Oper) (E : Env) (w : World), o.op = op → o.type = ty → (∀ x v, ev ρ x = some v → e x = v) → (∀ xs vs, evL ρ xs = some vs → xs.map e = vs) → St E Γ w → (execOp e o).run P w = .ok (.value v) w
theorem o_v {d : Nat} {op : Op} {ty : TypeId} {v : Value} (h : OpV P op ty ρ Γ v) (hn : Nat.blt d n = true) (hx : Nx v Γ) : ExO P X n ds (some d) op ty Nx ρ Γ :=
  o_value h.1 hn fun e o w hop hty he heL hs => ⟨v, w, Γ, h.2 e o X.E w hop hty he heL hs, hs, hx⟩
theorem OpV.weak {op : Op} {ty : TypeId} {v : Value} {Δ : List HP} (h : OpV P op ty ρ Γ v) (he : ∀ E w, St E Δ w → St E Γ w) : OpV P op ty ρ Δ v :=
  ⟨h.1, fun e o E w hop hty h1 h2 hs => h.2 e o E w hop hty h1 h2 (he E w hs)⟩
end ops
end Go.Proofs.Ythneebbmodkjiaa


namespace Go.Proofs.Ythneebbmodkjiaa
open Go.RowKit

/-! ### Facts on types, found by instances -/
def cellB (d : TypeDesc) (i : TypeInfo) : Bool := match d with
  | .struct _ => false
  | .array _ _ => false
  | _ => i.size == 1
def aggB (d : TypeDesc) (i : TypeInfo) (s : Nat) : Bool := match d with
  | .struct _ => i.size == s
  | .array _ _ => i.size == s
  | _ => false
/-- A type of one cell. -/
class TyCell (P : Program) (t : TypeId) : Prop where h : ∃ d i, P.underlying t = some d ∧ P.info? t = some i ∧ cellB d i = true
/-- A struct or an array of so many cells. -/
class TyAgg (P : Program) (t : TypeId) (s : outParam Nat) : Prop where h : ∃ d i, P.underlying t = some d ∧ P.info? t = some i ∧ aggB d i s = true
/-- A slice's element, its cells, its bytes. -/
class TySlice (P : Program) (t : TypeId) (e s y : outParam Nat) : Prop where h : ∃ i, P.underlying t = some (.slice e) ∧ P.info? e = some i ∧ i.size = s ∧ i.bytes = y
class TyArray (P : Program) (t : TypeId) (m e s : outParam Nat) : Prop where h : ∃ i, P.underlying t = some (.array m e) ∧ P.info? e = some i ∧ i.size = s
/-- A struct's field: where it begins, its type. -/
class TyField (P : Program) (t : TypeId) (f : Nat) (off : outParam Nat) : Prop where h : ∃ fs fd i, P.underlying t = some (.struct fs) ∧ fs[f]? = some fd ∧ fd.offset = off ∧ P.info? fd.type = some i ∧ i.size ≠ 0
/-- A field of one cell that is read off a value. -/
class TyFieldV (P : Program) (t : TypeId) (f : Nat) (off : outParam Nat) : Prop where h : ∃ fs fd, P.underlying t = some (.struct fs) ∧ fs[f]? = some fd ∧ fd.offset = off ∧ TyCell P fd.type

section
variable {P : Program}
theorem TyCell.size {t : TypeId} [T : TyCell P t] : ∃ i, P.info? t = some i ∧ i.size = 1 := by
  obtain ⟨d, i, _, hi, h⟩ := T.h
  refine ⟨i, hi, ?_⟩
  cases d <;> first | cases h | simpa [cellB] using h
theorem TyCell.agg {t : TypeId} [T : TyCell P t] (w : World) : (isAgg t).run P w = .ok false w := by
  obtain ⟨d, i, hd, _, h⟩ := T.h
  simp only [isAgg, underlying, Sem.run_bind, run_program, Result.andThen_ok, hd, Sem.run_pure]
  cases d <;> first | cases h | rfl
theorem TyAgg.agg {t s : Nat} [T : TyAgg P t s] (w : World) : (isAgg t).run P w = .ok true w := by
  obtain ⟨d, i, hd, _, h⟩ := T.h
  simp only [isAgg, underlying, Sem.run_bind, run_program, Result.andThen_ok, hd, Sem.run_pure]
  cases d <;> first | cases h | rfl
theorem TyAgg.size {t s : Nat} [T : TyAgg P t s] : ∃ i, P.info? t = some i ∧ i.size = s := by
  obtain ⟨d, i, _, hi, h⟩ := T.h
  refine ⟨i, hi, ?_⟩
  cases d <;> first | cases h | simpa [aggB] using h
theorem TySlice.und {t e s y : Nat} [T : TySlice P t e s y] : P.underlying t = some (.slice e) ∧ ∃ i, P.info? e = some i ∧ i.size = s ∧ i.bytes = y := by
  obtain ⟨i, a, b, c, d⟩ := T.h
  exact ⟨a, i, b, c, d⟩
theorem TyArray.und {t m e s : Nat} [T : TyArray P t m e s] : P.underlying t = some (.array m e) ∧ ∃ i, P.info? e = some i ∧ i.size = s := by
  obtain ⟨i, a, b, c⟩ := T.h
  exact ⟨a, i, b, c⟩
theorem sizeOf_run {t : TypeId} {i : TypeInfo} (h : P.info? t = some i) (w : World) : (sizeOf t).run P w = .ok i.size w := by
  simp [sizeOf, typeInfo, h]
theorem underlying_run {t : TypeId} {d : TypeDesc} (h : P.underlying t = some d) (w : World) : (underlying t).run P w = .ok d w := by
  simp [underlying, h]
theorem typeInfo_run {t : TypeId} {i : TypeInfo} (h : P.info? t = some i) (w : World) : (typeInfo t).run P w = .ok i w := by
  simp [typeInfo, h]

theorem Addr.add_none (b o m : Nat) : (Addr.mk b o none).add m = ⟨b, o + m, none⟩ := by
  unfold Addr.add; split
  · subst_vars; rfl
  · rfl

/-- Reading so many cells. -/
theorem loadCellsFrom_run {b o : Nat} {w : World} : ∀ (m i : Nat) (acc : Array Value) (vs : List Value), vs.length = m → (∀ j v, vs[j]? = some v → w.cell? ⟨b, o + (i + j), none⟩ = some v) →
    (loadCellsFrom ⟨b, o, none⟩ i m acc).run P w = .ok (acc ++ vs.toArray) w := by
  intro m
  induction m with
  | zero => intro i acc vs hl _; have : vs = [] := List.length_eq_zero_iff.1 hl; subst this; simp [loadCellsFrom]
  | succ m ih =>
    intro i acc vs hl hc
    cases vs with
    | nil => simp at hl
    | cons v vs =>
      have h0 : w.cell? ⟨b, o + i, none⟩ = some v := by simpa using hc 0 v rfl
      simp only [loadCellsFrom, Sem.run_bind, run_load, Addr.add_none, h0, Result.andThen_ok]
      rw [ih (i + 1) (acc.push v) vs (by simpa using hl) (fun j u hj => by
        have := hc (j + 1) u (by simpa using hj)
        rw [show o + (i + 1 + j) = o + (i + (j + 1)) by omega]; exact this)]
      simp
theorem loadCells_run {b o m : Nat} {w : World} {vs : List Value} (hl : vs.length = m) (hc : ∀ j v, vs[j]? = some v → w.cell? ⟨b, o + j, none⟩ = some v) :
    (loadCells ⟨b, o, none⟩ m).run P w = .ok vs.toArray w := by
  unfold loadCells
  rw [loadCellsFrom_run m 0 #[] vs hl (fun j v hj => by simpa using hc j v hj)]
  simp
end

/-! ### Finding a part of the heap -/
class HasRow (Γ : List HP) (b : Nat) (off : outParam Nat) (vs : outParam (List Value)) : Prop where
  h : ∃ Δ, Γ.Perm (Row b off vs :: Δ)
instance HasRow.here (Γ : List HP) (b off : Nat) (vs : List Value) : HasRow (Row b off vs :: Γ) b off vs := ⟨Γ, .refl _⟩
instance (priority := low) HasRow.there (A : HP) (Γ : List HP) (b off : Nat) (vs : List Value) [H : HasRow Γ b off vs] : HasRow (A :: Γ) b off vs :=
  ⟨let ⟨Δ, p⟩ := H.h; ⟨A :: Δ, (p.cons A).trans (.swap _ _ _)⟩⟩

/-- The same with the row's contents changed: K. -/
class UpdRow (Γ : List HP) (b : Nat) (off : outParam Nat) (vs : outParam (List Value)) (K : outParam (HP → List HP)) : Prop where
  h : ∃ Δ, Γ.Perm (Row b off vs :: Δ) ∧ ∀ A, (A :: Δ).Perm (K A)
instance UpdRow.here (Γ : List HP) (b off : Nat) (vs : List Value) : UpdRow (Row b off vs :: Γ) b off vs (fun A => A :: Γ) := ⟨Γ, .refl _, fun _ => .refl _⟩
instance (priority := low) UpdRow.there (B : HP) (Γ : List HP) (b off : Nat) (vs : List Value) (K : HP → List HP) [H : UpdRow Γ b off vs K] : UpdRow (B :: Γ) b off vs (fun A => B :: K A) :=
  ⟨let ⟨Δ, p, q⟩ := H.h; ⟨B :: Δ, (p.cons B).trans (.swap _ _ _), fun A => (List.Perm.swap _ _ _).trans ((q A).cons B)⟩⟩

/-- One part taken out. -/
class Take (Γ : List HP) (A : HP) (Δ : outParam (List HP)) : Prop where
  h : Γ.Perm (A :: Δ)
instance Take.here (Γ : List HP) (A : HP) : Take (A :: Γ) A Γ := ⟨.refl _⟩
instance (priority := low) Take.there (B : HP) (Γ : List HP) (A : HP) (Δ : List HP) [H : Take Γ A Δ] : Take (B :: Γ) A (B :: Δ) := ⟨(H.h.cons B).trans (.swap _ _ _)⟩
/-- Several. -/
class Takes (Γ : List HP) (As : List HP) (Δ : outParam (List HP)) : Prop where
  h : Γ.Perm (As ++ Δ)
instance Takes.nil (Γ : List HP) : Takes Γ [] Γ := ⟨.refl _⟩
instance Takes.cons (Γ : List HP) (A : HP) (As : List HP) (Δ Θ : List HP) [H : Take Γ A Δ] [H' : Takes Δ As Θ] : Takes Γ (A :: As) Θ := ⟨H.h.trans (H'.h.cons A)⟩

theorem St.take {E : Env} {Γ As Δ : List HP} {w : World} [T : Takes Γ As Δ] (s : St E Γ w) : St E (As ++ Δ) w := s.perm T.h
theorem St.hasRow {E : Env} {Γ : List HP} {w : World} {b off : Nat} {vs : List Value} [H : HasRow Γ b off vs] (s : St E Γ w) {i : Nat} {v : Value} (h : vs[i]? = some v) :
    w.cell? ⟨b, off + i, none⟩ = some v ∧ w.frozen? ⟨b, off + i, none⟩ = false :=
  let ⟨_, p⟩ := H.h; (s.perm p).row_cell h
theorem St.updRow {E : Env} {Γ : List HP} {w : World} {b off : Nat} {vs : List Value} {K : HP → List HP} [H : UpdRow Γ b off vs K] (s : St E Γ w) {i : Nat} (v : Value) (h : i < vs.length) :
    St E (K (Row b off (vs.set i v))) (w.setCell ⟨b, off + i, none⟩ v) :=
  let ⟨_, p, q⟩ := H.h; ((s.perm p).row_set v h).perm (q _)

/-! ### Weakening -/
class Sub (Γ Δ : List HP) : Prop where
  h : Ent Γ Δ
instance (priority := high) Sub.same (Γ : List HP) : Sub Γ Γ := ⟨.refl _⟩
instance Sub.cons (Γ : List HP) (A : HP) (Δ Θ : List HP) [H : Take Γ A Δ] [H' : Sub Δ Θ] : Sub Γ (A :: Θ) := ⟨(Ent.perm H.h).trans (H'.h.cons A)⟩
instance (priority := high) Sub.app (Γ : List HP) (A : HP) (As Δ : List HP) [H : Sub Γ (A :: (As ++ Δ))] : Sub Γ ((A :: As) ++ Δ) := ⟨H.h⟩
instance (priority := high) Sub.app0 (Γ Δ : List HP) [H : Sub Γ Δ] : Sub Γ ([] ++ Δ) := ⟨H.h⟩
instance (priority := low) Sub.drop (Γ : List HP) (A : HP) (Δ : List HP) [H : Sub Γ Δ] : Sub (A :: Γ) Δ := ⟨(Ent.drop A Γ).trans H.h⟩
end Go.Proofs.Ythneebbmodkjiaa

namespace Go.Proofs.Ythneebbmodkjiaa
open Go.RowKit
section ops
variable {P : Program} {X : Cx} {n : Nat} {ds : List Deferred} {ρ : Rho} {Γ : List HP} {Nx : Value → List HP → Prop} {d : Nat} {ty : TypeId}

theorem o_move {x : Operand} {v : Value} (hx : ev ρ x = some v) (hn : Nat.blt d n = true) (h : Nx (v) Γ) : ExO P X n ds (some d) (.move x) ty Nx ρ Γ :=
  o_value (by simp) hn fun e o w hop hty he heL hs => ⟨v, w, Γ, by simp [execOp, hop, he x v hx], hs, h⟩
theorem v_move {x : Operand} {v : Value} (hx : ev ρ x = some v) : OpV P (.move x) ty ρ Γ (v) :=
  ⟨by simp, fun e o E w hop hty he heL hs => by simp [execOp, hop, he x v hx]⟩
theorem o_assign {x : Operand} {v : Value} (hx : ev ρ x = some v) (hn : Nat.blt d n = true) (h : Nx (v) Γ) : ExO P X n ds (some d) (.assign x) ty Nx ρ Γ :=
  o_value (by simp) hn fun e o w hop hty he heL hs => ⟨v, w, Γ, by simp [execOp, hop, he x v hx], hs, h⟩
theorem v_assign {x : Operand} {v : Value} (hx : ev ρ x = some v) : OpV P (.assign x) ty ρ Γ (v) :=
  ⟨by simp, fun e o E w hop hty he heL hs => by simp [execOp, hop, he x v hx]⟩
theorem o_pick_t {c x y : Operand} {v : Value} (hc : ev ρ c = some (.bool true)) (hx : ev ρ x = some v) (hn : Nat.blt d n = true) (h : Nx (v) Γ) : ExO P X n ds (some d) (.pick c x y) ty Nx ρ Γ :=
  o_value (by simp) hn fun e o w hop hty he heL hs => ⟨v, w, Γ, by simp [execOp, hop, he x v hx, he c _ hc, asBool], hs, h⟩
theorem v_pick_t {c x y : Operand} {v : Value} (hc : ev ρ c = some (.bool true)) (hx : ev ρ x = some v) : OpV P (.pick c x y) ty ρ Γ (v) :=
  ⟨by simp, fun e o E w hop hty he heL hs => by simp [execOp, hop, he x v hx, he c _ hc, asBool]⟩
theorem o_pick_f {c x y : Operand} {v : Value} (hc : ev ρ c = some (.bool false)) (hy : ev ρ y = some v) (hn : Nat.blt d n = true) (h : Nx (v) Γ) : ExO P X n ds (some d) (.pick c x y) ty Nx ρ Γ :=
  o_value (by simp) hn fun e o w hop hty he heL hs => ⟨v, w, Γ, by simp [execOp, hop, he y v hy, he c _ hc, asBool], hs, h⟩
theorem v_pick_f {c x y : Operand} {v : Value} (hc : ev ρ c = some (.bool false)) (hy : ev ρ y = some v) : OpV P (.pick c x y) ty ρ Γ (v) :=
  ⟨by simp, fun e o E w hop hty he heL hs => by simp [execOp, hop, he y v hy, he c _ hc, asBool]⟩
theorem o_nilCheck {x : Operand} {a : Addr} (hx : ev ρ x = some (.pointer (some a))) (hn : Nat.blt d n = true) (h : Nx (.pointer (some a)) Γ) : ExO P X n ds (some d) (.nilCheck x) ty Nx ρ Γ :=
  o_value (by simp) hn fun e o w hop hty he heL hs => ⟨_, w, Γ, by simp [execOp, hop, he x _ hx], hs, h⟩
theorem v_nilCheck {x : Operand} {a : Addr} (hx : ev ρ x = some (.pointer (some a))) : OpV P (.nilCheck x) ty ρ Γ (.pointer (some a)) :=
  ⟨by simp, fun e o E w hop hty he heL hs => by simp [execOp, hop, he x _ hx]⟩
theorem o_nilCheckF {x : Operand} {f : FuncId} {a b : Array Value} (hx : ev ρ x = some (.func (.func f) a b)) (hn : Nat.blt d n = true) (h : Nx (.func (.func f) a b) Γ) : ExO P X n ds (some d) (.nilCheck x) ty Nx ρ Γ :=
  o_value (by simp) hn fun e o w hop hty he heL hs => ⟨_, w, Γ, by simp [execOp, hop, he x _ hx], hs, h⟩
theorem v_nilCheckF {x : Operand} {f : FuncId} {a b : Array Value} (hx : ev ρ x = some (.func (.func f) a b)) : OpV P (.nilCheck x) ty ρ Γ (.func (.func f) a b) :=
  ⟨by simp, fun e o E w hop hty he heL hs => by simp [execOp, hop, he x _ hx]⟩
theorem o_nilCheckY {x : Operand} {f : Nat} {a b : Array Value} (hx : ev ρ x = some (.func (.yield f) a b)) (hn : Nat.blt d n = true) (h : Nx (.func (.yield f) a b) Γ) : ExO P X n ds (some d) (.nilCheck x) ty Nx ρ Γ :=
  o_value (by simp) hn fun e o w hop hty he heL hs => ⟨_, w, Γ, by simp [execOp, hop, he x _ hx], hs, h⟩
theorem v_nilCheckY {x : Operand} {f : Nat} {a b : Array Value} (hx : ev ρ x = some (.func (.yield f) a b)) : OpV P (.nilCheck x) ty ρ Γ (.func (.yield f) a b) :=
  ⟨by simp, fun e o E w hop hty he heL hs => by simp [execOp, hop, he x _ hx]⟩
theorem o_extract {x : Operand} {i : Nat} {vs : List Value} {v : Value} (hx : ev ρ x = some (.tuple vs.toArray)) (hv : vs[i]? = some v) (hn : Nat.blt d n = true) (h : Nx (v) Γ) : ExO P X n ds (some d) (.extract x i) ty Nx ρ Γ :=
  o_value (by simp) hn fun e o w hop hty he heL hs => ⟨v, w, Γ, by simp [execOp, hop, he x _ hx, Instr.extract, hv], hs, h⟩
theorem v_extract {x : Operand} {i : Nat} {vs : List Value} {v : Value} (hx : ev ρ x = some (.tuple vs.toArray)) (hv : vs[i]? = some v) : OpV P (.extract x i) ty ρ Γ (v) :=
  ⟨by simp, fun e o E w hop hty he heL hs => by simp [execOp, hop, he x _ hx, Instr.extract, hv]⟩
theorem o_makeFunc {fn : Fn} {first caps : List Operand} {vs us : List Value} (hx : evL ρ first = some vs) (hy : evL ρ caps = some us) (hn : Nat.blt d n = true) (h : Nx (.func fn vs.toArray us.toArray) Γ) :
    ExO P X n ds (some d) (.makeFunc fn first.toArray caps.toArray) ty Nx ρ Γ :=
  o_value (by simp) hn fun e o w hop hty he heL hs => ⟨_, w, Γ, by simp [execOp, hop, Instr.makeFunc, heL _ _ hx, heL _ _ hy], hs, h⟩
theorem v_makeFunc {fn : Fn} {first caps : List Operand} {vs us : List Value} (hx : evL ρ first = some vs) (hy : evL ρ caps = some us) : OpV P (.makeFunc fn first.toArray caps.toArray) ty ρ Γ (.func fn vs.toArray us.toArray) :=
  ⟨by simp, fun e o E w hop hty he heL hs => by simp [execOp, hop, Instr.makeFunc, heL _ _ hx, heL _ _ hy]⟩
theorem o_not {t : TypeId} {x : Operand} {b : Bool} (hx : ev ρ x = some (.bool b)) (hn : Nat.blt d n = true) (h : Nx (.bool (!b)) Γ) : ExO P X n ds (some d) (.unOp .not t x) ty Nx ρ Γ :=
  o_value (by simp) hn fun e o w hop hty he heL hs => ⟨_, w, Γ, by simp [execOp, hop, he x _ hx, Op.unary], hs, h⟩

/-! ### Whole numbers -/
theorem v_not {t : TypeId} {x : Operand} {b : Bool} (hx : ev ρ x = some (.bool b)) : OpV P (.unOp .not t x) ty ρ Γ (.bool (!b)) :=
  ⟨by simp, fun e o E w hop hty he heL hs => by simp [execOp, hop, he x _ hx, Op.unary]⟩
theorem binOp_int {op : BinOp} {t : TypeId} {x y : Operand} {yt : TypeId} {kk : IntKind} {a b : Int} {r : Value} (hop : op ≠ .shl ∧ op ≠ .shr) {e : Operand → Value} {o : Oper} {w : World}
    (ho : o.op = .binOp op t x y yt) (hx : e x = .int kk a) (hy : e y = .int kk b)
    (hr : (match op with | .add | .sub | .mul => Op.intArith op kk a b | .quo | .rem => Op.intDiv op kk a b | .and | .or | .xor | .andNot => Op.intBits op kk a b | _ => Op.intCmp op a b).run P w = .ok r w) :
    (execOp e o).run P w = .ok (.value r) w := by
  have hg : (eqGuard op t x y (.int kk a) (.int kk b)).run P w = .ok () w := by
    unfold eqGuard; cases op <;> simp
  have hb : (binOp op t (.int kk a) (.int kk b)).run P w = .ok r w := by
    cases op <;> first | (exact absurd rfl hop.1) | (exact absurd rfl hop.2) | (simpa [binOp] using hr)
  simp only [execOp, ho, hx, hy, Sem.run_bind, hg, Result.andThen_ok, hb, Sem.run_pure]
theorem o_add {t yt : TypeId} {x y : Operand} {kk : IntKind} {a b : Int} (hx : ev ρ x = some (.int kk a)) (hy : ev ρ y = some (.int kk b)) (hw : kk.wrap (a + b) = a + b) (hn : Nat.blt d n = true)
    (h : Nx (.int kk (a + b)) Γ) : ExO P X n ds (some d) (.binOp .add t x y yt) ty Nx ρ Γ :=
  o_value (by simp) hn fun e o w hop hty he heL hs => ⟨_, w, Γ, binOp_int (by simp) hop (he _ _ hx) (he _ _ hy) (by simp [Op.intArith, hw]), hs, h⟩
theorem v_add {t yt : TypeId} {x y : Operand} {kk : IntKind} {a b : Int} (hx : ev ρ x = some (.int kk a)) (hy : ev ρ y = some (.int kk b)) (hw : kk.wrap (a + b) = a + b) : OpV P (.binOp .add t x y yt) ty ρ Γ (.int kk (a + b)) :=
  ⟨by simp, fun e o E w hop hty he heL hs => binOp_int (by simp) hop (he _ _ hx) (he _ _ hy) (by simp [Op.intArith, hw])⟩
theorem o_addW {t yt : TypeId} {x y : Operand} {kk : IntKind} {a b : Int} (hx : ev ρ x = some (.int kk a)) (hy : ev ρ y = some (.int kk b)) (hn : Nat.blt d n = true)
    (h : Nx (.int kk (kk.wrap (a + b))) Γ) : ExO P X n ds (some d) (.binOp .add t x y yt) ty Nx ρ Γ :=
  o_value (by simp) hn fun e o w hop hty he heL hs => ⟨_, w, Γ, binOp_int (by simp) hop (he _ _ hx) (he _ _ hy) (by simp [Op.intArith]), hs, h⟩
theorem v_addW {t yt : TypeId} {x y : Operand} {kk : IntKind} {a b : Int} (hx : ev ρ x = some (.int kk a)) (hy : ev ρ y = some (.int kk b)) : OpV P (.binOp .add t x y yt) ty ρ Γ (.int kk (kk.wrap (a + b))) :=
  ⟨by simp, fun e o E w hop hty he heL hs => binOp_int (by simp) hop (he _ _ hx) (he _ _ hy) (by simp [Op.intArith])⟩
theorem o_sub {t yt : TypeId} {x y : Operand} {kk : IntKind} {a b : Int} (hx : ev ρ x = some (.int kk a)) (hy : ev ρ y = some (.int kk b)) (hw : kk.wrap (a - b) = a - b) (hn : Nat.blt d n = true)
    (h : Nx (.int kk (a - b)) Γ) : ExO P X n ds (some d) (.binOp .sub t x y yt) ty Nx ρ Γ :=
  o_value (by simp) hn fun e o w hop hty he heL hs => ⟨_, w, Γ, binOp_int (by simp) hop (he _ _ hx) (he _ _ hy) (by simp [Op.intArith, hw]), hs, h⟩
theorem v_sub {t yt : TypeId} {x y : Operand} {kk : IntKind} {a b : Int} (hx : ev ρ x = some (.int kk a)) (hy : ev ρ y = some (.int kk b)) (hw : kk.wrap (a - b) = a - b) : OpV P (.binOp .sub t x y yt) ty ρ Γ (.int kk (a - b)) :=
  ⟨by simp, fun e o E w hop hty he heL hs => binOp_int (by simp) hop (he _ _ hx) (he _ _ hy) (by simp [Op.intArith, hw])⟩
theorem o_subW {t yt : TypeId} {x y : Operand} {kk : IntKind} {a b : Int} (hx : ev ρ x = some (.int kk a)) (hy : ev ρ y = some (.int kk b)) (hn : Nat.blt d n = true)
    (h : Nx (.int kk (kk.wrap (a - b))) Γ) : ExO P X n ds (some d) (.binOp .sub t x y yt) ty Nx ρ Γ :=
  o_value (by simp) hn fun e o w hop hty he heL hs => ⟨_, w, Γ, binOp_int (by simp) hop (he _ _ hx) (he _ _ hy) (by simp [Op.intArith]), hs, h⟩
theorem v_subW {t yt : TypeId} {x y : Operand} {kk : IntKind} {a b : Int} (hx : ev ρ x = some (.int kk a)) (hy : ev ρ y = some (.int kk b)) : OpV P (.binOp .sub t x y yt) ty ρ Γ (.int kk (kk.wrap (a - b))) :=
  ⟨by simp, fun e o E w hop hty he heL hs => binOp_int (by simp) hop (he _ _ hx) (he _ _ hy) (by simp [Op.intArith])⟩
theorem o_mul {t yt : TypeId} {x y : Operand} {kk : IntKind} {a b : Int} (hx : ev ρ x = some (.int kk a)) (hy : ev ρ y = some (.int kk b)) (hw : kk.wrap (a * b) = a * b) (hn : Nat.blt d n = true)
    (h : Nx (.int kk (a * b)) Γ) : ExO P X n ds (some d) (.binOp .mul t x y yt) ty Nx ρ Γ :=
  o_value (by simp) hn fun e o w hop hty he heL hs => ⟨_, w, Γ, binOp_int (by simp) hop (he _ _ hx) (he _ _ hy) (by simp [Op.intArith, hw]), hs, h⟩
theorem v_mul {t yt : TypeId} {x y : Operand} {kk : IntKind} {a b : Int} (hx : ev ρ x = some (.int kk a)) (hy : ev ρ y = some (.int kk b)) (hw : kk.wrap (a * b) = a * b) : OpV P (.binOp .mul t x y yt) ty ρ Γ (.int kk (a * b)) :=
  ⟨by simp, fun e o E w hop hty he heL hs => binOp_int (by simp) hop (he _ _ hx) (he _ _ hy) (by simp [Op.intArith, hw])⟩
theorem o_mulW {t yt : TypeId} {x y : Operand} {kk : IntKind} {a b : Int} (hx : ev ρ x = some (.int kk a)) (hy : ev ρ y = some (.int kk b)) (hn : Nat.blt d n = true)
    (h : Nx (.int kk (kk.wrap (a * b))) Γ) : ExO P X n ds (some d) (.binOp .mul t x y yt) ty Nx ρ Γ :=
  o_value (by simp) hn fun e o w hop hty he heL hs => ⟨_, w, Γ, binOp_int (by simp) hop (he _ _ hx) (he _ _ hy) (by simp [Op.intArith]), hs, h⟩
theorem v_mulW {t yt : TypeId} {x y : Operand} {kk : IntKind} {a b : Int} (hx : ev ρ x = some (.int kk a)) (hy : ev ρ y = some (.int kk b)) : OpV P (.binOp .mul t x y yt) ty ρ Γ (.int kk (kk.wrap (a * b))) :=
  ⟨by simp, fun e o E w hop hty he heL hs => binOp_int (by simp) hop (he _ _ hx) (he _ _ hy) (by simp [Op.intArith])⟩
theorem o_rem {t yt : TypeId} {x y : Operand} {kk : IntKind} {a b : Int} (hx : ev ρ x = some (.int kk a)) (hy : ev ρ y = some (.int kk b)) (ha : 0 ≤ a) (hb : 0 < b) (hn : Nat.blt d n = true)
    (h : Nx (.int kk (a % b)) Γ) : ExO P X n ds (some d) (.binOp .rem t x y yt) ty Nx ρ Γ :=
  o_value (by simp) hn fun e o w hop hty he heL hs => ⟨_, w, Γ, binOp_int (by simp) hop (he _ _ hx) (he _ _ hy) (by
    have : b ≠ 0 := by omega
    simp [Op.intDiv, this, Int.tmod_eq_emod_of_nonneg ha]), hs, h⟩
theorem v_rem {t yt : TypeId} {x y : Operand} {kk : IntKind} {a b : Int} (hx : ev ρ x = some (.int kk a)) (hy : ev ρ y = some (.int kk b)) (ha : 0 ≤ a) (hb : 0 < b) : OpV P (.binOp .rem t x y yt) ty ρ Γ (.int kk (a % b)) :=
  ⟨by simp, fun e o E w hop hty he heL hs => binOp_int (by simp) hop (he _ _ hx) (he _ _ hy) (by
    have : b ≠ 0 := by omega
    simp [Op.intDiv, this, Int.tmod_eq_emod_of_nonneg ha])⟩
theorem o_quo {t yt : TypeId} {x y : Operand} {kk : IntKind} {a b : Int} (hx : ev ρ x = some (.int kk a)) (hy : ev ρ y = some (.int kk b)) (ha : 0 ≤ a) (hb : 0 < b) (hw : kk.wrap (a / b) = a / b) (hn : Nat.blt d n = true)
    (h : Nx (.int kk (a / b)) Γ) : ExO P X n ds (some d) (.binOp .quo t x y yt) ty Nx ρ Γ :=
  o_value (by simp) hn fun e o w hop hty he heL hs => ⟨_, w, Γ, binOp_int (by simp) hop (he _ _ hx) (he _ _ hy) (by
    have : b ≠ 0 := by omega
    simp [Op.intDiv, this, Int.tdiv_eq_ediv_of_nonneg ha, hw]), hs, h⟩
theorem v_quo {t yt : TypeId} {x y : Operand} {kk : IntKind} {a b : Int} (hx : ev ρ x = some (.int kk a)) (hy : ev ρ y = some (.int kk b)) (ha : 0 ≤ a) (hb : 0 < b) (hw : kk.wrap (a / b) = a / b) : OpV P (.binOp .quo t x y yt) ty ρ Γ (.int kk (a / b)) :=
  ⟨by simp, fun e o E w hop hty he heL hs => binOp_int (by simp) hop (he _ _ hx) (he _ _ hy) (by
    have : b ≠ 0 := by omega
    simp [Op.intDiv, this, Int.tdiv_eq_ediv_of_nonneg ha, hw])⟩
theorem o_bits {t yt : TypeId} {x y : Operand} {kk : IntKind} {a b : Int} {op : BinOp} {r : Value} (hop' : op = .and ∨ op = .or ∨ op = .xor ∨ op = .andNot) (hx : ev ρ x = some (.int kk a)) (hy : ev ρ y = some (.int kk b)) (hr : ∀ w, (Op.intBits op kk a b).run P w = .ok r w) (hn : Nat.blt d n = true)
    (h : Nx (r) Γ) : ExO P X n ds (some d) (.binOp op t x y yt) ty Nx ρ Γ :=
  o_value (by simp) hn fun e o w hop hty he heL hs => ⟨_, w, Γ, binOp_int (by rcases hop' with rfl | rfl | rfl | rfl <;> simp) hop (he _ _ hx) (he _ _ hy) (by rcases hop' with rfl | rfl | rfl | rfl <;> exact hr w), hs, h⟩
theorem v_bits {t yt : TypeId} {x y : Operand} {kk : IntKind} {a b : Int} {op : BinOp} {r : Value} (hop' : op = .and ∨ op = .or ∨ op = .xor ∨ op = .andNot) (hx : ev ρ x = some (.int kk a)) (hy : ev ρ y = some (.int kk b)) (hr : ∀ w, (Op.intBits op kk a b).run P w = .ok r w) : OpV P (.binOp op t x y yt) ty ρ Γ (r) :=
  ⟨by simp, fun e o E w hop hty he heL hs => binOp_int (by rcases hop' with rfl | rfl | rfl | rfl <;> simp) hop (he _ _ hx) (he _ _ hy) (by rcases hop' with rfl | rfl | rfl | rfl <;> exact hr w)⟩
theorem o_shl {t yt : TypeId} {x y : Operand} {kk ky : IntKind} {a b : Int} (hx : ev ρ x = some (.int kk a)) (hy : ev ρ y = some (.int ky b)) (hb : 0 ≤ b ∧ b < kk.bits) (hw : kk.wrap (a * 2 ^ b.toNat) = a * 2 ^ b.toNat) (hn : Nat.blt d n = true)
    (h : Nx (.int kk (a * 2 ^ b.toNat)) Γ) : ExO P X n ds (some d) (.binOp .shl t x y yt) ty Nx ρ Γ :=
  o_value (by simp) hn fun e o w hop hty he heL hs => ⟨_, w, Γ, by
    have h1 : ¬ b < 0 := by omega
    have h2 : min b.toNat kk.bits = b.toNat := by omega
    simp [execOp, hop, he _ _ hx, he _ _ hy, eqGuard, binOp, Op.shift, h1, h2, hw], hs, h⟩
theorem v_shl {t yt : TypeId} {x y : Operand} {kk ky : IntKind} {a b : Int} (hx : ev ρ x = some (.int kk a)) (hy : ev ρ y = some (.int ky b)) (hb : 0 ≤ b ∧ b < kk.bits) (hw : kk.wrap (a * 2 ^ b.toNat) = a * 2 ^ b.toNat) : OpV P (.binOp .shl t x y yt) ty ρ Γ (.int kk (a * 2 ^ b.toNat)) :=
  ⟨by simp, fun e o E w hop hty he heL hs => by
    have h1 : ¬ b < 0 := by omega
    have h2 : min b.toNat kk.bits = b.toNat := by omega
    simp [execOp, hop, he _ _ hx, he _ _ hy, eqGuard, binOp, Op.shift, h1, h2, hw]⟩
theorem o_shr {t yt : TypeId} {x y : Operand} {kk ky : IntKind} {a b : Int} (hx : ev ρ x = some (.int kk a)) (hy : ev ρ y = some (.int ky b)) (hb : 0 ≤ b ∧ b < kk.bits) (hn : Nat.blt d n = true)
    (h : Nx (.int kk (a.fdiv (2 ^ b.toNat))) Γ) : ExO P X n ds (some d) (.binOp .shr t x y yt) ty Nx ρ Γ :=
  o_value (by simp) hn fun e o w hop hty he heL hs => ⟨_, w, Γ, by
    have h1 : ¬ b < 0 := by omega
    have h2 : min b.toNat kk.bits = b.toNat := by omega
    simp [execOp, hop, he _ _ hx, he _ _ hy, eqGuard, binOp, Op.shift, h1, h2], hs, h⟩
theorem v_shr {t yt : TypeId} {x y : Operand} {kk ky : IntKind} {a b : Int} (hx : ev ρ x = some (.int kk a)) (hy : ev ρ y = some (.int ky b)) (hb : 0 ≤ b ∧ b < kk.bits) : OpV P (.binOp .shr t x y yt) ty ρ Γ (.int kk (a.fdiv (2 ^ b.toNat))) :=
  ⟨by simp, fun e o E w hop hty he heL hs => by
    have h1 : ¬ b < 0 := by omega
    have h2 : min b.toNat kk.bits = b.toNat := by omega
    simp [execOp, hop, he _ _ hx, he _ _ hy, eqGuard, binOp, Op.shift, h1, h2]⟩
theorem o_lss_t {t yt : TypeId} {x y : Operand} {kk : IntKind} {a b : Int} (hx : ev ρ x = some (.int kk a)) (hy : ev ρ y = some (.int kk b)) (c : a < b) (hn : Nat.blt d n = true)
    (h : Nx (.bool true) Γ) : ExO P X n ds (some d) (.binOp .lss t x y yt) ty Nx ρ Γ :=
  o_value (by simp) hn fun e o w hop hty he heL hs => ⟨_, w, Γ, binOp_int (by simp) hop (he _ _ hx) (he _ _ hy) (by simp [Op.intCmp, c]), hs, h⟩
theorem v_lss_t {t yt : TypeId} {x y : Operand} {kk : IntKind} {a b : Int} (hx : ev ρ x = some (.int kk a)) (hy : ev ρ y = some (.int kk b)) (c : a < b) : OpV P (.binOp .lss t x y yt) ty ρ Γ (.bool true) :=
  ⟨by simp, fun e o E w hop hty he heL hs => binOp_int (by simp) hop (he _ _ hx) (he _ _ hy) (by simp [Op.intCmp, c])⟩
theorem o_lss_f {t yt : TypeId} {x y : Operand} {kk : IntKind} {a b : Int} (hx : ev ρ x = some (.int kk a)) (hy : ev ρ y = some (.int kk b)) (c : ¬ a < b) (hn : Nat.blt d n = true)
    (h : Nx (.bool false) Γ) : ExO P X n ds (some d) (.binOp .lss t x y yt) ty Nx ρ Γ :=
  o_value (by simp) hn fun e o w hop hty he heL hs => ⟨_, w, Γ, binOp_int (by simp) hop (he _ _ hx) (he _ _ hy) (by simp [Op.intCmp]; omega), hs, h⟩
theorem v_lss_f {t yt : TypeId} {x y : Operand} {kk : IntKind} {a b : Int} (hx : ev ρ x = some (.int kk a)) (hy : ev ρ y = some (.int kk b)) (c : ¬ a < b) : OpV P (.binOp .lss t x y yt) ty ρ Γ (.bool false) :=
  ⟨by simp, fun e o E w hop hty he heL hs => binOp_int (by simp) hop (he _ _ hx) (he _ _ hy) (by simp [Op.intCmp]; omega)⟩
theorem o_lss {t yt : TypeId} {x y : Operand} {kk : IntKind} {a b : Int} (hx : ev ρ x = some (.int kk a)) (hy : ev ρ y = some (.int kk b)) (hn : Nat.blt d n = true)
    (h : (a < b) → Nx (.bool true) Γ) (h' : (¬ a < b) → Nx (.bool false) Γ) : ExO P X n ds (some d) (.binOp .lss t x y yt) ty Nx ρ Γ := by
  by_cases c : a < b
  · exact o_lss_t hx hy c hn (h c)
  · exact o_lss_f hx hy (by exact c) hn (h' (by exact c))
theorem o_leq_t {t yt : TypeId} {x y : Operand} {kk : IntKind} {a b : Int} (hx : ev ρ x = some (.int kk a)) (hy : ev ρ y = some (.int kk b)) (c : a ≤ b) (hn : Nat.blt d n = true)
    (h : Nx (.bool true) Γ) : ExO P X n ds (some d) (.binOp .leq t x y yt) ty Nx ρ Γ :=
  o_value (by simp) hn fun e o w hop hty he heL hs => ⟨_, w, Γ, binOp_int (by simp) hop (he _ _ hx) (he _ _ hy) (by simp [Op.intCmp, c]), hs, h⟩
theorem v_leq_t {t yt : TypeId} {x y : Operand} {kk : IntKind} {a b : Int} (hx : ev ρ x = some (.int kk a)) (hy : ev ρ y = some (.int kk b)) (c : a ≤ b) : OpV P (.binOp .leq t x y yt) ty ρ Γ (.bool true) :=
  ⟨by simp, fun e o E w hop hty he heL hs => binOp_int (by simp) hop (he _ _ hx) (he _ _ hy) (by simp [Op.intCmp, c])⟩
theorem o_leq_f {t yt : TypeId} {x y : Operand} {kk : IntKind} {a b : Int} (hx : ev ρ x = some (.int kk a)) (hy : ev ρ y = some (.int kk b)) (c : ¬ a ≤ b) (hn : Nat.blt d n = true)
    (h : Nx (.bool false) Γ) : ExO P X n ds (some d) (.binOp .leq t x y yt) ty Nx ρ Γ :=
  o_value (by simp) hn fun e o w hop hty he heL hs => ⟨_, w, Γ, binOp_int (by simp) hop (he _ _ hx) (he _ _ hy) (by simp [Op.intCmp]; omega), hs, h⟩
theorem v_leq_f {t yt : TypeId} {x y : Operand} {kk : IntKind} {a b : Int} (hx : ev ρ x = some (.int kk a)) (hy : ev ρ y = some (.int kk b)) (c : ¬ a ≤ b) : OpV P (.binOp .leq t x y yt) ty ρ Γ (.bool false) :=
  ⟨by simp, fun e o E w hop hty he heL hs => binOp_int (by simp) hop (he _ _ hx) (he _ _ hy) (by simp [Op.intCmp]; omega)⟩
theorem o_leq {t yt : TypeId} {x y : Operand} {kk : IntKind} {a b : Int} (hx : ev ρ x = some (.int kk a)) (hy : ev ρ y = some (.int kk b)) (hn : Nat.blt d n = true)
    (h : (a ≤ b) → Nx (.bool true) Γ) (h' : (¬ a ≤ b) → Nx (.bool false) Γ) : ExO P X n ds (some d) (.binOp .leq t x y yt) ty Nx ρ Γ := by
  by_cases c : a ≤ b
  · exact o_leq_t hx hy c hn (h c)
  · exact o_leq_f hx hy (by exact c) hn (h' (by exact c))
theorem o_gtr_t {t yt : TypeId} {x y : Operand} {kk : IntKind} {a b : Int} (hx : ev ρ x = some (.int kk a)) (hy : ev ρ y = some (.int kk b)) (c : b < a) (hn : Nat.blt d n = true)
    (h : Nx (.bool true) Γ) : ExO P X n ds (some d) (.binOp .gtr t x y yt) ty Nx ρ Γ :=
  o_value (by simp) hn fun e o w hop hty he heL hs => ⟨_, w, Γ, binOp_int (by simp) hop (he _ _ hx) (he _ _ hy) (by simp [Op.intCmp, c]), hs, h⟩
theorem v_gtr_t {t yt : TypeId} {x y : Operand} {kk : IntKind} {a b : Int} (hx : ev ρ x = some (.int kk a)) (hy : ev ρ y = some (.int kk b)) (c : b < a) : OpV P (.binOp .gtr t x y yt) ty ρ Γ (.bool true) :=
  ⟨by simp, fun e o E w hop hty he heL hs => binOp_int (by simp) hop (he _ _ hx) (he _ _ hy) (by simp [Op.intCmp, c])⟩
theorem o_gtr_f {t yt : TypeId} {x y : Operand} {kk : IntKind} {a b : Int} (hx : ev ρ x = some (.int kk a)) (hy : ev ρ y = some (.int kk b)) (c : ¬ b < a) (hn : Nat.blt d n = true)
    (h : Nx (.bool false) Γ) : ExO P X n ds (some d) (.binOp .gtr t x y yt) ty Nx ρ Γ :=
  o_value (by simp) hn fun e o w hop hty he heL hs => ⟨_, w, Γ, binOp_int (by simp) hop (he _ _ hx) (he _ _ hy) (by simp [Op.intCmp]; omega), hs, h⟩
theorem v_gtr_f {t yt : TypeId} {x y : Operand} {kk : IntKind} {a b : Int} (hx : ev ρ x = some (.int kk a)) (hy : ev ρ y = some (.int kk b)) (c : ¬ b < a) : OpV P (.binOp .gtr t x y yt) ty ρ Γ (.bool false) :=
  ⟨by simp, fun e o E w hop hty he heL hs => binOp_int (by simp) hop (he _ _ hx) (he _ _ hy) (by simp [Op.intCmp]; omega)⟩
theorem o_gtr {t yt : TypeId} {x y : Operand} {kk : IntKind} {a b : Int} (hx : ev ρ x = some (.int kk a)) (hy : ev ρ y = some (.int kk b)) (hn : Nat.blt d n = true)
    (h : (b < a) → Nx (.bool true) Γ) (h' : (¬ b < a) → Nx (.bool false) Γ) : ExO P X n ds (some d) (.binOp .gtr t x y yt) ty Nx ρ Γ := by
  by_cases c : b < a
  · exact o_gtr_t hx hy c hn (h c)
  · exact o_gtr_f hx hy (by exact c) hn (h' (by exact c))
theorem o_geq_t {t yt : TypeId} {x y : Operand} {kk : IntKind} {a b : Int} (hx : ev ρ x = some (.int kk a)) (hy : ev ρ y = some (.int kk b)) (c : b ≤ a) (hn : Nat.blt d n = true)
    (h : Nx (.bool true) Γ) : ExO P X n ds (some d) (.binOp .geq t x y yt) ty Nx ρ Γ :=
  o_value (by simp) hn fun e o w hop hty he heL hs => ⟨_, w, Γ, binOp_int (by simp) hop (he _ _ hx) (he _ _ hy) (by simp [Op.intCmp, c]), hs, h⟩
theorem v_geq_t {t yt : TypeId} {x y : Operand} {kk : IntKind} {a b : Int} (hx : ev ρ x = some (.int kk a)) (hy : ev ρ y = some (.int kk b)) (c : b ≤ a) : OpV P (.binOp .geq t x y yt) ty ρ Γ (.bool true) :=
  ⟨by simp, fun e o E w hop hty he heL hs => binOp_int (by simp) hop (he _ _ hx) (he _ _ hy) (by simp [Op.intCmp, c])⟩
theorem o_geq_f {t yt : TypeId} {x y : Operand} {kk : IntKind} {a b : Int} (hx : ev ρ x = some (.int kk a)) (hy : ev ρ y = some (.int kk b)) (c : ¬ b ≤ a) (hn : Nat.blt d n = true)
    (h : Nx (.bool false) Γ) : ExO P X n ds (some d) (.binOp .geq t x y yt) ty Nx ρ Γ :=
  o_value (by simp) hn fun e o w hop hty he heL hs => ⟨_, w, Γ, binOp_int (by simp) hop (he _ _ hx) (he _ _ hy) (by simp [Op.intCmp]; omega), hs, h⟩
theorem v_geq_f {t yt : TypeId} {x y : Operand} {kk : IntKind} {a b : Int} (hx : ev ρ x = some (.int kk a)) (hy : ev ρ y = some (.int kk b)) (c : ¬ b ≤ a) : OpV P (.binOp .geq t x y yt) ty ρ Γ (.bool false) :=
  ⟨by simp, fun e o E w hop hty he heL hs => binOp_int (by simp) hop (he _ _ hx) (he _ _ hy) (by simp [Op.intCmp]; omega)⟩
theorem o_geq {t yt : TypeId} {x y : Operand} {kk : IntKind} {a b : Int} (hx : ev ρ x = some (.int kk a)) (hy : ev ρ y = some (.int kk b)) (hn : Nat.blt d n = true)
    (h : (b ≤ a) → Nx (.bool true) Γ) (h' : (¬ b ≤ a) → Nx (.bool false) Γ) : ExO P X n ds (some d) (.binOp .geq t x y yt) ty Nx ρ Γ := by
  by_cases c : b ≤ a
  · exact o_geq_t hx hy c hn (h c)
  · exact o_geq_f hx hy (by exact c) hn (h' (by exact c))
theorem o_eql_t {t yt : TypeId} {x y : Operand} {kk : IntKind} {a b : Int} (hx : ev ρ x = some (.int kk a)) (hy : ev ρ y = some (.int kk b)) (c : a = b) (hn : Nat.blt d n = true)
    (h : Nx (.bool true) Γ) : ExO P X n ds (some d) (.binOp .eql t x y yt) ty Nx ρ Γ :=
  o_value (by simp) hn fun e o w hop hty he heL hs => ⟨_, w, Γ, binOp_int (by simp) hop (he _ _ hx) (he _ _ hy) (by simp [Op.intCmp, c]), hs, h⟩
theorem v_eql_t {t yt : TypeId} {x y : Operand} {kk : IntKind} {a b : Int} (hx : ev ρ x = some (.int kk a)) (hy : ev ρ y = some (.int kk b)) (c : a = b) : OpV P (.binOp .eql t x y yt) ty ρ Γ (.bool true) :=
  ⟨by simp, fun e o E w hop hty he heL hs => binOp_int (by simp) hop (he _ _ hx) (he _ _ hy) (by simp [Op.intCmp, c])⟩
theorem o_eql_f {t yt : TypeId} {x y : Operand} {kk : IntKind} {a b : Int} (hx : ev ρ x = some (.int kk a)) (hy : ev ρ y = some (.int kk b)) (c : a ≠ b) (hn : Nat.blt d n = true)
    (h : Nx (.bool false) Γ) : ExO P X n ds (some d) (.binOp .eql t x y yt) ty Nx ρ Γ :=
  o_value (by simp) hn fun e o w hop hty he heL hs => ⟨_, w, Γ, binOp_int (by simp) hop (he _ _ hx) (he _ _ hy) (by simp [Op.intCmp]; exact c), hs, h⟩
theorem v_eql_f {t yt : TypeId} {x y : Operand} {kk : IntKind} {a b : Int} (hx : ev ρ x = some (.int kk a)) (hy : ev ρ y = some (.int kk b)) (c : a ≠ b) : OpV P (.binOp .eql t x y yt) ty ρ Γ (.bool false) :=
  ⟨by simp, fun e o E w hop hty he heL hs => binOp_int (by simp) hop (he _ _ hx) (he _ _ hy) (by simp [Op.intCmp]; exact c)⟩
theorem o_eql {t yt : TypeId} {x y : Operand} {kk : IntKind} {a b : Int} (hx : ev ρ x = some (.int kk a)) (hy : ev ρ y = some (.int kk b)) (hn : Nat.blt d n = true)
    (h : (a = b) → Nx (.bool true) Γ) (h' : (a ≠ b) → Nx (.bool false) Γ) : ExO P X n ds (some d) (.binOp .eql t x y yt) ty Nx ρ Γ := by
  by_cases c : a = b
  · exact o_eql_t hx hy c hn (h c)
  · exact o_eql_f hx hy (by exact c) hn (h' (by exact c))
theorem o_neq_t {t yt : TypeId} {x y : Operand} {kk : IntKind} {a b : Int} (hx : ev ρ x = some (.int kk a)) (hy : ev ρ y = some (.int kk b)) (c : a ≠ b) (hn : Nat.blt d n = true)
    (h : Nx (.bool true) Γ) : ExO P X n ds (some d) (.binOp .neq t x y yt) ty Nx ρ Γ :=
  o_value (by simp) hn fun e o w hop hty he heL hs => ⟨_, w, Γ, binOp_int (by simp) hop (he _ _ hx) (he _ _ hy) (by simp [Op.intCmp]; exact c), hs, h⟩
theorem v_neq_t {t yt : TypeId} {x y : Operand} {kk : IntKind} {a b : Int} (hx : ev ρ x = some (.int kk a)) (hy : ev ρ y = some (.int kk b)) (c : a ≠ b) : OpV P (.binOp .neq t x y yt) ty ρ Γ (.bool true) :=
  ⟨by simp, fun e o E w hop hty he heL hs => binOp_int (by simp) hop (he _ _ hx) (he _ _ hy) (by simp [Op.intCmp]; exact c)⟩
theorem o_neq_f {t yt : TypeId} {x y : Operand} {kk : IntKind} {a b : Int} (hx : ev ρ x = some (.int kk a)) (hy : ev ρ y = some (.int kk b)) (c : a = b) (hn : Nat.blt d n = true)
    (h : Nx (.bool false) Γ) : ExO P X n ds (some d) (.binOp .neq t x y yt) ty Nx ρ Γ :=
  o_value (by simp) hn fun e o w hop hty he heL hs => ⟨_, w, Γ, binOp_int (by simp) hop (he _ _ hx) (he _ _ hy) (by simp [Op.intCmp, c]), hs, h⟩
theorem v_neq_f {t yt : TypeId} {x y : Operand} {kk : IntKind} {a b : Int} (hx : ev ρ x = some (.int kk a)) (hy : ev ρ y = some (.int kk b)) (c : a = b) : OpV P (.binOp .neq t x y yt) ty ρ Γ (.bool false) :=
  ⟨by simp, fun e o E w hop hty he heL hs => binOp_int (by simp) hop (he _ _ hx) (he _ _ hy) (by simp [Op.intCmp, c])⟩
theorem o_neq {t yt : TypeId} {x y : Operand} {kk : IntKind} {a b : Int} (hx : ev ρ x = some (.int kk a)) (hy : ev ρ y = some (.int kk b)) (hn : Nat.blt d n = true)
    (h : (a ≠ b) → Nx (.bool true) Γ) (h' : (a = b) → Nx (.bool false) Γ) : ExO P X n ds (some d) (.binOp .neq t x y yt) ty Nx ρ Γ := by
  by_cases c : a ≠ b
  · exact o_neq_t hx hy c hn (h c)
  · exact o_neq_f hx hy (by exact Decidable.not_not.1 c) hn (h' (by exact Decidable.not_not.1 c))

/-! ### Addresses -/
theorem fieldAt_run {t f off : Nat} [T : TyField P t f off] (b o : Nat) (w : World) : (Instr.fieldAt t (.pointer (some ⟨b, o, none⟩)) f).run P w = .ok (.pointer (some ⟨b, o + off, none⟩)) w := by
  obtain ⟨fs, fd, i, hu, hf, rfl, hi, hz⟩ := T.h
  simp [Instr.fieldAt, underlying_run hu, hf, Instr.sureAddr, fieldPlace, sizeOf_run hi, hz, Addr.add_none]
theorem o_fieldAddr {t f off : Nat} {x : Operand} {b o : Nat} [T : TyField P t f off] (hx : ev ρ x = some (.pointer (some ⟨b, o, none⟩))) (hn : Nat.blt d n = true) (h : Nx (.pointer (some ⟨b, o + off, none⟩)) Γ) :
    ExO P X n ds (some d) (.fieldAddr t x f) ty Nx ρ Γ :=
  o_value (by simp) hn fun e o w hop hty he heL hs => ⟨_, w, Γ, by simp [execOp, hop, he x _ hx, fieldAt_run], hs, h⟩
theorem v_fieldAddr {t f off : Nat} {x : Operand} {b o : Nat} [T : TyField P t f off] (hx : ev ρ x = some (.pointer (some ⟨b, o, none⟩))) : OpV P (.fieldAddr t x f) ty ρ Γ (.pointer (some ⟨b, o + off, none⟩)) :=
  ⟨by simp, fun e o E w hop hty he heL hs => by simp [execOp, hop, he x _ hx, fieldAt_run]⟩
theorem fieldV_run {t f off : Nat} [T : TyFieldV P t f off] {vs : List Value} {v : Value} (hv : vs[off]? = some v) (w : World) : (Instr.field t (.agg vs.toArray) f).run P w = .ok v w := by
  obtain ⟨fs, fd, hu, hf, rfl, hc⟩ := T.h
  simp [Instr.field, underlying_run hu, hf, asAgg, part, TyCell.agg, hv]
theorem o_field {t f off : Nat} {x : Operand} {vs : List Value} {v : Value} [T : TyFieldV P t f off] (hx : ev ρ x = some (.agg vs.toArray)) (hv : vs[off]? = some v) (hn : Nat.blt d n = true) (h : Nx (v) Γ) :
    ExO P X n ds (some d) (.field t x f) ty Nx ρ Γ :=
  o_value (by simp) hn fun e o w hop hty he heL hs => ⟨_, w, Γ, by simp [execOp, hop, he x _ hx, fieldV_run hv], hs, h⟩
theorem v_field {t f off : Nat} {x : Operand} {vs : List Value} {v : Value} [T : TyFieldV P t f off] (hx : ev ρ x = some (.agg vs.toArray)) (hv : vs[off]? = some v) : OpV P (.field t x f) ty ρ Γ (v) :=
  ⟨by simp, fun e o E w hop hty he heL hs => by simp [execOp, hop, he x _ hx, fieldV_run hv]⟩
theorem o_indexS {t e s y : Nat} {x ix : Operand} {b off len cap j : Nat} {kk : IntKind} {i : Int} [T : TySlice P t e s y] (hx : ev ρ x = some (.slice (some ⟨b, off, none⟩) len cap)) (hi : ev ρ ix = some (.int kk i)) (hj : i = (j : Int)) (hlt : j < len)
    (hn : Nat.blt d n = true) (h : Nx (.pointer (some ⟨b, off + j * s, none⟩)) Γ) : ExO P X n ds (some d) (.indexAddr t x ix) ty Nx ρ Γ :=
  o_value (by simp) hn fun ee o w hop hty he heL hs => ⟨_, w, Γ, by
    obtain ⟨hu, inf, hi', hsz, _⟩ := T.und
    subst hj
    have h1 : (0 : Int) ≤ j ∧ (j : Int) < len := by omega
    simp [execOp, hop, he x _ hx, he ix _ hi, Instr.indexAt, asIntOf, underlying_run hu, sizeOf_run hi', hsz, hlt, Addr.add_none], hs, h⟩
theorem v_indexS {t e s y : Nat} {x ix : Operand} {b off len cap j : Nat} {kk : IntKind} {i : Int} [T : TySlice P t e s y] (hx : ev ρ x = some (.slice (some ⟨b, off, none⟩) len cap)) (hi : ev ρ ix = some (.int kk i)) (hj : i = (j : Int)) (hlt : j < len) : OpV P (.indexAddr t x ix) ty ρ Γ (.pointer (some ⟨b, off + j * s, none⟩)) :=
  ⟨by simp, fun ee o E w hop hty he heL hs => by
    obtain ⟨hu, inf, hi', hsz, _⟩ := T.und
    subst hj
    have h1 : (0 : Int) ≤ j ∧ (j : Int) < len := by omega
    simp [execOp, hop, he x _ hx, he ix _ hi, Instr.indexAt, asIntOf, underlying_run hu, sizeOf_run hi', hsz, hlt, Addr.add_none]⟩
theorem o_indexA {t m e s : Nat} {x ix : Operand} {b off j : Nat} {kk : IntKind} {i : Int} [T : TyArray P t m e s] (hx : ev ρ x = some (.pointer (some ⟨b, off, none⟩))) (hi : ev ρ ix = some (.int kk i)) (hj : i = (j : Int)) (hlt : j < m)
    (hn : Nat.blt d n = true) (h : Nx (.pointer (some ⟨b, off + j * s, none⟩)) Γ) : ExO P X n ds (some d) (.indexAddr t x ix) ty Nx ρ Γ :=
  o_value (by simp) hn fun ee o w hop hty he heL hs => ⟨_, w, Γ, by
    obtain ⟨hu, inf, hi', hsz⟩ := T.und
    subst hj
    simp [execOp, hop, he x _ hx, he ix _ hi, Instr.indexAt, asIntOf, underlying_run hu, sizeOf_run hi', hsz, hlt, Instr.sureAddr, Addr.add_none], hs, h⟩

/-! ### Loads and stores -/
theorem v_indexA {t m e s : Nat} {x ix : Operand} {b off j : Nat} {kk : IntKind} {i : Int} [T : TyArray P t m e s] (hx : ev ρ x = some (.pointer (some ⟨b, off, none⟩))) (hi : ev ρ ix = some (.int kk i)) (hj : i = (j : Int)) (hlt : j < m) : OpV P (.indexAddr t x ix) ty ρ Γ (.pointer (some ⟨b, off + j * s, none⟩)) :=
  ⟨by simp, fun ee o E w hop hty he heL hs => by
    obtain ⟨hu, inf, hi', hsz⟩ := T.und
    subst hj
    simp [execOp, hop, he x _ hx, he ix _ hi, Instr.indexAt, asIntOf, underlying_run hu, sizeOf_run hi', hsz, hlt, Instr.sureAddr, Addr.add_none]⟩
/-- What may be read: the state says what the cell holds. -/
def Cell (Γ : List HP) (b o : Nat) (v : Value) : Prop := ∀ E w, St E Γ w → w.cell? ⟨b, o, none⟩ = some v
theorem Cell.row {b off o : Nat} {vs : List Value} {v : Value} [H : HasRow Γ b off vs] (ho : Nat.ble off o = true) (h : vs[o - off]? = some v) : Cell Γ b o v := fun E w s => by
  have := (s.hasRow (b := b) h).1
  rwa [show off + (o - off) = o by have := Nat.le_of_ble_eq_true ho; omega] at this
theorem o_loadC {t : TypeId} {x : Operand} {b o : Nat} {v : Value} [T : TyCell P t] (hx : ev ρ x = some (.pointer (some ⟨b, o, none⟩))) (hc : Cell Γ b o v) (hn : Nat.blt d n = true) (h : Nx (v) Γ) :
    ExO P X n ds (some d) (.load t x) ty Nx ρ Γ :=
  o_value (by simp) hn fun e o w hop hty he heL hs => ⟨v, w, Γ, by simp [execOp, hop, he x _ hx, Instr.loadAt, Instr.sureAddr, loadVar, TyCell.agg, hc _ _ hs], hs, h⟩
theorem v_loadC {t : TypeId} {x : Operand} {b o : Nat} {v : Value} [T : TyCell P t] (hx : ev ρ x = some (.pointer (some ⟨b, o, none⟩))) (hc : Cell Γ b o v) : OpV P (.load t x) ty ρ Γ (v) :=
  ⟨by simp, fun e o E w hop hty he heL hs => by simp [execOp, hop, he x _ hx, Instr.loadAt, Instr.sureAddr, loadVar, TyCell.agg, hc _ _ hs]⟩
/-- A load out of a row of the call's own. -/
theorem o_load {t : TypeId} {x : Operand} {b o off : Nat} {vs : List Value} {v : Value} [T : TyCell P t] (hx : ev ρ x = some (.pointer (some ⟨b, o, none⟩))) [H : HasRow Γ b off vs] (ho : Nat.ble off o = true) (hv : vs[o - off]? = some v) (hn : Nat.blt d n = true)
    (h : Nx (v) Γ) : ExO P X n ds (some d) (.load t x) ty Nx ρ Γ := o_loadC hx (Cell.row ho hv) hn h
/-- Likewise, the place within the row said. -/
theorem o_loadI {t : TypeId} {x : Operand} {b o off i : Nat} {vs : List Value} {v : Value} [T : TyCell P t] (hx : ev ρ x = some (.pointer (some ⟨b, o, none⟩))) [H : HasRow Γ b off vs] (ho : o = off + i) (hv : vs[i]? = some v) (hn : Nat.blt d n = true)
    (h : Nx (v) Γ) : ExO P X n ds (some d) (.load t x) ty Nx ρ Γ := o_loadC hx (fun E w s => by rw [ho]; exact (s.hasRow (b := b) hv).1) hn h
theorem o_loadAC {t s : Nat} {x : Operand} {b o : Nat} {us : List Value} [T : TyAgg P t s] (hx : ev ρ x = some (.pointer (some ⟨b, o, none⟩))) (hl : us.length = s) (hc : ∀ j v, us[j]? = some v → Cell Γ b (o + j) v) (hn : Nat.blt d n = true) (h : Nx (.agg us.toArray) Γ) :
    ExO P X n ds (some d) (.load t x) ty Nx ρ Γ :=
  o_value (by simp) hn fun e o' w hop hty he heL hs => ⟨_, w, Γ, by
    obtain ⟨i, hi, hsz⟩ := TyAgg.size (P := P) (t := t)
    simp [execOp, hop, he x _ hx, Instr.loadAt, Instr.sureAddr, loadVar, TyAgg.agg, sizeOf_run hi, hsz, loadCells_run (P := P) (w := w) hl (fun j v hj => hc j v hj _ _ hs)], hs, h⟩
theorem v_loadAC {t s : Nat} {x : Operand} {b o : Nat} {us : List Value} [T : TyAgg P t s] (hx : ev ρ x = some (.pointer (some ⟨b, o, none⟩))) (hl : us.length = s) (hc : ∀ j v, us[j]? = some v → Cell Γ b (o + j) v) : OpV P (.load t x) ty ρ Γ (.agg us.toArray) :=
  ⟨by simp, fun e o' E w hop hty he heL hs => by
    obtain ⟨i, hi, hsz⟩ := TyAgg.size (P := P) (t := t)
    simp [execOp, hop, he x _ hx, Instr.loadAt, Instr.sureAddr, loadVar, TyAgg.agg, sizeOf_run hi, hsz, loadCells_run (P := P) (w := w) hl (fun j v hj => hc j v hj _ _ hs)]⟩
theorem o_loadA {t s : Nat} {x : Operand} {b o off : Nat} {vs us : List Value} [T : TyAgg P t s] (hx : ev ρ x = some (.pointer (some ⟨b, o, none⟩))) [H : HasRow Γ b off vs] (ho : Nat.ble off o = true) (hv : (vs.drop (o - off)).take s = us) (hl : us.length = s) (hn : Nat.blt d n = true)
    (h : Nx (.agg us.toArray) Γ) : ExO P X n ds (some d) (.load t x) ty Nx ρ Γ :=
  o_loadAC hx hl (fun j v hj => Cell.row (by have := Nat.le_of_ble_eq_true ho; exact Nat.ble_eq ▸ (by omega : off ≤ o + j)) (by
    have h1 := Nat.le_of_ble_eq_true ho
    rw [← hv, List.getElem?_take] at hj
    split at hj
    · rw [List.getElem?_drop] at hj
      rw [show o + j - off = o - off + j by omega]; exact hj
    · cases hj)) hn h

theorem storeCells_run {b off : Nat} : ∀ (us : List Value) (i : Nat) (w : World) (K : HP → List HP) (vs : List Value) (E : Env) (Γ : List HP), UpdRow Γ b off vs K → St E Γ w → i + us.length ≤ vs.length → (∀ u ∈ us, u.oneCell' = true) →
    ∀ (o q : Nat), o + q = off + i → ∃ w', (storeCells ⟨b, o, none⟩ us q).run P w = .ok () w' ∧ St E (K (Row b off (vs.take i ++ us ++ vs.drop (i + us.length)))) w' := by
  intro us
  induction us with
  | nil =>
    intro i w K vs E Γ H s _ _ o q _
    refine ⟨w, by simp [storeCells], ?_⟩
    obtain ⟨Δ, p, q⟩ := H.h
    rw [List.append_nil, List.length_nil, Nat.add_zero, List.take_append_drop]
    exact s.perm (p.trans (q _))
  | cons u us ih =>
    intro i w K vs E Γ H s hl hu o q hoq
    have hlt : i < vs.length := by simp at hl; omega
    have hi : vs[i]? = some vs[i] := List.getElem?_eq_getElem hlt
    obtain ⟨Δ, p, r⟩ := H.h
    have hc := (s.perm p).row_cell hi
    have s1 := s.updRow (H := H) u hlt
    have H1 : UpdRow (K (Row b off (vs.set i u))) b off (vs.set i u) K := ⟨⟨Δ, (r _).symm, r⟩⟩
    obtain ⟨w', hr, s2⟩ := ih (i + 1) _ K (vs.set i u) E _ H1 s1 (by simp at hl ⊢; omega) (fun v hv => hu v (List.mem_cons_of_mem _ hv)) o (q + 1) (by omega)
    refine ⟨w', ?_, ?_⟩
    · simp only [storeCells, Sem.run_bind, Addr.add_none, hoq]
      rw [run_store P w _ u _ (hu u (List.mem_cons_self ..)), hc.1]
      simp only [hc.2, Bool.false_eq_true, if_false, Result.andThen_ok]
      exact hr
    · have e : (vs.set i u).take (i + 1) ++ us ++ (vs.set i u).drop (i + 1 + us.length) = vs.take i ++ u :: us ++ vs.drop (i + (u :: us).length) := by
        rw [List.drop_set_of_lt (by omega), List.take_set, List.take_succ_eq_append_getElem hlt]
        have e1 : (vs.take i ++ [vs[i]]).set i u = vs.take i ++ [u] := by
          rw [List.set_append_right _ _ (by simp; omega)]
          simp [Nat.min_eq_left (Nat.le_of_lt hlt)]
        rw [e1]
        simp [Nat.add_comm, Nat.add_left_comm]
      rw [e] at s2
      exact s2

theorem oneCell_cells {v : Value} (h : v.oneCell' = true) : v.cells = #[v] := by cases v <;> first | rfl | cases h

theorem o_store {t : TypeId} {x y : Operand} {b o off : Nat} {vs : List Value} {v : Value} {K : HP → List HP} [T : TyCell P t] (hx : ev ρ x = some (.pointer (some ⟨b, o, none⟩))) (hy : ev ρ y = some v) (h1 : v.oneCell' = true)
    [H : UpdRow Γ b off vs K] (ho : Nat.ble off o = true) (hl : o - off < vs.length) (h : Nx undef (K (Row b off (vs.set (o - off) v)))) :
    ExO P X n ds none (.store t x y) ty Nx ρ Γ :=
  o_skip (by simp) fun e oo w hop hty he hs => by
    have h2 := Nat.le_of_ble_eq_true ho
    obtain ⟨i, hi, hsz⟩ := TyCell.size (P := P) (t := t)
    have hi0 : vs[o - off]? = some vs[o - off] := List.getElem?_eq_getElem hl
    obtain ⟨Δ, p, q⟩ := H.h
    have hc := (hs.perm p).row_cell hi0
    have s1 := hs.updRow (H := H) v hl
    rw [show off + (o - off) = o by omega] at hc s1
    refine ⟨_, _, ?_, s1, h⟩
    simp [execOp, hop, he x _ hx, he y _ hy, Instr.storeAt, Instr.sureAddr, storeVar, oneCell_cells h1, sizeOf_run hi, hsz, storeCells, Addr.add_none, run_store _ _ _ _ _ h1, hc.1, hc.2]

theorem o_storeI {t : TypeId} {x y : Operand} {b o off i : Nat} {vs : List Value} {v : Value} {K : HP → List HP} [T : TyCell P t] (hx : ev ρ x = some (.pointer (some ⟨b, o, none⟩))) (hy : ev ρ y = some v) (h1 : v.oneCell' = true)
    [H : UpdRow Γ b off vs K] (ho : o = off + i) (hl : Nat.blt i vs.length = true) (h : Nx undef (K (Row b off (vs.set i v)))) :
    ExO P X n ds none (.store t x y) ty Nx ρ Γ := by
  subst ho
  have hl' : i < vs.length := by simpa [Nat.blt_eq] using hl
  have e : off + i - off = i := by omega
  exact o_store (off := off) (vs := vs) (K := K) hx hy h1 (by simp [Nat.ble_eq]) (by omega) (by rw [e]; exact h)

/-- A struct stored whole. -/
theorem o_storeA {t s : Nat} {x y : Operand} {b o off : Nat} {vs us : List Value} {K : HP → List HP} [T : TyAgg P t s] (hx : ev ρ x = some (.pointer (some ⟨b, o, none⟩))) (hy : ev ρ y = some (.agg us.toArray)) (hs' : us.length = s) (h1 : us.all Value.oneCell' = true)
    [H : UpdRow Γ b off vs K] (ho : Nat.ble off o = true) (hl : o - off + us.length ≤ vs.length) (h : Nx undef (K (Row b off (vs.take (o - off) ++ us ++ vs.drop (o - off + us.length))))) :
    ExO P X n ds none (.store t x y) ty Nx ρ Γ :=
  o_skip (by simp) fun e oo w hop hty he hs => by
    have h2 := Nat.le_of_ble_eq_true ho
    obtain ⟨i, hi, hsz⟩ := TyAgg.size (P := P) (t := t)
    obtain ⟨w', hr, s1⟩ := storeCells_run (P := P) us (o - off) w K vs X.E Γ H hs hl (fun u hu => List.all_eq_true.1 h1 u hu) o 0 (by omega)
    refine ⟨w', _, ?_, s1, h⟩
    simp [execOp, hop, he x _ hx, he y _ hy, Instr.storeAt, Instr.sureAddr, storeVar, Value.cells, sizeOf_run hi, hsz, hs', hr]

/-! ### New variables -/
def zeroB (P : Program) (t : TypeId) (zs : List Value) : Prop := ∃ i v, P.info? t = some i ∧ i.zero = some v ∧ v.cells.toList = zs
class TyZero (P : Program) (t : TypeId) (zs : outParam (List Value)) : Prop where h : zeroB P t zs
theorem o_alloc {t : TypeId} {zs : List Value} [T : TyZero P t zs] (hn : Nat.blt d n = true) (h : ∀ b, Nx (.pointer (some ⟨b, 0, none⟩)) (Row b 0 zs :: Γ)) :
    ExO P X n ds (some d) (.alloc t) ty Nx ρ Γ :=
  o_value (by simp) hn fun e o w hop hty he heL hs => by
    obtain ⟨i, v, hi, hz, rfl⟩ := T.h
    refine ⟨_, _, _, ?_, hs.alloc_row v.cells.toList t, h w.heap.size⟩
    simp [execOp, hop, Instr.alloc, zeroValue, typeInfo_run hi, hz, newVar, newRow]
theorem o_box {t : TypeId} {x : Operand} {v : Value} (hx : ev ρ x = some v) (h1 : v.oneCell' = true) (hn : Nat.blt d n = true) (h : ∀ b, Nx (.pointer (some ⟨b, 0, none⟩)) (Row b 0 [v] :: Γ)) :
    ExO P X n ds (some d) (.box t x) ty Nx ρ Γ :=
  o_value (by simp) hn fun e o w hop hty he heL hs => ⟨_, _, _, by simp [execOp, hop, he x _ hx, Instr.box, newVar, newRow, oneCell_cells h1], hs.alloc_row [v] t, h w.heap.size⟩
theorem o_boxA {t : TypeId} {x : Operand} {vs : List Value} (hx : ev ρ x = some (.agg vs.toArray)) (hn : Nat.blt d n = true) (h : ∀ b, Nx (.pointer (some ⟨b, 0, none⟩)) (Row b 0 vs :: Γ)) :
    ExO P X n ds (some d) (.box t x) ty Nx ρ Γ :=
  o_value (by simp) hn fun e o w hop hty he heL hs => ⟨_, _, _, by simp [execOp, hop, he x _ hx, Instr.box, newVar, newRow, Value.cells], hs.alloc_row vs t, h w.heap.size⟩
end ops
end Go.Proofs.Ythneebbmodkjiaa
