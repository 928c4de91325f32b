/- Part of a proof over the seat Ythneebbmodkjiaa: module F1. Its claim's last module says what is proved. -/
import Derived.Test.YthneebbmodkjiaaD13
import Derived.Lib.SmallJoins
namespace Go.Proofs.Ythneebbmodkjiaa
open Go.Proofs Go.RowKit

theorem old_reads {W : World} {b off s len : Nat} {xs : List Value} (hl : xs.length = len * s) (hc : ∀ (i : Nat) (v : Value), xs[i]? = some v → W.cell? ⟨b, off + i, none⟩ = some v) : Reads (Old W W.heap.size) s (some ⟨b, off, none⟩) len xs := by
  refine ⟨hl, fun h w hA hW => .inr ⟨b, off, rfl, fun i v hv => ?_⟩⟩
  have h0 := hc i v hv
  have hlt := World.block_lt_of_cell? W ⟨b, off + i, none⟩ h0
  have hb : W.heap[b]? = some W.heap[b] := Array.getElem?_eq_getElem hlt
  have he : h b none = some (.obj W.heap[b]) := by
    rw [hA]; simp [hb]; exact hlt
  have h1 := hW b none _ he
  have h2 : w.heap[b]? = W.heap[b]? := by rw [hb]; exact h1
  exact (World.cell?_of_block h2).trans h0

section
variable {H : Type} {enc : TypeId × Value → H} {P : Program} {W : World} {sp : Nat → Bool} {held : Bool}
theorem cells_get {a : Addr} : ∀ {n : Nat} {cs : List Value}, W.cells? 0 a n = some cs → cs = (List.range n).map (fun j => (W.cell? (a.add j)).getD undef) ∧ ∀ j, j < n → ∃ v, W.cell? (a.add j) = some v := by
  intro n cs h
  unfold World.cells? at h
  rw [if_pos (Nat.zero_le _)] at h
  have hl := mapM_some_length h
  rw [List.length_range] at hl
  have hg := mapM_some_get h
  have key : ∀ j, j < n → W.cell? (a.add j) = cs[j]? := fun j hj => hg j j (by simp [hj])
  refine ⟨?_, fun j hj => ⟨cs[j]'(by omega), by rw [key j hj]; simp [hl, hj]⟩⟩
  apply List.ext_getElem?
  intro j
  by_cases hj : j < n
  · rw [List.getElem?_map, List.getElem?_range hj, ← key j hj]
    obtain ⟨v, hv⟩ : ∃ v, cs[j]? = some v := ⟨cs[j]'(by omega), by simp [hl, hj]⟩
    simp [key j hj, hv]
  · rw [List.getElem?_eq_none (by omega), List.getElem?_eq_none (by simp; omega)]

/-- A slice that is read: its elements, each with its own reading. -/
theorem open_sl {t e s fuel : Nat} {cs : List Value} {x : DataW H × List MemPlace} (ht : P.underlying t = some (.slice e)) (hc : P.cellsOf e = s) (hs : 0 < s) (h : DataW.trod enc P W 0 sp held fuel t cs = some x) :
    ∃ (a : Option Addr) (len cap : Nat) (f : Nat → List Value), cs = [.slice a len cap] ∧ len ≤ cap ∧ cap ≤ maxLen ∧ (∀ i, (f i).length = s) ∧ (∀ i, i < len → ∃ n y, DataW.trod enc P W 0 sp held n e (f i) = some y) ∧ Reads (Old W W.heap.size) s a len ((List.range len).flatMap f) := by
  rcases DataW.trod_slice ht h with ⟨rfl, _⟩ | ⟨a, len, cap, elems, rest, n, _, rfl, hx, _, hl, hm, hlen, hel, _⟩
  · refine ⟨none, 0, 0, fun _ => List.replicate s undef, rfl, Nat.le_refl _, Nat.zero_le _, fun i => by simp, fun i hi => by omega, by simp, fun _ _ _ _ => .inl rfl⟩
  · rw [hc] at hel
    obtain ⟨f, hf⟩ : ∃ f : Nat → List Value, f = fun i => (List.range s).map (fun j => (W.cell? ((a.add (i * s)).add j)).getD undef) := ⟨_, rfl⟩
    have hfl : ∀ i, (f i).length = s := fun i => by rw [hf]; simp
    have hcell : ∀ i, i < len → (∃ n y, DataW.trod enc P W 0 sp held n e (f i) = some y) ∧ ∀ j, j < s → ∃ v, W.cell? ((a.add (i * s)).add j) = some v := by
      intro i hi
      have h1 := hel i hi
      have h2 : elems[i]? = some (elems[i]'(by omega)) := List.getElem?_eq_getElem (by omega)
      rw [h2, Option.bind_eq_some_iff] at h1
      obtain ⟨c1, hc1, hy⟩ := h1
      obtain ⟨e1, e2⟩ := cells_get hc1
      refine ⟨⟨n, elems[i]'(by omega), ?_⟩, e2⟩
      rw [hf]; dsimp only; rw [← e1]; exact hy
    refine ⟨some a, len, cap, f, rfl, hl, hm, hfl, fun i hi => (hcell i hi).1, ?_⟩
    by_cases h0 : len = 0
    · subst h0
      exact ⟨by simp, fun _ _ _ _ => .inl rfl⟩
    · obtain ⟨b, off, spot⟩ := a
      obtain ⟨v, hv⟩ := (hcell 0 (by omega)).2 0 hs
      have hsp : spot = none := by
        cases hspot : spot with
        | none => rfl
        | some z =>
          exfalso
          subst hspot
          unfold World.cell? at hv
          cases hb : W.heap[b]? with
          | none => simp [Addr.add, hb] at hv
          | some o => cases o <;> simp [Addr.add, hb] at hv
      subst hsp
      refine old_reads ?_ ?_
      · rw [flen hfl]; simp
      · intro i v hv
        have hi := (List.getElem?_eq_some_iff.1 hv).1
        rw [flen hfl, List.length_range] at hi
        have hq : i / s < len := Nat.div_lt_of_lt_mul (by rw [Nat.mul_comm]; exact hi)
        have hr : i % s < s := Nat.mod_lt _ hs
        have hd : i / s * s + i % s = i := by rw [Nat.mul_comm]; exact Nat.div_add_mod i s
        have hg := fget hfl (l := List.range len) (i := i / s) (by simpa using hq) (i % s) hr
        rw [hd, hv] at hg
        simp only [List.getElem_range] at hg
        obtain ⟨u, hu⟩ := (hcell (i / s) hq).2 (i % s) hr
        rw [hf] at hg
        simp only [List.getElem?_map, List.getElem?_range hr, Option.map_some, hu, Option.getD_some, Option.some.injEq] at hg
        subst hg
        simp only [Addr.add_none] at hu
        rw [Nat.add_assoc, hd] at hu
        exact hu
end
end Go.Proofs.Ythneebbmodkjiaa
