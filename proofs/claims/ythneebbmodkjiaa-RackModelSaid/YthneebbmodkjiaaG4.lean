/- Part of a proof over the seat Ythneebbmodkjiaa: module G4. Its claim's last module says what is proved. -/
import Derived.Test.YthneebbmodkjiaaE17
namespace Go.Proofs.Ythneebbmodkjiaa
open Go.Proofs

theorem putAt_cons (e : En) (es : List En) (i : Nat) (t : Tx) : putAt (e :: es) (i + 1) t = e :: putAt es i t := by
  unfold putAt
  by_cases h : i = es.length
  · rw [if_pos (by simp [h]), if_pos h]; rfl
  · rw [if_neg (by simp [h]), if_neg h]; rfl
theorem live_lead : ∀ (es : List En) (k j : Nat), j < ff es → ∃ h : j < (live k es).length, ((live k es)[j]).1 = k + j
  | [], _, _, h => by simp [ff] at h
  | none :: es, _, _, h => by simp [ff] at h
  | some t :: es, k, 0, _ => ⟨by simp [live], rfl⟩
  | some t :: es, k, j + 1, h => by
    obtain ⟨h1, h2⟩ := live_lead es (k + 1) j (by simpa [ff] using h)
    exact ⟨by simpa [live] using h1, by show ((live (k + 1) es)[j]'h1).1 = _; rw [h2]; omega⟩
theorem live_ge : ∀ (es : List En) (k : Nat), ∀ y ∈ live k es, k ≤ y.1
  | [], _, _, h => by cases h
  | none :: es, k, y, h => Nat.le_of_succ_le (live_ge es (k + 1) y h)
  | some t :: es, k, y, h => by
    rcases List.mem_cons.1 h with rfl | h
    · exact Nat.le_refl _
    · exact Nat.le_of_succ_le (live_ge es (k + 1) y h)
theorem live_gap : ∀ (es : List En) (k : Nat) (h : ff es < (live k es).length), ((live k es)[ff es]).1 ≠ k + ff es
  | [], _, h => by simp [live] at h
  | none :: es, k, h => by
    have := live_ge es (k + 1) _ (List.getElem_mem h)
    show ((live (k + 1) es)[0]'h).1 ≠ k + 0
    have h2 : k + 1 ≤ ((live (k + 1) es)[0]'h).1 := this
    omega
  | some t :: es, k, h => by
    have := live_gap es (k + 1) (by simpa [live, ff] using h)
    show ((live (k + 1) es)[ff es]'_).1 ≠ k + (ff es + 1)
    omega
theorem live_put : ∀ (es : List En) (k : Nat) (t : Tx), live k (putAt es (ff es) t) = (live k es).take (ff es) ++ (k + ff es, t) :: (live k es).drop (ff es)
  | [], k, t => rfl
  | none :: es, k, t => rfl
  | some u :: es, k, t => by
    rw [show ff (some u :: es) = ff es + 1 from rfl, putAt_cons]
    have := live_put es (k + 1) t
    simp only [live, this]
    rw [show k + 1 + ff es = k + (ff es + 1) by omega]
    rfl
abbrev isAt (slot : Int) : Nat × Tx → Bool := fun y => decide ((y.1 : Int) = slot)
theorem live_hit : ∀ (es : List En) (k i : Nat) (t : Tx), es[i]? = some (some t) →
    (live k es).findIdx (isAt ((k + i : Nat) : Int)) < (live k es).length ∧ (live k es)[(live k es).findIdx (isAt ((k + i : Nat) : Int))]? = some (k + i, t) ∧
      live k (es.set i none) = (live k es).take ((live k es).findIdx (isAt ((k + i : Nat) : Int))) ++ (live k es).drop ((live k es).findIdx (isAt ((k + i : Nat) : Int)) + 1)
  | [], _, _, _, h => by simp at h
  | none :: es, k, 0, t, h => by simp at h
  | none :: es, k, i + 1, t, h => by
    have := live_hit es (k + 1) i t (by simpa using h)
    rw [show k + 1 + i = k + (i + 1) by omega] at this
    exact this
  | some u :: es, k, 0, t, h => by
    obtain rfl : u = t := by simpa using h
    have h0 : (live k (some u :: es)).findIdx (isAt ((k + 0 : Nat) : Int)) = 0 := by
      show ((k, u) :: live (k + 1) es).findIdx _ = 0
      rw [List.findIdx_cons]; simp [isAt]
    rw [h0]
    exact ⟨by simp [live], rfl, rfl⟩
  | some u :: es, k, i + 1, t, h => by
    have := live_hit es (k + 1) i t (by simpa using h)
    rw [show k + 1 + i = k + (i + 1) by omega] at this
    obtain ⟨h1, h2, h3⟩ := this
    have h0 : (live k (some u :: es)).findIdx (isAt ((k + (i + 1) : Nat) : Int)) = (live (k + 1) es).findIdx (isAt ((k + (i + 1) : Nat) : Int)) + 1 := by
      show ((k, u) :: live (k + 1) es).findIdx _ = _
      rw [List.findIdx_cons]
      have : isAt ((k + (i + 1) : Nat) : Int) (k, u) = false := by simp [isAt]; omega
      rw [this]; rfl
    rw [h0]
    refine ⟨by simpa [live] using h1, ?_, ?_⟩
    · simpa [live] using h2
    · simp only [live, List.set_cons_succ]
      rw [h3]; rfl
theorem live_miss (es : List En) (slot : Int) (h : ∀ t, (slot < 0 ∨ es[slot.toNat]? ≠ some (some t))) : (live 0 es).findIdx (isAt slot) = (live 0 es).length := by
  rw [List.findIdx_eq_length]
  have key : ∀ (es : List En) (k : Nat) (y : Nat × Tx), y ∈ live k es → k ≤ y.1 ∧ es[y.1 - k]? = some (some y.2) := by
    intro es
    induction es with
    | nil => intro k y h; cases h
    | cons e es ih =>
      intro k y h
      cases e with
      | none =>
        obtain ⟨h1, h2⟩ := ih (k + 1) y h
        refine ⟨by omega, ?_⟩
        rw [show y.1 - k = (y.1 - (k + 1)) + 1 by omega]; simpa using h2
      | some t =>
        rcases List.mem_cons.1 h with rfl | h
        · exact ⟨Nat.le_refl _, by simp⟩
        · obtain ⟨h1, h2⟩ := ih (k + 1) y h
          refine ⟨by omega, ?_⟩
          rw [show y.1 - k = (y.1 - (k + 1)) + 1 by omega]; simpa using h2
  intro y hy
  obtain ⟨_, h2⟩ := key es 0 y hy
  simp only [isAt, decide_eq_false_iff_not]
  intro e
  subst e
  rcases h y.2 with h | h
  · omega
  · exact h (by simpa using h2)
theorem txt_none {f n : Nat} {es : List En} {b : Bool} {slot : Int} (h : Sh.txt ⟨f, n, es, b⟩ slot = none) : (live 0 es).findIdx (isAt slot) = (live 0 es).length := by
  refine live_miss es slot fun t => ?_
  unfold Sh.txt at h
  by_cases h0 : slot < 0
  · exact .inl h0
  · right
    rw [if_neg h0] at h
    intro e
    dsimp only at h
    rw [e] at h; simp at h
theorem txt_some {f n : Nat} {es : List En} {b : Bool} {slot : Int} {t : Tx} (h : Sh.txt ⟨f, n, es, b⟩ slot = some t) : 0 ≤ slot ∧ es[slot.toNat]? = some (some t) := by
  unfold Sh.txt at h
  by_cases h0 : slot < 0
  · rw [if_pos h0] at h; cases h
  · rw [if_neg h0] at h
    refine ⟨by omega, ?_⟩
    dsimp only at h
    cases he : es[slot.toNat]? with
    | none => rw [he] at h; cases h
    | some e => rw [he] at h; simp at h; rw [h]
theorem live_compact : ∀ (es : List En) (k : Nat) (j : Nat), live j (compact es) = ((live k es).mapIdx fun i y => (j + i, y.2))
  | [], _, _ => rfl
  | none :: es, k, j => live_compact es (k + 1) j
  | some t :: es, k, j => by
    have := live_compact es (k + 1) (j + 1)
    simp only [compact, List.filter_cons_of_pos, Option.isSome_some, live, List.mapIdx_cons] at this ⊢
    rw [this]
    congr 1
    apply List.ext_getElem (by simp)
    intro i h1 h2
    simp; omega
theorem compact_len (es : List En) (k : Nat) : (compact es).length = (live k es).length := by
  induction es generalizing k with
  | nil => rfl
  | cons e es ih => cases e with
    | none => exact ih (k + 1)
    | some t => simp [compact, live]; exact ih (k + 1)
theorem ff_live (es : List En) : ff es ≤ (live 0 es).length := by
  cases h : ff es with
  | zero => exact Nat.zero_le _
  | succ j => exact (live_lead es 0 j (by omega)).1
end Go.Proofs.Ythneebbmodkjiaa
