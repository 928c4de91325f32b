/- Part of a proof over the seat Ythneebbmodkjiaa: module G3. Its claim's last module says what is proved. -/
import Derived.Test.YthneebbmodkjiaaG2
namespace Go.Proofs.Ythneebbmodkjiaa
open Go.Proofs

theorem holds_take {n : Nat} {es us : List En} {b : List UInt8} (hn : 0 < n) (h : Holds n (es ++ us) b) : Holds n es (b.take (es.length * n)) := by
  have hl := h.len hn
  obtain ⟨hb, h⟩ := (holds_iff hn).1 h
  rw [List.length_append] at hb hl
  have hle := Nat.mul_le_mul_right n (Nat.le_add_right es.length us.length)
  refine (holds_iff hn).2 ⟨by rw [List.length_take]; omega, fun j hj => ?_⟩
  have hjn := Nat.mul_le_mul_right n (show j + 1 ≤ es.length by omega)
  rw [Nat.add_mul] at hjn
  have := h j (by rw [List.length_append]; omega)
  rw [List.getElem_append_left hj] at this
  rw [← this]
  unfold pz slotOf
  rw [List.drop_take, List.take_take, Nat.min_eq_left (by omega)]
theorem movedP_new {bs : List (List UInt8)} (h8 : bs.length = 8) {f n : Nat} (hf : f < 8) (hn : 16 ≤ n ∧ n ≤ 1024) : ∀ (r acc : List En) (k i : Nat) (b : List UInt8), i = acc.length + k → Holds n (acc ++ List.replicate k none ++ r) b →
    ∃ b' k', movedP f n (newD (bs.set f b)) i r acc = (newD (bs.set f b'), acc ++ r.filter Option.isSome, 0) ∧ Holds n (acc ++ r.filter Option.isSome ++ List.replicate k' none) b' ∧ (r.filter Option.isSome).length + k' = k + r.length
  | [], acc, k, i, b, hi, h => ⟨b, k, by simp [movedP], by simpa using h, by simp⟩
  | none :: r, acc, k, i, b, hi, h => by
    rw [movedP]
    obtain ⟨b', k', h1, h2, h3⟩ := movedP_new h8 hf hn r acc (k + 1) (i + 1) b (by omega) (by rw [List.replicate_succ']; simpa using h)
    exact ⟨b', k', h1, h2, by simp at h3 ⊢; omega⟩
  | some t :: r, acc, k, i, b, hi, h => by
    have hl := h.len (by omega)
    simp at hl
    obtain ⟨hb, hg⟩ := (holds_iff (by omega)).1 h
    have ht : t.length + 16 ≤ n := by
      have := hg i (by simp; omega)
      rw [List.getElem_append_right (by simp; omega)] at this
      simp [hi] at this
      rw [pz_eq (by omega)] at this
      exact parse1_txt this
    rw [movedP_some]
    by_cases e : acc.length = i
    · have hk : k = 0 := by omega
      subst hk
      rw [if_pos e]
      obtain ⟨b', k', h1, h2, h3⟩ := movedP_new h8 hf hn r (acc ++ [some t]) 0 (i + 1) b (by simp; omega) (by simpa using h)
      exact ⟨b', k', by rw [h1]; simp, by simpa using h2, by simp at h3 ⊢; omega⟩
    · obtain ⟨m, rfl⟩ : ∃ m, k = m + 1 := ⟨k - 1, by omega⟩
      rw [if_neg e]
      have hb8 : (bs.set f b).length = 8 := by simpa using h8
      have hbf : (bs.set f b).getD f [] = b := by rw [List.getD_eq_getElem?_getD]; simp [h8, hf]
      have hb2 : acc.length * n + n ≤ b.length ∧ i * n + n ≤ b.length ∧ b.length ≤ 131072 := by
        have h1 := Nat.mul_le_mul_right n (show acc.length + 1 ≤ (acc ++ List.replicate (m + 1) none ++ some t :: r).length by simp; omega)
        have h2 := Nat.mul_le_mul_right n (show i + 1 ≤ (acc ++ List.replicate (m + 1) none ++ some t :: r).length by simp; omega)
        have h3 := Nat.mul_le_mul (show (acc ++ List.replicate (m + 1) none ++ some t :: r).length ≤ 128 by simp; omega) hn.2
        rw [Nat.add_mul, Nat.one_mul] at h1 h2
        omega
      have hp := holds_put (i := acc.length) (t := t) ⟨by omega, by omega⟩ h (by simp) (by omega) ht
      have hL : (laidB n b acc.length t).length = b.length := by
        have h1 := hp.2
        rw [putAt_len (by simp), Nat.max_eq_left (by simp; omega)] at h1
        rw [h1, hb]
      rw [layS_new hb8 hf hbf ht (by omega) (by omega), List.set_set]
      dsimp only
      rw [if_neg (by simp)]
      rw [mark_new (b := laidB n b acc.length t) (by simpa using h8) hf (by rw [List.getD_eq_getElem?_getD]; simp [h8, hf]) 0 (by omega) (by omega), List.set_set]
      dsimp only
      rw [if_neg (by simp)]
      have he1 : putAt (acc ++ List.replicate (m + 1) none ++ some t :: r) acc.length t = (acc ++ [some t]) ++ List.replicate m none ++ some t :: r := by
        unfold putAt
        rw [if_neg (by simp), List.append_assoc, List.set_append_right _ _ (by omega)]
        simp [List.replicate_succ]
      rw [he1] at hp
      have hd := holds_del (i := i) (by omega) hp (by simp; omega)
      have he2 : ((acc ++ [some t]) ++ List.replicate m none ++ some t :: r).set i none = (acc ++ [some t]) ++ List.replicate (m + 1) none ++ r := by
        rw [List.set_append_right _ _ (by simp; omega)]
        rw [show i - (acc ++ [some t] ++ List.replicate m (none : En)).length = 0 by simp; omega]
        rw [List.replicate_succ']
        simp
      rw [he2] at hd
      obtain ⟨b', k', h1, h2, h3⟩ := movedP_new h8 hf hn r (acc ++ [some t]) (m + 1) (i + 1) _ (by simp; omega) hd
      exact ⟨b', k', by rw [h1]; simp, by simpa using h2, by simp at h3 ⊢; omega⟩
/-- Entries that are there, in order. -/
abbrev compact (es : List En) : List En := es.filter Option.isSome
theorem openD_new {bs : List (List UInt8)} (h8 : bs.length = 8) {f n : Nat} (hf : f < 8) (hfit : fitsB n = true) {es : List En} (h : Holds n es (bs.getD f [])) :
    ∃ b', openD (newD bs) f n = (newD (bs.set f b'), some ⟨f, n, compact es, false⟩, 0) ∧ Holds n (compact es) b' := by
  have hn : 16 ≤ n ∧ n ≤ 1024 := by
    unfold fitsB at hfit
    simp only [Bool.or_eq_true, beq_iff_eq] at hfit
    omega
  have hlen := h.len (by omega)
  obtain ⟨b, hb⟩ : ∃ b, bs.getD f [] = b := ⟨_, rfl⟩
  rw [hb] at h
  have hself : bs.set f b = bs := by
    rw [← hb, List.getD_eq_getElem?_getD, List.getElem?_eq_getElem (by omega)]
    simp
  obtain ⟨b', k', h1, h2, h3⟩ := movedP_new h8 hf hn es [] 0 0 b (by simp) (by simpa using h)
  rw [hself] at h1
  simp only [List.nil_append] at h1 h2
  have hbl := h.2
  have hbl' := h2.2
  have h5 : openD (newD bs) f n = openS (newD bs) f n es := by
    unfold openD
    rw [if_neg (by rw [hfit]; simp; omega), newD_asks h8 hf, if_neg (by simp), newD_file h8 hf, hb]
    show (match parse (n : Int).toNat b with | none => _ | some l => _) = _
    rw [Int.toNat_natCast, h.1]
    rfl
  rw [h5]
  unfold openS
  rw [h1, newD_file h8 hf, hb]
  dsimp only
  rw [if_neg (by simp)]
  have hcl : (compact es).length ≤ es.length := List.length_filter_le _ _
  have hclm := Nat.mul_le_mul_right n hcl
  by_cases hlt : (compact es).length * n < (newFl b).now.length
  · rw [if_pos hlt]
    have hle : (compact es).length * n ≤ b'.length := by
      rw [hbl', List.length_append, Nat.add_mul]; exact Nat.le_add_right _ _
    obtain ⟨d, hc1, hc2⟩ := cut_new (bs := bs.set f b') (by simpa using h8) hf (b := b') (by rw [List.getD_eq_getElem?_getD]; simp [h8, hf]) hle
    refine ⟨b'.take ((compact es).length * n), ?_, holds_take (by omega) h2⟩
    rw [hc1]
    dsimp only
    rw [if_neg (by simp), hc2]
    dsimp only
    rw [if_neg (by simp), List.set_set]
  · rw [if_neg hlt]
    have h6 : (newFl b).now.length = es.length * n := hbl
    have h7 : (compact es).length = es.length := by
      rw [h6] at hlt
      have := Nat.le_of_mul_le_mul_right (Nat.le_of_not_lt hlt) (show 0 < n by omega)
      omega
    have hk0 : k' = 0 := by
      have h9 : (compact es).length + k' = 0 + es.length := h3
      omega
    subst hk0
    exact ⟨b', rfl, by simpa using h2⟩
end Go.Proofs.Ythneebbmodkjiaa
