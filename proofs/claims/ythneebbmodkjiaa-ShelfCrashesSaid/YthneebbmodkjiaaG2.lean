/- Part of a proof over the seat Ythneebbmodkjiaa: module G2. Its claim's last module says what is proved. -/
import Derived.Test.YthneebbmodkjiaaG1
namespace Go.Proofs.Ythneebbmodkjiaa
open Go.Proofs

theorem mapM_range {β : Type} (g : Nat → Option β) (ys : List β) : ∀ L, (List.range L).mapM g = some ys ↔ ys.length = L ∧ ∀ i, i < L → g i = ys[i]? := by
  intro L
  constructor
  · intro h
    have hl := mapM_len g h
    rw [List.length_range] at hl
    refine ⟨hl, ?_⟩
    clear hl
    induction L generalizing ys with
    | zero => intro i hi; omega
    | succ L ih =>
      rw [List.range_succ, List.mapM_append] at h
      cases h1 : (List.range L).mapM g with
      | none => simp [h1] at h
      | some zs =>
        cases h2 : g L with
        | none => simp [h1, h2] at h
        | some z =>
          simp [h1, h2] at h
          subst h
          have hz := mapM_len g h1
          rw [List.length_range] at hz
          intro i hi
          rcases Nat.lt_succ_iff_lt_or_eq.1 hi with hi | rfl
          · rw [List.getElem?_append_left (by omega)]; exact ih zs h1 i hi
          · rw [List.getElem?_append_right (by omega), h2]; simp [hz]
  · rintro ⟨hl, h⟩
    induction L generalizing ys with
    | zero => simp at hl; subst hl; simp
    | succ L ih =>
      rcases List.eq_nil_or_concat ys with rfl | ⟨zs, z, rfl⟩
      · simp at hl
      · rw [List.concat_eq_append] at h hl ⊢
        simp at hl
        rw [List.range_succ, List.mapM_append]
        rw [ih zs (by omega) (fun i hi => by rw [h i (by omega), List.getElem?_append_left (by omega)])]
        have := h L (by omega)
        rw [List.getElem?_append_right (by omega)] at this
        simp [hl] at this
        simp [this]
theorem nSl_mul {n L : Nat} (hn : 0 < n) : nSl n (L * n) = L := by
  apply Nat.le_antisymm
  · apply Nat.le_of_not_lt
    intro h
    have := (nSl_iff hn).1 h
    omega
  · cases L with
    | zero => omega
    | succ L =>
      have : L < nSl n ((L + 1) * n) := (nSl_iff hn).2 (by rw [Nat.add_mul]; omega)
      omega
theorem holds_iff {n : Nat} {es : List En} {b : List UInt8} (hn : 0 < n) : Holds n es b ↔ b.length = es.length * n ∧ ∀ i (h : i < es.length), pz n b i = some es[i] := by
  unfold Holds parse
  rw [mapM_range]
  constructor
  · rintro ⟨⟨h1, h2⟩, h3⟩
    refine ⟨h3, fun i hi => ?_⟩
    rw [h2 i (by omega), List.getElem?_eq_getElem hi]
  · rintro ⟨h3, h⟩
    rw [h3, nSl_mul hn]
    exact ⟨⟨rfl, fun i hi => by rw [h i hi, List.getElem?_eq_getElem hi]⟩, rfl⟩
theorem holds_nil {n : Nat} (hn : 0 < n) : Holds n [] [] := (holds_iff hn).2 ⟨by simp, fun i h => by simp at h⟩
theorem Holds.len {n : Nat} {es : List En} {b : List UInt8} (hn : 0 < n) (h : Holds n es b) : es.length ≤ 128 := by
  apply Nat.le_of_not_lt
  intro hl
  have := ((holds_iff hn).1 h).2 128 hl
  unfold pz at this
  simp at this
theorem slotOf_len {n : Nat} {b : List UInt8} {i L : Nat} (hb : b.length = L * n) (hi : i < L) : (slotOf n b i).length = n := by
  have := Nat.mul_le_mul_right n (show i + 1 ≤ L by omega)
  rw [Nat.add_mul] at this
  unfold slotOf; simp; omega
theorem parse1_lay {n : Nat} {t : Tx} (ht : t.length + 16 ≤ n) (hn : n ≤ 2 ^ 16) : parse1 n ([1] ++ (slotB n t).drop 1) = some (some t) := by
  have e : ([1] ++ (slotB n t).drop 1 : List UInt8) = 1 :: UInt8.ofNat (t.length / 256) :: UInt8.ofNat (t.length % 256) :: (List.replicate 13 0 ++ (t ++ List.replicate (n - 16 - t.length) 0)) := by
    simp [slotB]
  rw [e]
  have hl : tl (1 :: UInt8.ofNat (t.length / 256) :: UInt8.ofNat (t.length % 256) :: (List.replicate 13 0 ++ (t ++ List.replicate (n - 16 - t.length) 0))) = t.length := by
    unfold tl
    simp
    omega
  unfold parse1
  rw [hl, if_neg (by simp), if_neg (by simp; omega), if_neg (by omega)]
  congr 2
  rw [show (16 : Nat) = 13 + 3 from rfl]
  show List.take t.length (List.drop 13 (List.replicate 13 0 ++ (t ++ _))) = t
  rw [List.drop_left' (by simp), List.take_left' rfl]
theorem pz_eq {n : Nat} {b : List UInt8} {i : Nat} (h : i < 128) : pz n b i = parse1 n (slotOf n b i) := by unfold pz; rw [if_neg (by omega)]
theorem over_len_in {b x : List UInt8} {p : Nat} (h : p + x.length ≤ b.length) : (over b p x).length = b.length := by rw [over_length]; omega
theorem holds_del {n : Nat} {es : List En} {b : List UInt8} (hn : 0 < n) (h : Holds n es b) {i : Nat} (hi : i < es.length) : Holds n (es.set i none) (over b (i * n) [0]) := by
  have hl := h.len hn
  obtain ⟨hb, h⟩ := (holds_iff hn).1 h
  have hin := Nat.mul_le_mul_right n (show i + 1 ≤ es.length by omega)
  rw [Nat.add_mul] at hin
  refine (holds_iff hn).2 ⟨by rw [over_len_in (by simp; omega), hb]; simp, fun j hj => ?_⟩
  rw [List.length_set] at hj
  rw [pz_eq (by omega), slotOf_over hn (by omega) (by simp; omega)]
  by_cases e : j = i
  · subst e
    rw [if_pos rfl]
    simp [parse1]
  · rw [if_neg e, ← pz_eq (by omega), h j hj, List.getElem_set_ne (Ne.symm e)]
def laidB (n : Nat) (b : List UInt8) (i : Nat) (t : Tx) : List UInt8 := over (over b (i * n) (slotB n t)) (i * n) [1]
theorem putAt_len {es : List En} {i : Nat} {t : Tx} (hi : i ≤ es.length) : (putAt es i t).length = max es.length (i + 1) := by
  unfold putAt; split
  · simp; omega
  · simp; omega
theorem putAt_get {es : List En} {i : Nat} {t : Tx} (hi : i ≤ es.length) {j : Nat} (hj : j < (putAt es i t).length) : (putAt es i t)[j] = if j = i then some t else (es[j]?).join := by
  have hl := putAt_len (t := t) hi
  unfold putAt at hj ⊢
  by_cases h : i = es.length
  · subst h
    simp only [if_pos] at hj ⊢
    rw [List.length_append, List.length_singleton] at hj
    split
    · rename_i e; subst e; simp
    · rw [List.getElem_append_left (by omega), List.getElem?_eq_getElem (by omega)]; rfl
  · simp only [if_neg h] at hj ⊢
    rw [List.length_set] at hj
    rw [List.getElem_set]
    split
    · rename_i e; rw [if_pos e.symm]
    · rename_i e; rw [if_neg (Ne.symm e), List.getElem?_eq_getElem hj]; rfl
theorem holds_put {n : Nat} {es : List En} {b : List UInt8} (hn : 0 < n ∧ n ≤ 2 ^ 16) (h : Holds n es b) {i : Nat} {t : Tx} (hi : i ≤ es.length) (hi2 : i < 128) (ht : t.length + 16 ≤ n) : Holds n (putAt es i t) (laidB n b i t) := by
  have hl := h.len hn.1
  obtain ⟨hb, h⟩ := (holds_iff hn.1).1 h
  have hsb := slotB_length ht
  have hin := Nat.mul_le_mul_right n hi
  have hpl := putAt_len (t := t) hi
  have hll : (over b (i * n) (slotB n t)).length = (putAt es i t).length * n := by
    rw [over_length, hsb, hpl, hb]
    rcases Nat.lt_or_ge i es.length with e | e
    · have := Nat.mul_le_mul_right n (show i + 1 ≤ es.length by omega)
      rw [Nat.add_mul] at this
      rw [Nat.max_eq_left (by omega), Nat.max_eq_left (by omega)]
    · have e : i = es.length := by omega
      subst e
      rw [Nat.max_eq_right (by omega), Nat.max_eq_right (by omega), Nat.add_mul, Nat.one_mul]
  have hin2 : i * n + n ≤ (over b (i * n) (slotB n t)).length := by rw [over_length, hsb]; omega
  refine (holds_iff hn.1).2 ⟨by unfold laidB; rw [over_len_in (by simp; omega), hll], fun j hj => ?_⟩
  rw [putAt_get hi hj]
  rw [hpl] at hj
  rw [pz_eq (by omega)]
  unfold laidB
  rw [slotOf_over hn.1 (by omega) (by simp; omega), slotOf_over hn.1 (by omega) (by omega)]
  by_cases e : j = i
  · subst e
    rw [if_pos rfl, if_pos rfl, if_pos rfl, hsb]
    have : (slotOf n b j).drop n = [] := List.drop_eq_nil_of_le (by unfold slotOf; simp; omega)
    rw [this, List.append_nil]
    exact parse1_lay ht hn.2
  · rw [if_neg e, if_neg e, if_neg e]
    have hj2 : j < es.length := by omega
    rw [← pz_eq (by omega), h j hj2, List.getElem?_eq_getElem hj2]; rfl
theorem layS_new {bs : List (List UInt8)} (h : bs.length = 8) {f n i : Nat} (hf : f < 8) {b : List UInt8} (hb : bs.getD f [] = b) {t : Tx} (ht : t.length + 16 ≤ n) (hp : i * n ≤ b.length) (hx : i * n + n ≤ 131072) :
    layS (newD bs) f n i t = (newD (bs.set f (laidB n b i t)), 0) := by
  have hsb := slotB_length ht
  unfold layS mark
  rw [wrs_new h hf hb hp (by rw [hsb]; exact hx)]
  dsimp only
  rw [if_neg (by simp)]
  rw [wrs_new (b := over b (i * n) (slotB n t)) (by simpa using h) hf (by rw [List.getD_eq_getElem?_getD]; simp [h, hf]) (by rw [over_length]; omega) (by simp; omega)]
  rw [List.set_set]; rfl
theorem mark_new {bs : List (List UInt8)} (h : bs.length = 8) {f n i : Nat} (hf : f < 8) {b : List UInt8} (hb : bs.getD f [] = b) (m : UInt8) (hp : i * n ≤ b.length) (hx : i * n + 1 ≤ 131072) :
    mark (newD bs) f n i m = (newD (bs.set f (over b (i * n) [m])), 0) := by
  unfold mark
  exact wrs_new h hf hb hp (by simp; omega)
end Go.Proofs.Ythneebbmodkjiaa
