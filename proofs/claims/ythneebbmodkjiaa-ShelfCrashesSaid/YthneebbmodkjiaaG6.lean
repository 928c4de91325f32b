/- Part of a proof over the seat Ythneebbmodkjiaa: module G5. Its claim's last module says what is proved. -/
import Derived.Test.YthneebbmodkjiaaE12
namespace Go.Proofs.Ythneebbmodkjiaa
open Go.Proofs

/-! ### What a crash keeps of bytes that were being written; slots in such files -/
abbrev B0 (b : List UInt8) (j : Nat) : UInt8 := b.getD j 0
theorem B0_out {b : List UInt8} {j : Nat} (h : b.length ≤ j) : B0 b j = 0 := by simp [B0, List.getD_eq_getElem?_getD, List.getElem?_eq_none h]
theorem over_get (b : List UInt8) (p : Nat) (x : List UInt8) (j : Nat) : B0 (over b p x) j = if p ≤ j ∧ j < p + x.length then B0 x (j - p) else B0 b j := by
  have hL : ((b ++ List.replicate (p - b.length) 0).take p).length = p := by simp; omega
  unfold B0 over
  simp only [List.getD_eq_getElem?_getD]
  rw [List.append_assoc]
  by_cases h1 : j < p
  · rw [if_neg (by omega), List.getElem?_append_left (by omega), List.getElem?_take_of_lt h1]
    by_cases h2 : j < b.length
    · rw [List.getElem?_append_left h2]
    · rw [List.getElem?_append_right (by omega), List.getElem?_eq_none (l := b) (by omega)]
      rw [List.getElem?_replicate]; split <;> rfl
  · rw [List.getElem?_append_right (by omega), hL]
    by_cases h3 : j < p + x.length
    · rw [if_pos ⟨by omega, h3⟩, List.getElem?_append_left (by omega)]
    · rw [if_neg (by omega), List.getElem?_append_right (by omega), List.getElem?_drop]
      rw [show p + x.length + (j - p - x.length) = j by omega]
/-- What may lie there where bytes were being written. -/
structure Mix (b : List UInt8) (p : Nat) (x b' : List UInt8) : Prop where
  lo : b.length ≤ b'.length
  hi : b'.length ≤ max b.length (p + x.length)
  at' : ∀ j, B0 b' j = B0 b j ∨ (p ≤ j ∧ j < p + x.length ∧ B0 b' j = B0 x (j - p))
theorem Mix.refl (b : List UInt8) (p : Nat) (x : List UInt8) : Mix b p x b := ⟨Nat.le_refl _, Nat.le_max_left _ _, fun _j => .inl rfl⟩
/-- A part of what is written. -/
def Piece (p : Nat) (x : List UInt8) (c : Ch) : Prop := c.cut = false ∧ p ≤ c.at' ∧ c.at' + c.b.length ≤ p + x.length ∧ ∀ i, i < c.b.length → B0 c.b i = B0 x (c.at' - p + i)
theorem Mix.keep1 {b x b' : List UInt8} {p : Nat} (h : Mix b p x b') {c : Ch} (hc : Piece p x c) (q : Int) : Mix b p x (keep1 b' c q) := by
  obtain ⟨c1, c2, c3, c4⟩ := hc
  unfold Go.Proofs.Ythneebbmodkjiaa.keep1
  split
  · exact h
  rw [c1, if_neg (by simp)]
  dsimp only
  obtain ⟨n, hn⟩ : ∃ n, (if q > 1 then min c.b.length (q - 2).toNat else c.b.length) = n := ⟨_, rfl⟩
  have hnl : n ≤ c.b.length := by rw [← hn]; split <;> omega
  rw [hn]
  split
  · exact h
  have hl : (c.b.take n).length = n := by simp; omega
  refine ⟨by rw [over_length]; have := h.lo; omega, by rw [over_length, hl]; have := h.hi; omega, fun j => ?_⟩
  rw [over_get, hl]
  by_cases e : c.at' ≤ j ∧ j < c.at' + n
  · rw [if_pos e]
    refine .inr ⟨by omega, by omega, ?_⟩
    have : B0 (c.b.take n) (j - c.at') = B0 c.b (j - c.at') := by
      simp only [B0, List.getD_eq_getElem?_getD]; rw [List.getElem?_take_of_lt (by omega)]
    rw [this, c4 _ (by omega)]
    congr 1; omega
  · rw [if_neg e]; exact h.at' j
theorem Mix.keep {b x : List UInt8} {p : Nat} : ∀ (cs : List Ch) (b' : List UInt8) (ps : List Int), Mix b p x b' → (∀ c ∈ cs, Piece p x c) → Mix b p x (keep b' cs ps).1 := by
  intro cs
  induction cs with
  | nil => intro b' ps h _; exact h
  | cons c cs ih => intro b' ps h hc; exact ih _ _ (h.keep1 (hc c (by simp)) _) (fun c' h' => hc c' (by simp [h']))
theorem chunks_piece : ∀ (m p : Nat) (y : List UInt8), ∀ z ∈ chunks m p y, p ≤ z.1 ∧ z.1 + z.2.length ≤ p + y.length ∧ ∀ i, i < z.2.length → B0 z.2 i = B0 y (z.1 - p + i) := by
  intro m
  induction m with
  | zero => intro p y z hz; simp [chunks] at hz
  | succ m ih =>
    intro p y z hz
    unfold chunks at hz
    split at hz
    · simp at hz
    rw [List.mem_cons] at hz
    obtain ⟨k, hk⟩ : ∃ k, min (64 - p % 64) y.length = k := ⟨_, rfl⟩
    rw [hk] at hz
    have hkl : k ≤ y.length := by omega
    rcases hz with rfl | hz
    · refine ⟨Nat.le_refl _, by simp; omega, fun i hi => ?_⟩
      simp only [List.length_take] at hi
      simp only [B0, List.getD_eq_getElem?_getD]
      rw [List.getElem?_take_of_lt (by omega)]; simp
    · obtain ⟨h1, h2, h3⟩ := ih _ _ z hz
      rw [List.length_drop] at h2
      refine ⟨by omega, by omega, fun i hi => ?_⟩
      rw [h3 i hi]
      simp only [B0, List.getD_eq_getElem?_getD, List.getElem?_drop]
      congr 2; omega
theorem mix_new (b : List UInt8) (p : Nat) (x : List UInt8) (ps : List Int) : Mix b p x (keep b (newChg p x) ps).1 := by
  refine Mix.keep _ _ _ (.refl b p x) fun c hc => ?_
  unfold newChg at hc
  rw [List.mem_map] at hc
  obtain ⟨z, hz, rfl⟩ := hc
  obtain ⟨h1, h2, h3⟩ := chunks_piece _ _ _ z hz
  exact ⟨rfl, h1, h2, h3⟩
theorem B0_ext {b c : List UInt8} (hl : b.length = c.length) (h : ∀ j, B0 b j = B0 c j) : b = c := by
  refine List.ext_getElem hl fun i h1 h2 => ?_
  have := h i
  simpa [B0, List.getD_eq_getElem?_getD, h1, h2] using this
/-- One byte is there or not. -/
theorem mix_one {b b' : List UInt8} {p : Nat} {m : UInt8} (hp : p < b.length) (h : Mix b p [m] b') : b' = b ∨ b' = over b p [m] := by
  have hl : b'.length = b.length := by have h1 := h.lo; have h2 := h.hi; simp at h2; omega
  have ho : ∀ j, j ≠ p → B0 b' j = B0 b j := fun j hj => by
    rcases h.at' j with e | ⟨e1, e2, _⟩
    · exact e
    · simp at e2; omega
  by_cases e : B0 b' p = B0 b p
  · exact .inl (B0_ext hl fun j => by
      by_cases hj : j = p
      · subst hj; exact e
      · exact ho j hj)
  · right
    refine B0_ext (by rw [over_length]; simp; omega) fun j => ?_
    rw [over_get]
    by_cases hj : j = p
    · subst hj
      rw [if_pos ⟨Nat.le_refl _, by simp⟩]
      rcases h.at' j with e' | ⟨_, _, e'⟩
      · exact absurd e' e
      · exact e'
    · rw [if_neg (by simp; omega)]; exact ho j hj
theorem parse_iff {n : Nat} {b : List UInt8} {es : List En} : parse n b = some es ↔ es.length = nSl n b.length ∧ ∀ i (h : i < es.length), pz n b i = some es[i] := by
  unfold parse
  rw [mapM_range]
  constructor
  · rintro ⟨h1, h2⟩
    exact ⟨h1, fun i hi => by rw [h2 i (by omega), List.getElem?_eq_getElem hi]⟩
  · rintro ⟨h1, h2⟩
    exact ⟨h1, fun i hi => by rw [h2 i (by omega), List.getElem?_eq_getElem (by omega)]⟩
theorem parse_len' {n : Nat} {b : List UInt8} {es : List En} (h : parse n b = some es) : es.length ≤ 128 := by
  apply Nat.le_of_not_lt
  intro hl
  have := (parse_iff.1 h).2 128 hl
  simp [pz] at this
theorem slotOf_get {n : Nat} {b : List UInt8} {i k : Nat} (hk : k < n) : B0 (slotOf n b i) k = B0 b (i * n + k) := by
  unfold slotOf
  simp only [B0, List.getD_eq_getElem?_getD]
  rw [List.getElem?_take_of_lt hk, List.getElem?_drop]
theorem slotOf_full {n : Nat} {b : List UInt8} {i : Nat} (h : i * n + n ≤ b.length) : (slotOf n b i).length = n := by unfold slotOf; simp; omega
theorem parse1_none {n : Nat} {x : List UInt8} : parse1 n x = some none ↔ B0 x 0 = 0 := by
  unfold parse1
  constructor
  · intro h
    split at h
    · assumption
    split at h
    · cases h
    split at h
    · cases h
    · simp at h
  · intro h; rw [if_pos h]
theorem parse1_full {n : Nat} {x : List UInt8} {t : Tx} (h : parse1 n x = some (some t)) : n ≤ x.length ∧ t.length + 16 ≤ n := by
  unfold parse1 at h
  split at h
  · simp at h
  rename_i h0
  split at h
  · cases h
  rename_i h1
  split at h
  · cases h
  rename_i h2
  simp at h
  subst h
  rw [not_or] at h1
  refine ⟨by omega, ?_⟩
  rw [List.length_take]; omega
/-- A slot that is taken lies whole in the file. -/
theorem taken_in {n : Nat} {b : List UInt8} {es : List En} (_hn : 0 < n) (h : parse n b = some es) {i : Nat} {t : Tx} (hi : es[i]? = some (some t)) : i * n + n ≤ b.length ∧ t.length + 16 ≤ n := by
  obtain ⟨h1, h2⟩ := parse_iff.1 h
  obtain ⟨hl, he⟩ := List.getElem?_eq_some_iff.1 hi
  have := h2 i hl
  rw [pz_eq (by have := parse_len' h; omega), he] at this
  have hf := parse1_full this
  refine ⟨?_, hf.2⟩
  have h3 := hf.1
  unfold slotOf at h3
  simp at h3; omega
theorem free_at {n : Nat} {b : List UInt8} {es : List En} (hn : 0 < n) (h : parse n b = some es) {i : Nat} (hi : (es[i]?).join = none) : B0 b (i * n) = 0 := by
  obtain ⟨h1, h2⟩ := parse_iff.1 h
  by_cases hl : i < es.length
  · have := h2 i hl
    rw [List.getElem?_eq_getElem hl] at hi
    rw [pz_eq (by have := parse_len' h; omega), show es[i] = none from hi] at this
    have := parse1_none.1 this
    rw [slotOf_get hn] at this
    simpa using this
  · refine B0_out ?_
    have := mt (nSl_iff (i := i) (len := b.length) hn).2 (by omega)
    omega
/-- A file that is the same at what is taken, and free elsewhere, holds the same. -/
theorem parse_like {n : Nat} {b b' : List UInt8} {es : List En} (hn : 0 < n) (h : parse n b = some es) (hl : b.length ≤ b'.length) (h128 : b'.length ≤ 128 * n)
    (hs : ∀ i t, es[i]? = some (some t) → ∀ k, k < n → B0 b' (i * n + k) = B0 b (i * n + k)) (hf : ∀ i, (es[i]?).join = none → B0 b' (i * n) = 0) :
    ∃ m, parse n b' = some (es ++ List.replicate m none) ∧ nSl n b'.length = es.length + m := by
  obtain ⟨h1, h2⟩ := parse_iff.1 h
  have hle : es.length ≤ nSl n b'.length := by
    rw [h1]
    apply Nat.le_of_not_lt
    intro hlt
    have h3 := (nSl_iff hn).1 hlt
    have h4 := mt (nSl_iff (i := nSl n b'.length) (len := b'.length) hn).2 (by omega)
    omega
  refine ⟨nSl n b'.length - es.length, parse_iff.2 ⟨by simp; omega, fun i hi => ?_⟩, by omega⟩
  have hin : i * n < b'.length := (nSl_iff hn).1 (by simp at hi; omega)
  have hi128 : i < 128 := Nat.lt_of_mul_lt_mul_right (Nat.lt_of_lt_of_le hin h128)
  rw [pz_eq hi128]
  by_cases hj : (es[i]?).join = none
  · have e : (es ++ List.replicate (nSl n b'.length - es.length) none)[i] = none := by
      by_cases hl : i < es.length
      · rw [List.getElem_append_left hl]
        rw [List.getElem?_eq_getElem hl] at hj; exact hj
      · rw [List.getElem_append_right (by omega)]; simp
    rw [e]
    refine parse1_none.2 ?_
    rw [slotOf_get hn]; exact hf i hj
  · obtain ⟨t, ht⟩ : ∃ t, es[i]? = some (some t) := by
      cases hh : es[i]? with
      | none => rw [hh] at hj; exact absurd rfl hj
      | some e =>
        cases e with
        | none => rw [hh] at hj; exact absurd rfl hj
        | some t => exact ⟨t, rfl⟩
    obtain ⟨hil, he⟩ := List.getElem?_eq_some_iff.1 ht
    have hin2 := (taken_in hn h ht).1
    have e : slotOf n b' i = slotOf n b i := by
      refine B0_ext (by rw [slotOf_full (by omega), slotOf_full hin2]) fun k => ?_
      by_cases hk : k < n
      · rw [slotOf_get hk, slotOf_get hk]; exact hs i t ht k hk
      · rw [B0_out (by rw [slotOf_full (by omega)]; omega), B0_out (by rw [slotOf_full hin2]; omega)]
    rw [e, List.getElem_append_left hil, ← pz_eq hi128, h2 i hil]
theorem slot_sep {n i j k : Nat} (hk : k < n) (hij : j ≠ i) : ¬(i * n ≤ j * n + k ∧ j * n + k < i * n + n) := by
  rcases Nat.lt_or_gt_of_ne hij with h | h
  · have := Nat.mul_le_mul_right n (show j + 1 ≤ i by omega)
    rw [Nat.add_mul] at this; omega
  · have := Nat.mul_le_mul_right n (show i + 1 ≤ j by omega)
    rw [Nat.add_mul] at this; omega
/-- Where a slot was being laid: nothing else is there. -/
theorem parse_mix {n : Nat} {b b' : List UInt8} {es : List En} (hn : 0 < n) (h : parse n b = some es) {i : Nat} {t : Tx} (hi : (es[i]?).join = none) (hi128 : i < 128) (ht : t.length + 16 ≤ n) (M : Mix b (i * n) (slotB n t) b') :
    ∃ m, parse n b' = some (es ++ List.replicate m none) := by
  have hsl := slotB_length ht
  have hb128 : b.length ≤ 128 * n := by
    obtain ⟨h1, _⟩ := parse_iff.1 h
    have h3 := parse_len' h
    have h4 := mt (nSl_iff (i := 128) (len := b.length) hn).2 (by omega)
    omega
  have hin : i * n + n ≤ 128 * n := by
    have := Nat.mul_le_mul_right n (show i + 1 ≤ 128 by omega)
    rw [Nat.add_mul] at this; omega
  obtain ⟨m, hm, _⟩ := parse_like hn h M.lo (by have := M.hi; rw [hsl] at this; omega) (fun j u hj k hk => by
    have hij : j ≠ i := by rintro rfl; rw [hj] at hi; cases hi
    rcases M.at' (j * n + k) with e | ⟨e1, e2, _⟩
    · exact e
    · rw [hsl] at e2; exact absurd ⟨e1, e2⟩ (slot_sep hk hij)) (fun j hj => by
    rcases M.at' (j * n) with e | ⟨e1, e2, e3⟩
    · rw [e]; exact free_at hn h hj
    · rw [hsl] at e2
      have hij : j = i := by
        apply Classical.byContradiction
        intro hij
        exact slot_sep (k := 0) hn hij ⟨by omega, by omega⟩
      subst hij
      rw [e3, Nat.sub_self]; rfl)
  exact ⟨m, hm⟩
theorem mix_all (b : List UInt8) (p : Nat) (x : List UInt8) : Mix b p x (over b p x) := by
  refine ⟨by rw [over_length]; omega, by rw [over_length]; exact Nat.le_refl _, fun j => ?_⟩
  rw [over_get]
  split
  · rename_i e; exact .inr ⟨e.1, e.2, rfl⟩
  · exact .inl rfl
theorem parse_set {n : Nat} {b : List UInt8} {es : List En} (hn : 0 < n) (h : parse n b = some es) {i : Nat} (hi : i < es.length) {m : UInt8} {e : En} (he : parse1 n ([m] ++ (slotOf n b i).drop 1) = some e) : parse n (over b (i * n) [m]) = some (es.set i e) := by
  have h128 := parse_len' h
  obtain ⟨h1, h2⟩ := parse_iff.1 h
  have hin := (nSl_iff hn).1 (show i < nSl n b.length by omega)
  refine parse_iff.2 ⟨by rw [over_len_in (by simp; omega), List.length_set]; exact h1, fun j hj => ?_⟩
  rw [List.length_set] at hj
  rw [pz_eq (by omega), slotOf_over hn (by omega) (by simp; omega)]
  by_cases e : j = i
  · subst e
    rw [if_pos rfl]; simpa using he
  · rw [if_neg e, ← pz_eq (by omega), h2 j hj, List.getElem_set_ne (Ne.symm e)]
theorem parse_del {n : Nat} {b : List UInt8} {es : List En} (hn : 0 < n) (h : parse n b = some es) {i : Nat} (hi : i < es.length) : parse n (over b (i * n) [0]) = some (es.set i none) :=
  parse_set hn h hi (parse1_none.2 rfl)
theorem parse_put {n : Nat} {b : List UInt8} {es : List En} (hn : 0 < n ∧ n ≤ 2 ^ 16) (h : parse n b = some es) {i : Nat} {t : Tx} (hi : (es[i]?).join = none) (hi128 : i < 128) (hib : i * n ≤ b.length) (ht : t.length + 16 ≤ n) :
    ∃ m, parse n (over b (i * n) (slotB n t)) = some (es ++ List.replicate m none) ∧ i < es.length + m ∧ parse n (laidB n b i t) = some ((es ++ List.replicate m none).set i (some t)) ∧ (i * n + n ≤ b.length → m = 0) := by
  have hsl := slotB_length ht
  obtain ⟨m, hm⟩ := parse_mix hn.1 h hi hi128 ht (mix_all b (i * n) (slotB n t))
  have hL : (over b (i * n) (slotB n t)).length = max b.length (i * n + n) := by rw [over_length, hsl]
  have hlen := (parse_iff.1 hm).1
  have hin : i < nSl n (over b (i * n) (slotB n t)).length := (nSl_iff hn.1).2 (by rw [hL]; omega)
  simp at hlen
  refine ⟨m, hm, by omega, parse_set hn.1 hm (by simp; omega) ?_, fun h5 => ?_⟩
  · have hz : (slotOf n b i).drop n = [] := List.drop_eq_nil_of_le (by unfold slotOf; rw [List.length_take]; omega)
    rw [slotOf_over hn.1 hib (by omega), if_pos rfl, hsl, hz, List.append_nil]
    exact parse1_lay ht hn.2
  · have h6 := (parse_iff.1 h).1
    rw [hL, Nat.max_eq_left h5] at hlen
    omega
/-- The texts. -/
def txts (es : List En) : List Tx := es.filterMap id
theorem txts_app (es us : List En) : txts (es ++ us) = txts es ++ txts us := by simp [txts]
theorem txts_rep (m : Nat) : txts (List.replicate m none) = [] := by induction m <;> simp_all [txts, List.replicate_succ]
theorem txts_pad (es : List En) (m : Nat) : txts (es ++ List.replicate m none) = txts es := by rw [txts_app, txts_rep, List.append_nil]
theorem txts_put : ∀ {es : List En} {i : Nat} {t : Tx}, i < es.length → (es[i]?).join = none → (txts (es.set i (some t))).Perm (t :: txts es)
  | e :: es, 0, t, _, h => by
    have : e = none := h
    subst this
    exact .refl _
  | e :: es, i + 1, t, hl, h => by
    have ih := txts_put (es := es) (i := i) (t := t) (by simpa using hl) h
    rw [List.set_cons_succ]
    cases e with
    | none => exact ih
    | some u => exact (ih.cons u).trans (.swap _ _ _)
theorem txts_del : ∀ {es : List En} {i : Nat} {t : Tx}, es[i]? = some (some t) → (t :: txts (es.set i none)).Perm (txts es)
  | e :: es, 0, t, h => by
    have : e = some t := by simpa using h
    subst this
    exact .refl _
  | e :: es, i + 1, t, h => by
    have ih := txts_del (es := es) (i := i) (t := t) (by simpa using h)
    rw [List.set_cons_succ]
    cases e with
    | none => exact ih
    | some u => exact (List.Perm.swap _ _ _).trans (ih.cons u)
theorem txts_filter : ∀ es : List En, txts (es.filter Option.isSome) = txts es
  | [] => rfl
  | none :: es => txts_filter es
  | some t :: es => by
    show txts (some t :: es.filter Option.isSome) = t :: txts es
    rw [← txts_filter es]; rfl
end Go.Proofs.Ythneebbmodkjiaa

namespace Go.Proofs.Ythneebbmodkjiaa
open Go.Proofs

/-! ### Disks whose power goes -/
/-- All safe; the power goes ahead of the call u; 0: it does not. -/
def QD (bs : List (List UInt8)) (u : Nat) : Dk := ⟨bs.map newFl, false, u, 0⟩
/-- Without power; what a crash keeps of one file. -/
def Gone (bs : List (List UInt8)) (f : Nat) (Q : List UInt8 → Prop) (d : Dk) : Prop := d.off = true ∧ ∀ ps, ∃ b', keepAll d.fs ps = bs.set f b' ∧ Q b'
theorem Gone.imp {bs : List (List UInt8)} {f : Nat} {Q Q' : List UInt8 → Prop} {d : Dk} (h : Gone bs f Q d) (hq : ∀ b, Q b → Q' b) : Gone bs f Q' d := ⟨h.1, fun ps => by
  obtain ⟨b', h1, h2⟩ := h.2 ps; exact ⟨b', h1, hq _ h2⟩⟩
theorem Gone.set {bs : List (List UInt8)} {f : Nat} {Q : List UInt8 → Prop} {d : Dk} {c : List UInt8} (h : Gone (bs.set f c) f Q d) : Gone bs f Q d := ⟨h.1, fun ps => by
  obtain ⟨b', h1, h2⟩ := h.2 ps; exact ⟨b', by rw [h1, List.set_set], h2⟩⟩
theorem keepAll_newq : ∀ (bs : List (List UInt8)) (ps : List Int), keepAll (bs.map newFl) ps = bs
  | [], _ => rfl
  | b :: bs, ps => by
    show (keep b [] ps).1 :: keepAll (bs.map newFl) (keep b [] ps).2 = _
    rw [keepAll_newq bs]; simp [keep]
theorem keepAll_setq : ∀ (bs : List (List UInt8)) (f : Nat) (x : Fl) (ps : List Int), f < bs.length → ∃ qs, keepAll ((bs.map newFl).set f x) ps = bs.set f (keep x.safe x.chg qs).1
  | b :: bs, 0, x, ps, _ => ⟨ps, by
    show (keep x.safe x.chg ps).1 :: keepAll (bs.map newFl) (keep x.safe x.chg ps).2 = _
    rw [keepAll_newq]; rfl⟩
  | b :: bs, f + 1, x, ps, h => by
    obtain ⟨qs, hq⟩ := keepAll_setq bs f x (keep b [] ps).2 (by simpa using h)
    refine ⟨qs, ?_⟩
    show (keep b [] ps).1 :: keepAll ((bs.map newFl).set f x) (keep b [] ps).2 = _
    rw [hq]; rfl
theorem set_self {bs : List (List UInt8)} {f : Nat} (hf : f < bs.length) : bs.set f (bs.getD f []) = bs := by
  rw [List.getD_eq_getElem?_getD, List.getElem?_eq_getElem hf]; simp
theorem gone_none {bs : List (List UInt8)} {f : Nat} (hf : f < bs.length) {Q : List UInt8 → Prop} (h : Q (bs.getD f [])) (uo ub : Nat) : Gone bs f Q ⟨bs.map newFl, true, uo, ub⟩ :=
  ⟨rfl, fun ps => ⟨_, by rw [set_self hf]; exact keepAll_newq bs ps, h⟩⟩
theorem gone_set {bs : List (List UInt8)} {f : Nat} (hf : f < bs.length) {Q : List UInt8 → Prop} {x : Fl} (h : ∀ qs, Q (keep x.safe x.chg qs).1) (uo ub : Nat) : Gone bs f Q ⟨(bs.map newFl).set f x, true, uo, ub⟩ :=
  ⟨rfl, fun ps => by obtain ⟨qs, hq⟩ := keepAll_setq bs f x ps hf; exact ⟨_, hq, h qs⟩⟩
theorem qd_file {bs : List (List UInt8)} (h : bs.length = 8) {f : Nat} (hf : f < 8) (u : Nat) : (QD bs u).file f = newFl (bs.getD f []) := by
  unfold Dk.file QD
  simp only [Int.toNat_natCast]
  rw [List.getD_eq_getElem?_getD, List.getD_eq_getElem?_getD, List.getElem?_map]
  rw [List.getElem?_eq_getElem (by omega)]; rfl
theorem fs_file {bs : List (List UInt8)} (h : bs.length = 8) {f : Nat} (hf : f < 8) (x : Fl) (o : Bool) (u v : Nat) : (⟨(bs.map newFl).set f x, o, u, v⟩ : Dk).file f = x := by
  unfold Dk.file
  rw [List.getD_eq_getElem?_getD]; simp [h, hf]
theorem qd_step0 (fs : List Fl) : (⟨fs, false, 0, 0⟩ : Dk).step = ⟨fs, false, 0, 0⟩ := rfl
theorem qd_step1 (fs : List Fl) : (⟨fs, false, 1, 0⟩ : Dk).step = ⟨fs, true, 0, 0⟩ := rfl
theorem qd_step2 (fs : List Fl) (u : Nat) : (⟨fs, false, u + 2, 0⟩ : Dk).step = ⟨fs, false, u + 1, 0⟩ := by simp [Dk.step]
theorem qd_counts1 (fs : List Fl) (f : Int) : (⟨fs, false, 1, 0⟩ : Dk).counts f = 13 := rfl
theorem qd_counts (fs : List Fl) {u f : Nat} (hu : u ≠ 1) (hf : f < 8) : (⟨fs, false, u, 0⟩ : Dk).counts f = 0 := by simp [Dk.counts, hu]; omega
/-- The calls behind one call. -/
def nx (u : Nat) : Nat := u - 1
theorem qd_stepN (fs : List Fl) {u : Nat} (hu : u ≠ 1) : (⟨fs, false, u, 0⟩ : Dk).step = ⟨fs, false, u - 1, 0⟩ := by simp [Dk.step, hu]
theorem write_q {bs : List (List UInt8)} (h : bs.length = 8) {f p u : Nat} (hf : f < 8) {x b : List UInt8} (hb : bs.getD f [] = b) (hp : p ≤ b.length) (hx : p + x.length ≤ 131072) (hu : u ≠ 1) :
    (QD bs u).write f p x = (⟨(bs.map newFl).set f ((newFl b).write p x), false, u - 1, 0⟩, 0) := by
  unfold Dk.write
  rw [show (QD bs u).counts f = 0 from qd_counts _ hu hf, if_neg (by simp), qd_file h hf, hb, if_neg (by show ¬((p : Int) < 0 ∨ (b.length : Int) < p); omega), if_neg (by omega)]
  rw [show (QD bs u).step = ⟨bs.map newFl, false, u - 1, 0⟩ from qd_stepN _ hu]; rfl
theorem sync_q {bs : List (List UInt8)} (h : bs.length = 8) {f u : Nat} (hf : f < 8) (x : Fl) (hu : u ≠ 1) :
    (⟨(bs.map newFl).set f x, false, u, 0⟩ : Dk).sync f = (QD (bs.set f x.now) (u - 1), 0) := by
  unfold Dk.sync
  rw [qd_counts _ hu hf, if_neg (by simp), qd_stepN _ hu, fs_file h hf]
  dsimp only
  rw [Int.toNat_natCast, List.set_set]
  unfold QD
  rw [List.map_set]; rfl
theorem wrs_q {bs : List (List UInt8)} (h : bs.length = 8) {f p : Nat} (u : Nat) (hf : f < 8) {x b : List UInt8} (hb : bs.getD f [] = b) (hp : p ≤ b.length) (hx : p + x.length ≤ 131072) :
    (∃ u', wrs (QD bs u) f p x = (QD (bs.set f (over b p x)) u', 0) ∧ (u = 0 → u' = 0)) ∨ (u ≠ 0 ∧ ∃ d, wrs (QD bs u) f p x = (d, 13) ∧ Gone bs f (Mix b p x) d) := by
  by_cases h1 : u = 1
  · subst h1
    refine .inr ⟨by decide, ⟨bs.map newFl, true, 0, 0⟩, ?_, gone_none (by omega) (by rw [hb]; exact .refl _ _ _) _ _⟩
    have hw : (QD bs 1).write f p x = (⟨bs.map newFl, true, 0, 0⟩, 13) := by
      unfold Dk.write
      rw [if_pos (by rw [show (QD bs 1).counts f = 13 from rfl]; decide)]; rfl
    unfold wrs
    rw [hw, if_pos (by simp)]
  · unfold wrs
    rw [write_q h hf hb hp hx h1, if_neg (by simp)]
    dsimp only
    by_cases h2 : u - 1 = 1
    · rw [h2]
      refine .inr ⟨by omega, ⟨(bs.map newFl).set f ((newFl b).write p x), true, 0, 0⟩, ?_, gone_set (by omega) (fun qs => mix_new b p x qs) _ _⟩
      unfold Dk.sync
      rw [if_pos (by rw [qd_counts1]; decide)]; rfl
    · refine .inl ⟨u - 1 - 1, ?_, by omega⟩
      rw [sync_q h hf _ h2]; rfl
theorem mark_q {bs : List (List UInt8)} (h : bs.length = 8) {f n i : Nat} (u : Nat) (hf : f < 8) {b : List UInt8} (hb : bs.getD f [] = b) (m : UInt8) (hp : i * n < b.length) (hx : i * n + 1 ≤ 131072) :
    (∃ u', mark (QD bs u) f n i m = (QD (bs.set f (over b (i * n) [m])) u', 0) ∧ (u = 0 → u' = 0)) ∨ (u ≠ 0 ∧ ∃ d, mark (QD bs u) f n i m = (d, 13) ∧ Gone bs f (fun b' => b' = b ∨ b' = over b (i * n) [m]) d) := by
  rcases wrs_q (p := i * n) h u hf hb (x := [m]) (by omega) (by simpa using hx) with h1 | ⟨h0, d, h1, h2⟩
  · exact .inl h1
  · exact .inr ⟨h0, d, h1, h2.imp fun b' hb' => mix_one hp hb'⟩
theorem layS_q {bs : List (List UInt8)} (h : bs.length = 8) {f n i : Nat} (u : Nat) (hf : f < 8) {b : List UInt8} (hb : bs.getD f [] = b) {t : Tx} (ht : t.length + 16 ≤ n) (hp : i * n ≤ b.length) (hx : i * n + n ≤ 131072) :
    (∃ u', layS (QD bs u) f n i t = (QD (bs.set f (laidB n b i t)) u', 0) ∧ (u = 0 → u' = 0)) ∨ (u ≠ 0 ∧ ∃ d, layS (QD bs u) f n i t = (d, 13) ∧ Gone bs f (fun b' => Mix b (i * n) (slotB n t) b' ∨ b' = laidB n b i t) d) := by
  have hsb := slotB_length ht
  have hb1 : (bs.set f (over b (i * n) (slotB n t))).getD f [] = over b (i * n) (slotB n t) := by rw [List.getD_eq_getElem?_getD]; simp [h, hf]
  unfold layS
  rcases wrs_q h u hf hb (x := slotB n t) hp (by rw [hsb]; exact hx) with ⟨u', h1, h0⟩ | ⟨h0, d, h1, h2⟩
  · rw [h1, if_neg (by simp)]
    dsimp only
    rcases mark_q (bs := bs.set f (over b (i * n) (slotB n t))) (by simpa using h) u' hf hb1 1 (n := n) (i := i) (by rw [over_length, hsb]; omega) (by omega) with ⟨u2, h3, h4⟩ | ⟨h3, d, h4, h5⟩
    · exact .inl ⟨u2, by rw [h3, List.set_set]; rfl, fun e => h4 (h0 e)⟩
    · refine .inr ⟨fun e => h3 (h0 e), d, h4, h5.set.imp fun b' hb' => ?_⟩
      rcases hb' with rfl | rfl
      · exact .inl (mix_all _ _ _)
      · exact .inr rfl
  · rw [h1, if_pos (by simp)]
    exact .inr ⟨h0, d, rfl, h2.imp fun b' hb' => .inl hb'⟩
theorem ff_join (es : List En) : (es[ff es]?).join = none := by
  by_cases h : ff es < es.length
  · rw [List.getElem?_eq_getElem h, ff_free h]; rfl
  · rw [List.getElem?_eq_none (by omega)]; rfl
theorem txts_putAt {es : List En} {t : Tx} : (txts (putAt es (ff es) t)).Perm (t :: txts es) := by
  unfold putAt
  split
  · rw [txts_app]
    exact (List.perm_append_comm (l₁ := txts es) (l₂ := [t]))
  · exact txts_put (by have := ff_le es; omega) (ff_join es)
/-- What a crash may leave of a shelf: the same texts, or those of the other list. -/
def Left (n : Nat) (M : List Tx → Prop) (b : List UInt8) : Prop := b.length ≤ 131072 ∧ ∃ es, parse n b = some es ∧ M (txts es)
theorem mul128 {n i : Nat} (hn : n ≤ 1024) (hi : i < 128) : i * n + n ≤ 131072 := by
  have h1 := Nat.mul_le_mul (show i + 1 ≤ 128 by omega) hn
  rw [Nat.add_mul, Nat.one_mul] at h1; omega
theorem put_q {bs : List (List UInt8)} (hc : Calm bs) {f n : Nat} (u : Nat) (hf : f < 8) (hn : 16 ≤ n ∧ n ≤ 1024) {es : List En} {b : List UInt8} (hb : bs.getD f [] = b) (h : Holds n es b) {t : Tx} (ht : t.length + 16 ≤ n) (h128 : ff es < 128) :
    (∃ u', Sh.put ⟨f, n, es, false⟩ (QD bs u) t = ((⟨f, n, putAt es (ff es) t, false⟩ : Sh), QD (bs.set f (laidB n b (ff es) t)) u', ((ff es : Nat) : Int), 0) ∧ Holds n (putAt es (ff es) t) (laidB n b (ff es) t)) ∨
    (∃ d, Sh.put ⟨f, n, es, false⟩ (QD bs u) t = ((⟨f, n, es, true⟩ : Sh), d, 0, 13) ∧ Gone bs f (Left n fun T => T.Perm (txts es) ∨ T.Perm (t :: txts es)) d) := by
  have hp := holds_put (n := n) (i := ff es) (t := t) ⟨by omega, by omega⟩ h (ff_le es) h128 ht
  have hx := mul128 hn.2 h128
  have hbl : ff es * n ≤ b.length := by rw [h.2]; exact Nat.mul_le_mul_right n (ff_le es)
  unfold Sh.put
  dsimp only
  rw [if_neg (by simp), if_neg (by omega), if_neg (by omega)]
  rcases layS_q hc.h8 u hf hb ht hbl hx with ⟨u', h1, _⟩ | ⟨_, d, h1, h2⟩
  · rw [h1, if_neg (by simp)]
    exact .inl ⟨u', rfl, hp⟩
  · rw [h1, if_pos (by simp)]
    refine .inr ⟨d, rfl, h2.imp fun b' hb' => ?_⟩
    rcases hb' with M | rfl
    · obtain ⟨m, hm⟩ := parse_mix (by omega) h.1 (ff_join es) h128 ht M
      refine ⟨?_, _, hm, .inl (by rw [txts_pad])⟩
      have h3 := M.hi
      rw [slotB_length ht] at h3
      have := h.size hn
      omega
    · exact ⟨hp.size hn, _, hp.1, .inr txts_putAt⟩
theorem del_q {bs : List (List UInt8)} (hc : Calm bs) {f n : Nat} (u : Nat) (hf : f < 8) (hn : 16 ≤ n ∧ n ≤ 1024) {es : List En} {b : List UInt8} (hb : bs.getD f [] = b) (h : Holds n es b) {i : Nat} {t : Tx} (hi : es[i]? = some (some t)) :
    (∃ u', Sh.del ⟨f, n, es, false⟩ (QD bs u) (i : Int) = ((⟨f, n, es.set i none, false⟩ : Sh), QD (bs.set f (over b (i * n) [0])) u', 0) ∧ Holds n (es.set i none) (over b (i * n) [0])) ∨
    (∃ d, Sh.del ⟨f, n, es, false⟩ (QD bs u) (i : Int) = ((⟨f, n, es, true⟩ : Sh), d, 13) ∧ Gone bs f (Left n fun T => T.Perm (txts es) ∨ (t :: T).Perm (txts es)) d) := by
  obtain ⟨hil, he⟩ := List.getElem?_eq_some_iff.1 hi
  have hd := holds_del (by omega) h hil
  have hin := (taken_in (by omega) h.1 hi).1
  have hbs := h.size hn
  unfold Sh.del
  dsimp only
  rw [if_neg (by simp), if_neg (by unfold Sh.txt; rw [if_neg (by omega)]; simp [hi])]
  rw [Int.toNat_natCast]
  rcases mark_q hc.h8 u hf hb 0 (n := n) (i := i) (by omega) (by omega) with ⟨u', h1, _⟩ | ⟨_, d, h1, h2⟩
  · rw [h1, if_neg (by simp)]
    exact .inl ⟨u', rfl, hd⟩
  · rw [h1, if_pos (by simp)]
    refine .inr ⟨d, rfl, h2.imp fun b' hb' => ?_⟩
    rcases hb' with rfl | rfl
    · exact ⟨hbs, es, h.1, .inl (.refl _)⟩
    · exact ⟨hd.size hn, _, hd.1, .inr (txts_del hi)⟩
/-- One text lies there twice. -/
def Dup (L T : List Tx) : Prop := T.Perm L ∨ ∃ x ∈ L, T.Perm (x :: L)
theorem txts_fill (acc r : List En) (k : Nat) : txts (acc ++ List.replicate k none ++ r) = txts acc ++ txts r := by rw [txts_app, txts_pad]
theorem parse_last {n : Nat} {b : List UInt8} {c : List En} {k : Nat} (hn : 0 < n) (h : parse n b = some (c ++ List.replicate k none)) (hc : ∀ e ∈ c, e.isSome = true) : c.length * n ≤ b.length := by
  rcases List.eq_nil_or_concat c with rfl | ⟨c', e, rfl⟩
  · simp
  · rw [List.concat_eq_append] at *
    have he := hc e (by simp)
    obtain ⟨t, rfl⟩ := Option.isSome_iff_exists.1 he
    have := (taken_in (i := c'.length) (t := t) hn h (by rw [List.append_assoc, List.getElem?_append_right (by omega)]; simp)).1
    rw [List.length_append, List.length_singleton, Nat.add_mul, Nat.one_mul]; exact this
theorem parse_take {n : Nat} {b : List UInt8} {c us : List En} (hn : 0 < n) (h : parse n b = some (c ++ us)) (hl : c.length * n ≤ b.length) : Holds n c (b.take (c.length * n)) := by
  have hlen : (b.take (c.length * n)).length = c.length * n := by rw [List.length_take]; omega
  have h128 := parse_len' h
  rw [List.length_append] at h128
  obtain ⟨h1, h2⟩ := parse_iff.1 h
  refine ⟨parse_iff.2 ⟨by rw [hlen, nSl_mul hn], fun i hi => ?_⟩, hlen⟩
  have := h2 i (by simp; omega)
  rw [List.getElem_append_left hi] at this
  rw [← this, pz_eq (by omega), pz_eq (by omega)]
  unfold slotOf
  have hin := Nat.mul_le_mul_right n (show i + 1 ≤ c.length by omega)
  rw [Nat.add_mul] at hin
  rw [List.drop_take, List.take_take, Nat.min_eq_left (by omega)]
theorem moved_q {f n : Nat} (hf : f < 8) (hn : 16 ≤ n ∧ n ≤ 1024) : ∀ (r acc : List En) (k i u : Nat) (bs : List (List UInt8)) (b : List UInt8), bs.length = 8 → bs.getD f [] = b → b.length ≤ 131072 → i = acc.length + k → parse n b = some (acc ++ List.replicate k none ++ r) →
    (∃ b' k' u', movedP f n (QD bs u) i r acc = (QD (bs.set f b') u', acc ++ r.filter Option.isSome, 0) ∧ parse n b' = some (acc ++ r.filter Option.isSome ++ List.replicate k' none) ∧ b'.length = b.length ∧ (u = 0 → u' = 0)) ∨
    (u ≠ 0 ∧ ∃ d acc', movedP f n (QD bs u) i r acc = (d, acc', 13) ∧ Gone bs f (Left n (Dup (txts acc ++ txts r))) d)
  | [], acc, k, i, u, bs, b, h8, hb, hbl, hi, h => .inl ⟨b, k, u, by rw [← hb, set_self (by omega)]; simp [movedP], by simpa using h, rfl, id⟩
  | none :: r, acc, k, i, u, bs, b, h8, hb, hbl, hi, h => by
    rw [movedP]
    exact moved_q hf hn r acc (k + 1) (i + 1) u bs b h8 hb hbl (by omega) (by rw [List.replicate_succ']; simpa using h)
  | some t :: r, acc, k, i, u, bs, b, h8, hb, hbl, hi, h => by
    have hn0 : 0 < n := by omega
    have hl := parse_len' h
    simp at hl
    have hti : (acc ++ List.replicate k none ++ some t :: r)[i]? = some (some t) := by
      rw [List.getElem?_append_right (by simp; omega)]; simp [hi]
    obtain ⟨hin, ht⟩ := taken_in hn0 h hti
    rw [movedP_some]
    by_cases e : acc.length = i
    · have hk : k = 0 := by omega
      subst hk
      rw [if_pos e]
      have hT : txts acc ++ txts (some t :: r) = txts (acc ++ [some t]) ++ txts r := by rw [txts_app, List.append_assoc]; rfl
      rw [hT, show acc ++ List.filter Option.isSome (some t :: r) = (acc ++ [some t]) ++ r.filter Option.isSome by simp]
      exact moved_q hf hn r (acc ++ [some t]) 0 (i + 1) u bs b h8 hb hbl (by simp; omega) (by simpa using h)
    · obtain ⟨m, rfl⟩ : ∃ m, k = m + 1 := ⟨k - 1, by omega⟩
      rw [if_neg e]
      have hsp := Nat.mul_le_mul_right n (show acc.length + 1 ≤ i by omega)
      rw [Nat.add_mul, Nat.one_mul] at hsp
      have hfree : ((acc ++ List.replicate (m + 1) none ++ some t :: r)[acc.length]?).join = none := by
        rw [List.append_assoc, List.getElem?_append_right (Nat.le_refl _), Nat.sub_self, List.replicate_succ]; rfl
      obtain ⟨m0, hp1, -, hp2, hm0⟩ := parse_put (n := n) (b := b) (i := acc.length) (t := t) ⟨hn0, by omega⟩ h hfree (by omega) (by omega) ht
      have hm00 := hm0 (by omega)
      subst hm00
      rw [List.replicate_zero, List.append_nil] at hp1 hp2
      have he1 : (acc ++ List.replicate (m + 1) none ++ some t :: r).set acc.length (some t) = (acc ++ [some t]) ++ List.replicate m none ++ some t :: r := by
        rw [List.append_assoc, List.set_append_right _ _ (by omega)]
        simp [List.replicate_succ]
      rw [he1] at hp2
      have hsl := slotB_length ht
      have hL1 : (over b (acc.length * n) (slotB n t)).length = b.length := by rw [over_length, hsl]; omega
      have hL2 : (laidB n b acc.length t).length = b.length := by unfold laidB; rw [over_length, hL1]; simp; omega
      have hT0 : txts (acc ++ List.replicate (m + 1) none ++ some t :: r) = txts acc ++ txts (some t :: r) := txts_fill _ _ _
      have hT1 : (txts ((acc ++ [some t]) ++ List.replicate m none ++ some t :: r)).Perm (t :: (txts acc ++ txts (some t :: r))) := by
        rw [txts_fill, txts_app, List.append_assoc]
        exact List.perm_middle
      have hmem : t ∈ txts acc ++ txts (some t :: r) := by simp [txts]
      rcases layS_q (i := acc.length) h8 u hf hb ht (by omega) (by omega) with ⟨u', h1, hu'⟩ | ⟨hu, d, h1, h2⟩
      · rw [h1]
        dsimp only
        rw [if_neg (by simp)]
        have hb1 : (bs.set f (laidB n b acc.length t)).getD f [] = laidB n b acc.length t := by rw [List.getD_eq_getElem?_getD]; simp [h8, hf]
        rcases mark_q (bs := bs.set f (laidB n b acc.length t)) (b := laidB n b acc.length t) (by simpa using h8) u' hf hb1 0 (n := n) (i := i) (by omega) (by omega) with ⟨u2, h3, hu2⟩ | ⟨hu, d, h3, h4⟩
        · rw [h3, List.set_set]
          dsimp only
          rw [if_neg (by simp)]
          have hd := parse_del (i := i) hn0 hp2 (by simp; omega)
          have he2 : ((acc ++ [some t]) ++ List.replicate m none ++ some t :: r).set i none = (acc ++ [some t]) ++ List.replicate (m + 1) none ++ r := by
            rw [List.set_append_right _ _ (by simp; omega)]
            rw [show i - (acc ++ [some t] ++ List.replicate m (none : En)).length = 0 by simp; omega]
            rw [List.replicate_succ']
            simp
          rw [he2] at hd
          have hL3 : (over (laidB n b acc.length t) (i * n) [0]).length = b.length := by rw [over_length, hL2]; simp; omega
          have hT : txts acc ++ txts (some t :: r) = txts (acc ++ [some t]) ++ txts r := by rw [txts_app, List.append_assoc]; rfl
          rw [hT, show acc ++ List.filter Option.isSome (some t :: r) = (acc ++ [some t]) ++ r.filter Option.isSome by simp]
          rcases moved_q hf hn r (acc ++ [some t]) (m + 1) (i + 1) u2 (bs.set f (over (laidB n b acc.length t) (i * n) [0])) _ (by simpa using h8) (by rw [List.getD_eq_getElem?_getD]; simp [h8, hf]) (by omega) (by simp; omega) hd with ⟨b', k', u3, g1, g2, g3, g4⟩ | ⟨g0, d, acc', g1, g2⟩
          · exact .inl ⟨b', k', u3, by rw [g1, List.set_set], g2, by omega, fun e => g4 (hu2 (hu' e))⟩
          · exact .inr ⟨fun e => g0 (hu2 (hu' e)), d, acc', g1, g2.set⟩
        · rw [h3]
          dsimp only
          rw [if_pos (by simp)]
          refine .inr ⟨fun e => hu (hu' e), d, _, rfl, h4.set.imp fun b' hb' => ?_⟩
          rcases hb' with rfl | rfl
          · exact ⟨by omega, _, hp2, .inr ⟨t, hmem, hT1⟩⟩
          · have hd := parse_del (i := i) hn0 hp2 (by simp; omega)
            refine ⟨by rw [over_length, hL2]; simp; omega, _, hd, .inl ?_⟩
            have h5 := txts_del (es := (acc ++ [some t]) ++ List.replicate m none ++ some t :: r) (i := i) (t := t) (by
              rw [List.getElem?_append_right (by simp; omega)]
              rw [show i - (acc ++ [some t] ++ List.replicate m (none : En)).length = 0 by simp; omega]; rfl)
            exact List.Perm.cons_inv (h5.trans hT1)
      · rw [h1]
        dsimp only
        rw [if_pos (by simp)]
        refine .inr ⟨hu, d, _, rfl, h2.imp fun b' hb' => ?_⟩
        rcases hb' with M | rfl
        · obtain ⟨m1, hm1⟩ := parse_mix hn0 h hfree (by omega) ht M
          refine ⟨?_, _, hm1, .inl (by rw [txts_pad, hT0])⟩
          have h3 := M.hi
          rw [hsl] at h3
          omega
        · exact ⟨by omega, _, hp2, .inr ⟨t, hmem, hT1⟩⟩
theorem keep_cut (b : List UInt8) (c : Nat) (qs : List Int) (_hc : c ≤ b.length) : (keep b [⟨true, c, []⟩] qs).1 = b ∨ (keep b [⟨true, c, []⟩] qs).1 = b.take c := by
  show keep1 b ⟨true, c, []⟩ (pk qs).1 = b ∨ keep1 b ⟨true, c, []⟩ (pk qs).1 = b.take c
  unfold keep1
  split
  · exact .inl rfl
  · rw [if_pos rfl]
    split
    · exact .inr rfl
    · exact .inl rfl
theorem cut_q {bs : List (List UInt8)} (h : bs.length = 8) {f c : Nat} (u : Nat) (hf : f < 8) {b : List UInt8} (hb : bs.getD f [] = b) (hc : c ≤ b.length) :
    (∃ d u', (QD bs u).cut f (c : Nat) = (d, 0) ∧ d.sync f = (QD (bs.set f (b.take c)) u', 0) ∧ (u = 0 → u' = 0)) ∨
    (u ≠ 0 ∧ ∃ d, (QD bs u).cut f (c : Nat) = (d, 13) ∧ Gone bs f (fun b' => b' = b ∨ b' = b.take c) d) ∨
    (u ≠ 0 ∧ ∃ d d', (QD bs u).cut f (c : Nat) = (d, 0) ∧ d.sync f = (d', 13) ∧ Gone bs f (fun b' => b' = b ∨ b' = b.take c) d') := by
  by_cases h1 : u = 1
  · subst h1
    refine .inr (.inl ⟨by decide, ⟨bs.map newFl, true, 0, 0⟩, ?_, gone_none (by omega) (.inl hb) _ _⟩)
    unfold Dk.cut
    rw [if_pos (by rw [show (QD bs 1).counts f = 13 from rfl]; decide)]; rfl
  · have hw : (QD bs u).cut f (c : Nat) = (⟨(bs.map newFl).set f ((newFl b).cut c), false, u - 1, 0⟩, 0) := by
      unfold Dk.cut
      rw [show (QD bs u).counts f = 0 from qd_counts _ h1 hf, if_neg (by simp), qd_file h hf, hb, if_neg (by show ¬((c : Int) < 0 ∨ (b.length : Int) < c); omega)]
      rw [show (QD bs u).step = ⟨bs.map newFl, false, u - 1, 0⟩ from qd_stepN _ h1]; rfl
    rw [hw]
    by_cases h2 : u - 1 = 1
    · refine .inr (.inr ⟨by omega, _, ⟨(bs.map newFl).set f ((newFl b).cut c), true, 0, 0⟩, rfl, ?_, gone_set (by omega) (fun qs => keep_cut b c qs hc) _ _⟩)
      rw [h2]
      unfold Dk.sync
      rw [if_pos (by rw [qd_counts1]; decide)]; rfl
    · refine .inl ⟨_, u - 1 - 1, rfl, ?_, by omega⟩
      rw [sync_q h hf _ h2]; rfl
theorem open_q {bs : List (List UInt8)} (hc : Calm bs) {f n : Nat} (u : Nat) (hf : f < 8) (hfit : fitsB n = true) {es : List En} (h : parse n (bs.getD f []) = some es) :
    (∃ b' u', openD (QD bs u) f n = (QD (bs.set f b') u', some ⟨f, n, es.filter Option.isSome, false⟩, 0) ∧ Holds n (es.filter Option.isSome) b' ∧ (u = 0 → u' = 0)) ∨
    (u ≠ 0 ∧ ∃ d, openD (QD bs u) f n = (d, none, 13) ∧ Gone bs f (Left n (Dup (txts es))) d) := by
  have h8 := hc.h8
  have hn : 16 ≤ n ∧ n ≤ 1024 := by
    unfold fitsB at hfit
    simp only [Bool.or_eq_true, beq_iff_eq] at hfit
    omega
  obtain ⟨b, hb⟩ : ∃ b, bs.getD f [] = b := ⟨_, rfl⟩
  have hbl : b.length ≤ 131072 := by
    refine hc.hb b ?_
    rw [← hb, List.getD_eq_getElem?_getD, List.getElem?_eq_getElem (by omega)]
    exact List.getElem_mem _
  rw [hb] at h
  have hlast : ∀ {b' : List UInt8} {k' : Nat}, parse n b' = some (es.filter Option.isSome ++ List.replicate k' none) → (es.filter Option.isSome).length * n ≤ b'.length := fun h' =>
    parse_last (by omega) h' (fun e he => (List.mem_filter.1 he).2)
  have hD : txts es = txts (es.filter Option.isSome) := (txts_filter es).symm
  by_cases h1 : u = 1 ∧ False
  · exact absurd h1.2 id
  have ha : (QD bs u).asks f = 0 := by unfold Dk.asks QD; simp; omega
  have h5 : openD (QD bs u) f n = openS (QD bs u) f n es := by
    unfold openD
    rw [if_neg (by rw [hfit]; simp; omega), ha, if_neg (by simp), qd_file h8 hf, hb]
    show (match parse (n : Int).toNat b with | none => _ | some l => _) = _
    rw [Int.toNat_natCast, h]
    rfl
  rw [h5]
  unfold openS
  have hM := moved_q hf hn es [] 0 0 u bs b h8 hb hbl rfl (by simpa using h)
  simp only [List.nil_append] at hM
  rcases hM with ⟨b', k', u', h1, h2, h3, h4⟩ | ⟨h0, d, acc', h1, h2⟩
  · rw [h1, qd_file h8 hf, hb]
    dsimp only
    rw [if_neg (by simp)]
    have hle := hlast h2
    by_cases hlt : (es.filter Option.isSome).length * n < (newFl b).now.length
    · rw [if_pos hlt]
      have hb1 : (bs.set f b').getD f [] = b' := by rw [List.getD_eq_getElem?_getD]; simp [h8, hf]
      have hQ : ∀ c, c = b' ∨ c = b'.take ((es.filter Option.isSome).length * n) → Left n (Dup (txts es)) c := by
        rintro c (rfl | rfl)
        · exact ⟨by omega, _, h2, .inl (by rw [txts_pad, ← hD])⟩
        · exact ⟨by rw [List.length_take]; omega, _, (parse_take (by omega) h2 hle).1, .inl (by rw [← hD])⟩
      rcases cut_q (bs := bs.set f b') (by simpa using h8) u' hf hb1 hle with ⟨d, u2, g1, g2, g3⟩ | ⟨g0, d, g1, g2⟩ | ⟨g0, d, d', g1, g2, g3⟩
      · rw [g1]
        dsimp only
        rw [if_neg (by simp), g2]
        dsimp only
        rw [if_neg (by simp), List.set_set]
        exact .inl ⟨_, u2, rfl, parse_take (by omega) h2 hle, fun e => g3 (h4 e)⟩
      · rw [g1]
        dsimp only
        rw [if_pos (by simp)]
        exact .inr ⟨fun e => g0 (h4 e), d, rfl, g2.set.imp hQ⟩
      · rw [g1]
        dsimp only
        rw [if_neg (by simp), g2]
        dsimp only
        rw [if_pos (by simp)]
        exact .inr ⟨fun e => g0 (h4 e), d', rfl, g3.set.imp hQ⟩
    · rw [if_neg hlt]
      have hlb : (es.filter Option.isSome).length * n = b'.length := by
        have : (newFl b).now.length = b.length := rfl
        omega
      have hH := parse_take (by omega) h2 hle
      rw [hlb, List.take_length] at hH
      exact .inl ⟨b', u', rfl, hH, h4⟩
  · rw [h1]
    dsimp only
    rw [if_pos (by simp)]
    exact .inr ⟨h0, d, rfl, by simpa [txts] using h2⟩
end Go.Proofs.Ythneebbmodkjiaa
