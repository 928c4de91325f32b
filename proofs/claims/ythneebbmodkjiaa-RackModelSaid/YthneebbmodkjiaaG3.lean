/- Part of a proof over the seat Ythneebbmodkjiaa: module G1. Its claim's last module says what is proved. -/
import Derived.Test.YthneebbmodkjiaaE10
namespace Go.Proofs.Ythneebbmodkjiaa
open Go.Proofs

/-! ### Calm disks -/
theorem newD_fs {bs : List (List UInt8)} (h : bs.length = 8) : newD bs = ⟨bs.map newFl, false, 0, 0⟩ := by
  unfold newD newP
  rw [List.take_length, h]; simp
theorem newD_nil : newD [] = newD (List.replicate 8 []) := by rfl
theorem step_calm (fs : List Fl) : (⟨fs, false, 0, 0⟩ : Dk).step = ⟨fs, false, 0, 0⟩ := rfl
theorem newD_file {bs : List (List UInt8)} (h : bs.length = 8) {f : Nat} (hf : f < 8) : (newD bs).file f = newFl (bs.getD f []) := by
  rw [newD_fs h]
  unfold Dk.file
  simp only [Int.toNat_natCast]
  rw [List.getD_eq_getElem?_getD, List.getD_eq_getElem?_getD, List.getElem?_map]
  rw [List.getElem?_eq_getElem (by omega)]; rfl
theorem newD_counts {bs : List (List UInt8)} (h : bs.length = 8) {f : Nat} (hf : f < 8) : (newD bs).counts f = 0 := by
  rw [newD_fs h]; unfold Dk.counts; simp; omega
theorem newD_asks {bs : List (List UInt8)} (h : bs.length = 8) {f : Nat} (hf : f < 8) : (newD bs).asks f = 0 := by
  rw [newD_fs h]; unfold Dk.asks; simp; omega
theorem newD_set {bs : List (List UInt8)} (h : bs.length = 8) (f : Nat) (b : List UInt8) : (⟨(bs.map newFl).set f (newFl b), false, 0, 0⟩ : Dk) = newD (bs.set f b) := by
  rw [newD_fs (by simpa using h), List.map_set]
theorem wrs_new {bs : List (List UInt8)} (h : bs.length = 8) {f p : Nat} (hf : f < 8) {x b : List UInt8} (hb : bs.getD f [] = b) (hp : p ≤ b.length) (hx : p + x.length ≤ 131072) :
    wrs (newD bs) f p x = (newD (bs.set f (over b p x)), 0) := by
  have h1 : (newD bs).write f p x = (⟨(bs.map newFl).set f ((newFl b).write p x), false, 0, 0⟩, 0) := by
    unfold Dk.write
    rw [if_neg (by rw [newD_counts h hf]; simp), newD_file h hf, hb, if_neg (by show ¬((p : Int) < 0 ∨ (b.length : Int) < p); omega), if_neg (by omega)]
    rw [newD_fs h]; rfl
  unfold wrs
  rw [h1, if_neg (by simp)]
  unfold Dk.sync
  have h2 : (⟨(bs.map newFl).set f ((newFl b).write p x), false, 0, 0⟩ : Dk).counts f = 0 := by unfold Dk.counts; simp; omega
  rw [if_neg (by rw [h2]; simp), step_calm]
  have h3 : (⟨(bs.map newFl).set f ((newFl b).write p x), false, 0, 0⟩ : Dk).file f = (newFl b).write p x := by
    unfold Dk.file
    rw [List.getD_eq_getElem?_getD]; simp [h, hf]
  rw [h3]
  dsimp only
  rw [Int.toNat_natCast, List.set_set]
  exact Prod.ext (newD_set h f (over b p x)) rfl
theorem cut_new {bs : List (List UInt8)} (h : bs.length = 8) {f c : Nat} (hf : f < 8) {b : List UInt8} (hb : bs.getD f [] = b) (hc : c ≤ b.length) :
    ∃ d, (newD bs).cut f c = (d, 0) ∧ d.sync f = (newD (bs.set f (b.take c)), 0) := by
  refine ⟨⟨(bs.map newFl).set f ((newFl b).cut c), false, 0, 0⟩, ?_, ?_⟩
  · unfold Dk.cut
    rw [if_neg (by rw [newD_counts h hf]; simp), newD_file h hf, hb, if_neg (by show ¬((c : Int) < 0 ∨ (b.length : Int) < c); omega)]
    rw [newD_fs h]; rfl
  · unfold Dk.sync
    have h2 : (⟨(bs.map newFl).set f ((newFl b).cut c), false, 0, 0⟩ : Dk).counts f = 0 := by unfold Dk.counts; simp; omega
    rw [if_neg (by rw [h2]; simp), step_calm]
    have h3 : (⟨(bs.map newFl).set f ((newFl b).cut c), false, 0, 0⟩ : Dk).file f = (newFl b).cut c := by
      unfold Dk.file
      rw [List.getD_eq_getElem?_getD]; simp [h, hf]
    rw [h3]
    dsimp only
    rw [Int.toNat_natCast, List.set_set]
    exact Prod.ext (newD_set h f (b.take c)) rfl
theorem keepAll_new : ∀ (bs : List (List UInt8)) (ps : List Int), keepAll (bs.map newFl) ps = bs
  | [], _ => rfl
  | b :: bs, ps => by
    show (keep b [] ps).1 :: keepAll (bs.map newFl) (keep b [] ps).2 = _
    rw [keepAll_new bs]; simp [keep]
/-- A file holds entries. -/
def Holds (n : Nat) (es : List En) (b : List UInt8) : Prop := parse n b = some es ∧ b.length = es.length * n
theorem slotOf_over {n : Nat} {b x : List UInt8} {s i : Nat} (hn : 0 < n) (hs : s * n ≤ b.length) (hx : x.length ≤ n) :
    slotOf n (over b (s * n) x) i = if i = s then x ++ (slotOf n b i).drop x.length else slotOf n b i := by
  unfold slotOf over
  rw [show s * n - b.length = 0 by omega]
  simp only [List.replicate_zero, List.append_nil]
  split
  · rename_i h; subst h
    rw [List.append_assoc, List.drop_left' (by simp; omega), List.take_append, List.take_of_length_le (by omega), List.drop_take, List.drop_drop]
  · rename_i h
    rcases Nat.lt_or_gt_of_ne h with h | h
    · have h1 : i * n + n ≤ s * n := by
        have := Nat.mul_le_mul_right n (show i + 1 ≤ s by omega)
        rw [Nat.add_mul] at this; omega
      rw [List.append_assoc, List.drop_append_of_le_length (by simp; omega), List.take_append_of_le_length (by simp; omega), List.drop_take, List.take_take, Nat.min_eq_left (by omega)]
    · have h1 : s * n + n ≤ i * n := by
        have := Nat.mul_le_mul_right n (show s + 1 ≤ i by omega)
        rw [Nat.add_mul] at this; omega
      rw [List.append_assoc, List.drop_append, List.drop_eq_nil_of_le (by simp; omega), List.nil_append, List.length_take, Nat.min_eq_left hs, List.drop_append, List.drop_eq_nil_of_le (by omega), List.nil_append, List.drop_drop]
      congr 2; omega
end Go.Proofs.Ythneebbmodkjiaa

namespace Go.Proofs.Ythneebbmodkjiaa
open Go.Proofs

theorem mapM_range {β : Type} (g : Nat → Option β) (ys : List β) : ∀ L, (List.range L).mapM g = some ys ↔ ys.length = L ∧ ∀ i, i < L → g i = ys[i]? := by
  intro L
  constructor
  · intro h
    have hl := mapM_len g h
    rw [List.length_range] at hl
    refine ⟨hl, ?_⟩
    clear hl
    induction L generalizing ys with
    | zero => intro i hi; omega
    | succ L ih =>
      rw [List.range_succ, List.mapM_append] at h
      cases h1 : (List.range L).mapM g with
      | none => simp [h1] at h
      | some zs =>
        cases h2 : g L with
        | none => simp [h1, h2] at h
        | some z =>
          simp [h1, h2] at h
          subst h
          have hz := mapM_len g h1
          rw [List.length_range] at hz
          intro i hi
          rcases Nat.lt_succ_iff_lt_or_eq.1 hi with hi | rfl
          · rw [List.getElem?_append_left (by omega)]; exact ih zs h1 i hi
          · rw [List.getElem?_append_right (by omega), h2]; simp [hz]
  · rintro ⟨hl, h⟩
    induction L generalizing ys with
    | zero => simp at hl; subst hl; simp
    | succ L ih =>
      rcases List.eq_nil_or_concat ys with rfl | ⟨zs, z, rfl⟩
      · simp at hl
      · rw [List.concat_eq_append] at h hl ⊢
        simp at hl
        rw [List.range_succ, List.mapM_append]
        rw [ih zs (by omega) (fun i hi => by rw [h i (by omega), List.getElem?_append_left (by omega)])]
        have := h L (by omega)
        rw [List.getElem?_append_right (by omega)] at this
        simp [hl] at this
        simp [this]
theorem nSl_mul {n L : Nat} (hn : 0 < n) : nSl n (L * n) = L := by
  apply Nat.le_antisymm
  · apply Nat.le_of_not_lt
    intro h
    have := (nSl_iff hn).1 h
    omega
  · cases L with
    | zero => omega
    | succ L =>
      have : L < nSl n ((L + 1) * n) := (nSl_iff hn).2 (by rw [Nat.add_mul]; omega)
      omega
theorem holds_iff {n : Nat} {es : List En} {b : List UInt8} (hn : 0 < n) : Holds n es b ↔ b.length = es.length * n ∧ ∀ i (h : i < es.length), pz n b i = some es[i] := by
  unfold Holds parse
  rw [mapM_range]
  constructor
  · rintro ⟨⟨h1, h2⟩, h3⟩
    refine ⟨h3, fun i hi => ?_⟩
    rw [h2 i (by omega), List.getElem?_eq_getElem hi]
  · rintro ⟨h3, h⟩
    rw [h3, nSl_mul hn]
    exact ⟨⟨rfl, fun i hi => by rw [h i hi, List.getElem?_eq_getElem hi]⟩, rfl⟩
theorem holds_nil {n : Nat} (hn : 0 < n) : Holds n [] [] := (holds_iff hn).2 ⟨by simp, fun i h => by simp at h⟩
theorem Holds.len {n : Nat} {es : List En} {b : List UInt8} (hn : 0 < n) (h : Holds n es b) : es.length ≤ 128 := by
  apply Nat.le_of_not_lt
  intro hl
  have := ((holds_iff hn).1 h).2 128 hl
  unfold pz at this
  simp at this
theorem slotOf_len {n : Nat} {b : List UInt8} {i L : Nat} (hb : b.length = L * n) (hi : i < L) : (slotOf n b i).length = n := by
  have := Nat.mul_le_mul_right n (show i + 1 ≤ L by omega)
  rw [Nat.add_mul] at this
  unfold slotOf; simp; omega
theorem parse1_lay {n : Nat} {t : Tx} (ht : t.length + 16 ≤ n) (hn : n ≤ 2 ^ 16) : parse1 n ([1] ++ (slotB n t).drop 1) = some (some t) := by
  have e : ([1] ++ (slotB n t).drop 1 : List UInt8) = 1 :: UInt8.ofNat (t.length / 256) :: UInt8.ofNat (t.length % 256) :: (List.replicate 13 0 ++ (t ++ List.replicate (n - 16 - t.length) 0)) := by
    simp [slotB]
  rw [e]
  have hl : tl (1 :: UInt8.ofNat (t.length / 256) :: UInt8.ofNat (t.length % 256) :: (List.replicate 13 0 ++ (t ++ List.replicate (n - 16 - t.length) 0))) = t.length := by
    unfold tl
    simp
    omega
  unfold parse1
  rw [hl, if_neg (by simp), if_neg (by simp; omega), if_neg (by omega)]
  congr 2
  rw [show (16 : Nat) = 13 + 3 from rfl]
  show List.take t.length (List.drop 13 (List.replicate 13 0 ++ (t ++ _))) = t
  rw [List.drop_left' (by simp), List.take_left' rfl]
theorem pz_eq {n : Nat} {b : List UInt8} {i : Nat} (h : i < 128) : pz n b i = parse1 n (slotOf n b i) := by unfold pz; rw [if_neg (by omega)]
theorem over_len_in {b x : List UInt8} {p : Nat} (h : p + x.length ≤ b.length) : (over b p x).length = b.length := by rw [over_length]; omega
theorem holds_del {n : Nat} {es : List En} {b : List UInt8} (hn : 0 < n) (h : Holds n es b) {i : Nat} (hi : i < es.length) : Holds n (es.set i none) (over b (i * n) [0]) := by
  have hl := h.len hn
  obtain ⟨hb, h⟩ := (holds_iff hn).1 h
  have hin := Nat.mul_le_mul_right n (show i + 1 ≤ es.length by omega)
  rw [Nat.add_mul] at hin
  refine (holds_iff hn).2 ⟨by rw [over_len_in (by simp; omega), hb]; simp, fun j hj => ?_⟩
  rw [List.length_set] at hj
  rw [pz_eq (by omega), slotOf_over hn (by omega) (by simp; omega)]
  by_cases e : j = i
  · subst e
    rw [if_pos rfl]
    simp [parse1]
  · rw [if_neg e, ← pz_eq (by omega), h j hj, List.getElem_set_ne (Ne.symm e)]
def laidB (n : Nat) (b : List UInt8) (i : Nat) (t : Tx) : List UInt8 := over (over b (i * n) (slotB n t)) (i * n) [1]
theorem putAt_len {es : List En} {i : Nat} {t : Tx} (hi : i ≤ es.length) : (putAt es i t).length = max es.length (i + 1) := by
  unfold putAt; split
  · simp; omega
  · simp; omega
theorem putAt_get {es : List En} {i : Nat} {t : Tx} (hi : i ≤ es.length) {j : Nat} (hj : j < (putAt es i t).length) : (putAt es i t)[j] = if j = i then some t else (es[j]?).join := by
  have hl := putAt_len (t := t) hi
  unfold putAt at hj ⊢
  by_cases h : i = es.length
  · subst h
    simp only [if_pos] at hj ⊢
    rw [List.length_append, List.length_singleton] at hj
    split
    · rename_i e; subst e; simp
    · rw [List.getElem_append_left (by omega), List.getElem?_eq_getElem (by omega)]; rfl
  · simp only [if_neg h] at hj ⊢
    rw [List.length_set] at hj
    rw [List.getElem_set]
    split
    · rename_i e; rw [if_pos e.symm]
    · rename_i e; rw [if_neg (Ne.symm e), List.getElem?_eq_getElem hj]; rfl
theorem holds_put {n : Nat} {es : List En} {b : List UInt8} (hn : 0 < n ∧ n ≤ 2 ^ 16) (h : Holds n es b) {i : Nat} {t : Tx} (hi : i ≤ es.length) (hi2 : i < 128) (ht : t.length + 16 ≤ n) : Holds n (putAt es i t) (laidB n b i t) := by
  have hl := h.len hn.1
  obtain ⟨hb, h⟩ := (holds_iff hn.1).1 h
  have hsb := slotB_length ht
  have hin := Nat.mul_le_mul_right n hi
  have hpl := putAt_len (t := t) hi
  have hll : (over b (i * n) (slotB n t)).length = (putAt es i t).length * n := by
    rw [over_length, hsb, hpl, hb]
    rcases Nat.lt_or_ge i es.length with e | e
    · have := Nat.mul_le_mul_right n (show i + 1 ≤ es.length by omega)
      rw [Nat.add_mul] at this
      rw [Nat.max_eq_left (by omega), Nat.max_eq_left (by omega)]
    · have e : i = es.length := by omega
      subst e
      rw [Nat.max_eq_right (by omega), Nat.max_eq_right (by omega), Nat.add_mul, Nat.one_mul]
  have hin2 : i * n + n ≤ (over b (i * n) (slotB n t)).length := by rw [over_length, hsb]; omega
  refine (holds_iff hn.1).2 ⟨by unfold laidB; rw [over_len_in (by simp; omega), hll], fun j hj => ?_⟩
  rw [putAt_get hi hj]
  rw [hpl] at hj
  rw [pz_eq (by omega)]
  unfold laidB
  rw [slotOf_over hn.1 (by omega) (by simp; omega), slotOf_over hn.1 (by omega) (by omega)]
  by_cases e : j = i
  · subst e
    rw [if_pos rfl, if_pos rfl, if_pos rfl, hsb]
    have : (slotOf n b j).drop n = [] := List.drop_eq_nil_of_le (by unfold slotOf; simp; omega)
    rw [this, List.append_nil]
    exact parse1_lay ht hn.2
  · rw [if_neg e, if_neg e, if_neg e]
    have hj2 : j < es.length := by omega
    rw [← pz_eq (by omega), h j hj2, List.getElem?_eq_getElem hj2]; rfl
theorem layS_new {bs : List (List UInt8)} (h : bs.length = 8) {f n i : Nat} (hf : f < 8) {b : List UInt8} (hb : bs.getD f [] = b) {t : Tx} (ht : t.length + 16 ≤ n) (hp : i * n ≤ b.length) (hx : i * n + n ≤ 131072) :
    layS (newD bs) f n i t = (newD (bs.set f (laidB n b i t)), 0) := by
  have hsb := slotB_length ht
  unfold layS mark
  rw [wrs_new h hf hb hp (by rw [hsb]; exact hx)]
  dsimp only
  rw [if_neg (by simp)]
  rw [wrs_new (b := over b (i * n) (slotB n t)) (by simpa using h) hf (by rw [List.getD_eq_getElem?_getD]; simp [h, hf]) (by rw [over_length]; omega) (by simp; omega)]
  rw [List.set_set]; rfl
theorem mark_new {bs : List (List UInt8)} (h : bs.length = 8) {f n i : Nat} (hf : f < 8) {b : List UInt8} (hb : bs.getD f [] = b) (m : UInt8) (hp : i * n ≤ b.length) (hx : i * n + 1 ≤ 131072) :
    mark (newD bs) f n i m = (newD (bs.set f (over b (i * n) [m])), 0) := by
  unfold mark
  exact wrs_new h hf hb hp (by simp; omega)
end Go.Proofs.Ythneebbmodkjiaa

namespace Go.Proofs.Ythneebbmodkjiaa
open Go.Proofs

theorem holds_take {n : Nat} {es us : List En} {b : List UInt8} (hn : 0 < n) (h : Holds n (es ++ us) b) : Holds n es (b.take (es.length * n)) := by
  have hl := h.len hn
  obtain ⟨hb, h⟩ := (holds_iff hn).1 h
  rw [List.length_append] at hb hl
  have hle := Nat.mul_le_mul_right n (Nat.le_add_right es.length us.length)
  refine (holds_iff hn).2 ⟨by rw [List.length_take]; omega, fun j hj => ?_⟩
  have hjn := Nat.mul_le_mul_right n (show j + 1 ≤ es.length by omega)
  rw [Nat.add_mul] at hjn
  have := h j (by rw [List.length_append]; omega)
  rw [List.getElem_append_left hj] at this
  rw [← this]
  unfold pz slotOf
  rw [List.drop_take, List.take_take, Nat.min_eq_left (by omega)]
theorem movedP_new {bs : List (List UInt8)} (h8 : bs.length = 8) {f n : Nat} (hf : f < 8) (hn : 16 ≤ n ∧ n ≤ 1024) : ∀ (r acc : List En) (k i : Nat) (b : List UInt8), i = acc.length + k → Holds n (acc ++ List.replicate k none ++ r) b →
    ∃ b' k', movedP f n (newD (bs.set f b)) i r acc = (newD (bs.set f b'), acc ++ r.filter Option.isSome, 0) ∧ Holds n (acc ++ r.filter Option.isSome ++ List.replicate k' none) b' ∧ (r.filter Option.isSome).length + k' = k + r.length
  | [], acc, k, i, b, hi, h => ⟨b, k, by simp [movedP], by simpa using h, by simp⟩
  | none :: r, acc, k, i, b, hi, h => by
    rw [movedP]
    obtain ⟨b', k', h1, h2, h3⟩ := movedP_new h8 hf hn r acc (k + 1) (i + 1) b (by omega) (by rw [List.replicate_succ']; simpa using h)
    exact ⟨b', k', h1, h2, by simp at h3 ⊢; omega⟩
  | some t :: r, acc, k, i, b, hi, h => by
    have hl := h.len (by omega)
    simp at hl
    obtain ⟨hb, hg⟩ := (holds_iff (by omega)).1 h
    have ht : t.length + 16 ≤ n := by
      have := hg i (by simp; omega)
      rw [List.getElem_append_right (by simp; omega)] at this
      simp [hi] at this
      rw [pz_eq (by omega)] at this
      exact parse1_txt this
    rw [movedP_some]
    by_cases e : acc.length = i
    · have hk : k = 0 := by omega
      subst hk
      rw [if_pos e]
      obtain ⟨b', k', h1, h2, h3⟩ := movedP_new h8 hf hn r (acc ++ [some t]) 0 (i + 1) b (by simp; omega) (by simpa using h)
      exact ⟨b', k', by rw [h1]; simp, by simpa using h2, by simp at h3 ⊢; omega⟩
    · obtain ⟨m, rfl⟩ : ∃ m, k = m + 1 := ⟨k - 1, by omega⟩
      rw [if_neg e]
      have hb8 : (bs.set f b).length = 8 := by simpa using h8
      have hbf : (bs.set f b).getD f [] = b := by rw [List.getD_eq_getElem?_getD]; simp [h8, hf]
      have hb2 : acc.length * n + n ≤ b.length ∧ i * n + n ≤ b.length ∧ b.length ≤ 131072 := by
        have h1 := Nat.mul_le_mul_right n (show acc.length + 1 ≤ (acc ++ List.replicate (m + 1) none ++ some t :: r).length by simp; omega)
        have h2 := Nat.mul_le_mul_right n (show i + 1 ≤ (acc ++ List.replicate (m + 1) none ++ some t :: r).length by simp; omega)
        have h3 := Nat.mul_le_mul (show (acc ++ List.replicate (m + 1) none ++ some t :: r).length ≤ 128 by simp; omega) hn.2
        rw [Nat.add_mul, Nat.one_mul] at h1 h2
        omega
      have hp := holds_put (i := acc.length) (t := t) ⟨by omega, by omega⟩ h (by simp) (by omega) ht
      have hL : (laidB n b acc.length t).length = b.length := by
        have h1 := hp.2
        rw [putAt_len (by simp), Nat.max_eq_left (by simp; omega)] at h1
        rw [h1, hb]
      rw [layS_new hb8 hf hbf ht (by omega) (by omega), List.set_set]
      dsimp only
      rw [if_neg (by simp)]
      rw [mark_new (b := laidB n b acc.length t) (by simpa using h8) hf (by rw [List.getD_eq_getElem?_getD]; simp [h8, hf]) 0 (by omega) (by omega), List.set_set]
      dsimp only
      rw [if_neg (by simp)]
      have he1 : putAt (acc ++ List.replicate (m + 1) none ++ some t :: r) acc.length t = (acc ++ [some t]) ++ List.replicate m none ++ some t :: r := by
        unfold putAt
        rw [if_neg (by simp), List.append_assoc, List.set_append_right _ _ (by omega)]
        simp [List.replicate_succ]
      rw [he1] at hp
      have hd := holds_del (i := i) (by omega) hp (by simp; omega)
      have he2 : ((acc ++ [some t]) ++ List.replicate m none ++ some t :: r).set i none = (acc ++ [some t]) ++ List.replicate (m + 1) none ++ r := by
        rw [List.set_append_right _ _ (by simp; omega)]
        rw [show i - (acc ++ [some t] ++ List.replicate m (none : En)).length = 0 by simp; omega]
        rw [List.replicate_succ']
        simp
      rw [he2] at hd
      obtain ⟨b', k', h1, h2, h3⟩ := movedP_new h8 hf hn r (acc ++ [some t]) (m + 1) (i + 1) _ (by simp; omega) hd
      exact ⟨b', k', by rw [h1]; simp, by simpa using h2, by simp at h3 ⊢; omega⟩
/-- Entries that are there, in order. -/
abbrev compact (es : List En) : List En := es.filter Option.isSome
theorem openD_new {bs : List (List UInt8)} (h8 : bs.length = 8) {f n : Nat} (hf : f < 8) (hfit : fitsB n = true) {es : List En} (h : Holds n es (bs.getD f [])) :
    ∃ b', openD (newD bs) f n = (newD (bs.set f b'), some ⟨f, n, compact es, false⟩, 0) ∧ Holds n (compact es) b' := by
  have hn : 16 ≤ n ∧ n ≤ 1024 := by
    unfold fitsB at hfit
    simp only [Bool.or_eq_true, beq_iff_eq] at hfit
    omega
  have hlen := h.len (by omega)
  obtain ⟨b, hb⟩ : ∃ b, bs.getD f [] = b := ⟨_, rfl⟩
  rw [hb] at h
  have hself : bs.set f b = bs := by
    rw [← hb, List.getD_eq_getElem?_getD, List.getElem?_eq_getElem (by omega)]
    simp
  obtain ⟨b', k', h1, h2, h3⟩ := movedP_new h8 hf hn es [] 0 0 b (by simp) (by simpa using h)
  rw [hself] at h1
  simp only [List.nil_append] at h1 h2
  have hbl := h.2
  have hbl' := h2.2
  have h5 : openD (newD bs) f n = openS (newD bs) f n es := by
    unfold openD
    rw [if_neg (by rw [hfit]; simp; omega), newD_asks h8 hf, if_neg (by simp), newD_file h8 hf, hb]
    show (match parse (n : Int).toNat b with | none => _ | some l => _) = _
    rw [Int.toNat_natCast, h.1]
    rfl
  rw [h5]
  unfold openS
  rw [h1, newD_file h8 hf, hb]
  dsimp only
  rw [if_neg (by simp)]
  have hcl : (compact es).length ≤ es.length := List.length_filter_le _ _
  have hclm := Nat.mul_le_mul_right n hcl
  by_cases hlt : (compact es).length * n < (newFl b).now.length
  · rw [if_pos hlt]
    have hle : (compact es).length * n ≤ b'.length := by
      rw [hbl', List.length_append, Nat.add_mul]; exact Nat.le_add_right _ _
    obtain ⟨d, hc1, hc2⟩ := cut_new (bs := bs.set f b') (by simpa using h8) hf (b := b') (by rw [List.getD_eq_getElem?_getD]; simp [h8, hf]) hle
    refine ⟨b'.take ((compact es).length * n), ?_, holds_take (by omega) h2⟩
    rw [hc1]
    dsimp only
    rw [if_neg (by simp), hc2]
    dsimp only
    rw [if_neg (by simp), List.set_set]
  · rw [if_neg hlt]
    have h6 : (newFl b).now.length = es.length * n := hbl
    have h7 : (compact es).length = es.length := by
      rw [h6] at hlt
      have := Nat.le_of_mul_le_mul_right (Nat.le_of_not_lt hlt) (show 0 < n by omega)
      omega
    have hk0 : k' = 0 := by
      have h9 : (compact es).length + k' = 0 + es.length := h3
      omega
    subst hk0
    exact ⟨b', rfl, by simpa using h2⟩
end Go.Proofs.Ythneebbmodkjiaa
