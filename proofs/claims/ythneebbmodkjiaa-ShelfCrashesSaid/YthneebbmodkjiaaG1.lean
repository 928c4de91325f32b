/- Part of a proof over the seat Ythneebbmodkjiaa: module G1. Its claim's last module says what is proved. -/
import Derived.Test.YthneebbmodkjiaaE10
namespace Go.Proofs.Ythneebbmodkjiaa
open Go.Proofs

/-! ### Calm disks -/
theorem newD_fs {bs : List (List UInt8)} (h : bs.length = 8) : newD bs = ⟨bs.map newFl, false, 0, 0⟩ := by
  unfold newD newP
  rw [List.take_length, h]; simp
theorem newD_nil : newD [] = newD (List.replicate 8 []) := by rfl
theorem step_calm (fs : List Fl) : (⟨fs, false, 0, 0⟩ : Dk).step = ⟨fs, false, 0, 0⟩ := rfl
theorem newD_file {bs : List (List UInt8)} (h : bs.length = 8) {f : Nat} (hf : f < 8) : (newD bs).file f = newFl (bs.getD f []) := by
  rw [newD_fs h]
  unfold Dk.file
  simp only [Int.toNat_natCast]
  rw [List.getD_eq_getElem?_getD, List.getD_eq_getElem?_getD, List.getElem?_map]
  rw [List.getElem?_eq_getElem (by omega)]; rfl
theorem newD_counts {bs : List (List UInt8)} (h : bs.length = 8) {f : Nat} (hf : f < 8) : (newD bs).counts f = 0 := by
  rw [newD_fs h]; unfold Dk.counts; simp; omega
theorem newD_asks {bs : List (List UInt8)} (h : bs.length = 8) {f : Nat} (hf : f < 8) : (newD bs).asks f = 0 := by
  rw [newD_fs h]; unfold Dk.asks; simp; omega
theorem newD_set {bs : List (List UInt8)} (h : bs.length = 8) (f : Nat) (b : List UInt8) : (⟨(bs.map newFl).set f (newFl b), false, 0, 0⟩ : Dk) = newD (bs.set f b) := by
  rw [newD_fs (by simpa using h), List.map_set]
theorem wrs_new {bs : List (List UInt8)} (h : bs.length = 8) {f p : Nat} (hf : f < 8) {x b : List UInt8} (hb : bs.getD f [] = b) (hp : p ≤ b.length) (hx : p + x.length ≤ 131072) :
    wrs (newD bs) f p x = (newD (bs.set f (over b p x)), 0) := by
  have h1 : (newD bs).write f p x = (⟨(bs.map newFl).set f ((newFl b).write p x), false, 0, 0⟩, 0) := by
    unfold Dk.write
    rw [if_neg (by rw [newD_counts h hf]; simp), newD_file h hf, hb, if_neg (by show ¬((p : Int) < 0 ∨ (b.length : Int) < p); omega), if_neg (by omega)]
    rw [newD_fs h]; rfl
  unfold wrs
  rw [h1, if_neg (by simp)]
  unfold Dk.sync
  have h2 : (⟨(bs.map newFl).set f ((newFl b).write p x), false, 0, 0⟩ : Dk).counts f = 0 := by unfold Dk.counts; simp; omega
  rw [if_neg (by rw [h2]; simp), step_calm]
  have h3 : (⟨(bs.map newFl).set f ((newFl b).write p x), false, 0, 0⟩ : Dk).file f = (newFl b).write p x := by
    unfold Dk.file
    rw [List.getD_eq_getElem?_getD]; simp [h, hf]
  rw [h3]
  dsimp only
  rw [Int.toNat_natCast, List.set_set]
  exact Prod.ext (newD_set h f (over b p x)) rfl
theorem cut_new {bs : List (List UInt8)} (h : bs.length = 8) {f c : Nat} (hf : f < 8) {b : List UInt8} (hb : bs.getD f [] = b) (hc : c ≤ b.length) :
    ∃ d, (newD bs).cut f c = (d, 0) ∧ d.sync f = (newD (bs.set f (b.take c)), 0) := by
  refine ⟨⟨(bs.map newFl).set f ((newFl b).cut c), false, 0, 0⟩, ?_, ?_⟩
  · unfold Dk.cut
    rw [if_neg (by rw [newD_counts h hf]; simp), newD_file h hf, hb, if_neg (by show ¬((c : Int) < 0 ∨ (b.length : Int) < c); omega)]
    rw [newD_fs h]; rfl
  · unfold Dk.sync
    have h2 : (⟨(bs.map newFl).set f ((newFl b).cut c), false, 0, 0⟩ : Dk).counts f = 0 := by unfold Dk.counts; simp; omega
    rw [if_neg (by rw [h2]; simp), step_calm]
    have h3 : (⟨(bs.map newFl).set f ((newFl b).cut c), false, 0, 0⟩ : Dk).file f = (newFl b).cut c := by
      unfold Dk.file
      rw [List.getD_eq_getElem?_getD]; simp [h, hf]
    rw [h3]
    dsimp only
    rw [Int.toNat_natCast, List.set_set]
    exact Prod.ext (newD_set h f (b.take c)) rfl
theorem keepAll_new : ∀ (bs : List (List UInt8)) (ps : List Int), keepAll (bs.map newFl) ps = bs
  | [], _ => rfl
  | b :: bs, ps => by
    show (keep b [] ps).1 :: keepAll (bs.map newFl) (keep b [] ps).2 = _
    rw [keepAll_new bs]; simp [keep]
/-- A file holds entries. -/
def Holds (n : Nat) (es : List En) (b : List UInt8) : Prop := parse n b = some es ∧ b.length = es.length * n
theorem slotOf_over {n : Nat} {b x : List UInt8} {s i : Nat} (hn : 0 < n) (hs : s * n ≤ b.length) (hx : x.length ≤ n) :
    slotOf n (over b (s * n) x) i = if i = s then x ++ (slotOf n b i).drop x.length else slotOf n b i := by
  unfold slotOf over
  rw [show s * n - b.length = 0 by omega]
  simp only [List.replicate_zero, List.append_nil]
  split
  · rename_i h; subst h
    rw [List.append_assoc, List.drop_left' (by simp; omega), List.take_append, List.take_of_length_le (by omega), List.drop_take, List.drop_drop]
  · rename_i h
    rcases Nat.lt_or_gt_of_ne h with h | h
    · have h1 : i * n + n ≤ s * n := by
        have := Nat.mul_le_mul_right n (show i + 1 ≤ s by omega)
        rw [Nat.add_mul] at this; omega
      rw [List.append_assoc, List.drop_append_of_le_length (by simp; omega), List.take_append_of_le_length (by simp; omega), List.drop_take, List.take_take, Nat.min_eq_left (by omega)]
    · have h1 : s * n + n ≤ i * n := by
        have := Nat.mul_le_mul_right n (show s + 1 ≤ i by omega)
        rw [Nat.add_mul] at this; omega
      rw [List.append_assoc, List.drop_append, List.drop_eq_nil_of_le (by simp; omega), List.nil_append, List.length_take, Nat.min_eq_left hs, List.drop_append, List.drop_eq_nil_of_le (by omega), List.nil_append, List.drop_drop]
      congr 2; omega
end Go.Proofs.Ythneebbmodkjiaa
