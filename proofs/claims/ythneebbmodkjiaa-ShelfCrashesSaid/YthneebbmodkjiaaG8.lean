/- Part of a proof over the seat Ythneebbmodkjiaa: module G8. Its claim's last module says what is proved. -/
import Derived.Test.YthneebbmodkjiaaG6
import Derived.Test.YthneebbmodkjiaaE25
namespace Go.Proofs.Ythneebbmodkjiaa
open Go.Proofs

/-! ### Shelves whose power goes: what is told by texts alone -/
theorem live_txts : ∀ (es : List En) (k : Nat), (live k es).map Prod.snd = txts es
  | [], _ => rfl
  | none :: es, k => live_txts es (k + 1)
  | some t :: es, k => by
    show t :: (live (k + 1) es).map Prod.snd = t :: txts es
    rw [live_txts es]
theorem texts_txts (s : Sh) : s.texts = txts s.es := live_txts s.es 0
theorem live_at : ∀ (es : List En) (k : Nat), ∀ y ∈ live k es, k ≤ y.1 ∧ es[y.1 - k]? = some (some y.2)
  | none :: es, k, y, h => by
    obtain ⟨h1, h2⟩ := live_at es (k + 1) y h
    rw [show y.1 - k = y.1 - (k + 1) + 1 by omega]
    exact ⟨by omega, h2⟩
  | some t :: es, k, y, h => by
    have h : y ∈ (k, t) :: live (k + 1) es := h
    rw [List.mem_cons] at h
    rcases h with rfl | h
    · exact ⟨Nat.le_refl _, by simp⟩
    · obtain ⟨h1, h2⟩ := live_at es (k + 1) y h
      rw [show y.1 - k = y.1 - (k + 1) + 1 by omega]
      exact ⟨by omega, h2⟩
theorem del_facts {N : Nat} (s : Sh) {d : Dk} (slot : Int) (h : d.okn N) : (s.del d slot).1.n = s.n ∧ (s.del d slot).1.es.length ≤ s.es.length ∧ (s.del d slot).2.1.okn (N + 4) := by
  unfold Sh.del
  have h4 := okn_mark h s.f s.n slot.toNat 0
  have h0 : d.okn (N + 4) := h.mono (by omega)
  split
  · exact ⟨rfl, Nat.le_refl _, h0⟩
  split
  · exact ⟨rfl, Nat.le_refl _, h0⟩
  split
  · exact ⟨rfl, Nat.le_refl _, h4.mono (by omega)⟩
  · exact ⟨rfl, by simp, h4.mono (by omega)⟩
theorem okn_openD {N : Nat} {d : Dk} (h : d.okn N) (f n : Int) : (openD d f n).1.okn (N + 800) := by
  have h0 : d.okn (N + 800) := h.mono (by omega)
  unfold openD
  split
  · exact h0
  split
  · exact h0
  split
  · exact h0
  rename_i l hl
  have hl := parse_len' hl
  unfold openS
  have h1 := okn_movedP f.toNat n.toNat l d 0 [] N h
  dsimp only
  split
  · exact h1.mono (by omega)
  split
  · have h2 := okn_cut h1 f.toNat (((movedP f.toNat n.toNat d 0 l []).2.1.length * n.toNat : Nat) : Int)
    have h3 := okn_sync h2 f.toNat
    split
    · exact h2.mono (by omega)
    split
    · exact h3.mono (by omega)
    · exact h3.mono (by omega)
  · exact h1.mono (by omega)
theorem qd_okn {bs : List (List UInt8)} (hc : Calm bs) (u : Nat) : (QD bs u).okn 0 := hc.okn.fs _ (by rw [newD_fs hc.h8]; rfl)
theorem qd_new {bs : List (List UInt8)} (hc : Calm bs) : newD bs = QD bs 0 := newD_fs hc.h8
theorem qd_power {bs : List (List UInt8)} {u : Nat} (hu : 1 ≤ u) : (QD bs 0).power u = QD bs u := by
  unfold Dk.power QD
  simp; omega
/-- A crash leaves of the disk d: the files bs, but for one, whose texts are as told. -/
structure Cr (f n : Nat) (P : List Tx → Prop) (d : Dk) : Prop where
  ok : d.okn 1000
  cr : ∀ ps, Calm (keepAll d.fs ps) ∧ ∃ es, parse n ((keepAll d.fs ps).getD f []) = some es ∧ P (txts es)
theorem Cr.imp {f n : Nat} {P P' : List Tx → Prop} {d : Dk} (h : Cr f n P d) (hp : ∀ T, P T → P' T) : Cr f n P' d := ⟨h.ok, fun ps => by
  obtain ⟨h1, es, h2, h3⟩ := h.cr ps; exact ⟨h1, es, h2, hp _ h3⟩⟩
theorem gone_cr {f n : Nat} (hf : f < 8) {bs : List (List UInt8)} (hc : Calm bs) {P : List Tx → Prop} {d : Dk} (hk : d.okn 1000) (h : Gone bs f (Left n P) d) : Cr f n P d := ⟨hk, fun ps => by
  obtain ⟨b', h1, h2, es, h3, h4⟩ := h.2 ps
  rw [h1]
  exact ⟨hc.set f h2, es, by rw [getD_set hc.h8 hf]; exact h3, h4⟩⟩
theorem qd_cr {f n : Nat} {bs : List (List UInt8)} (hc : Calm bs) (u : Nat) {es : List En} (h : parse n (bs.getD f []) = some es) {P : List Tx → Prop} (hP : P (txts es)) : Cr f n P (QD bs u) := ⟨(qd_okn hc u).mono (by omega), fun ps => by
  have : keepAll (QD bs u).fs ps = bs := keepAll_newq bs ps
  rw [this]
  exact ⟨hc, es, h, hP⟩⟩
/-- All of c, and so many more at most. -/
def Near (o : Nat) (c T : List Tx) : Prop := (∀ x, c.count x ≤ T.count x) ∧ T.length ≤ c.length + o
theorem Near.bag {o : Nat} {c T : List Tx} (h : Near o c T) : bagL c T o = true := bagL_counts c T o h.1 (by have := h.2; omega)
theorem near_perm {c T : List Tx} (h : T.Perm c) : Near 0 c T := ⟨fun x => by rw [h.count_eq]; exact Nat.le_refl _, by rw [h.length_eq]; omega⟩
theorem Near.dup {o : Nat} {c L T : List Tx} (h : Near o c L) (hd : Dup L T) : Near (o + 1) c T := by
  rcases hd with hd | ⟨x, hx, hd⟩
  · exact ⟨fun y => by rw [hd.count_eq]; exact h.1 y, by rw [hd.length_eq]; have := h.2; omega⟩
  · refine ⟨fun y => ?_, by rw [hd.length_eq, List.length_cons]; have := h.2; omega⟩
    rw [hd.count_eq, List.count_cons]
    have := h.1 y
    omega
theorem dup_mem {L T : List Tx} (hd : Dup L T) : ∀ x ∈ T, x ∈ L := by
  intro y hy
  rcases hd with hd | ⟨x, hx, hd⟩
  · exact hd.mem_iff.1 hy
  · rcases List.mem_cons.1 (hd.mem_iff.1 hy) with rfl | h
    · exact hx
    · exact h
/-- What may lie there, in a round. -/
def May (fl : Bool) (l mb : List Tx) (o : Nat) (T : List Tx) : Prop := (Near o l T ∨ (fl = true ∧ Near o mb T)) ∧ ∀ x ∈ T, x ∈ l ∨ x ∈ mb
theorem May.dup {fl : Bool} {l mb L T : List Tx} {o : Nat} (h : May fl l mb o L) (hd : Dup L T) : May fl l mb (o + 1) T := by
  obtain ⟨h1, h2⟩ := h
  refine ⟨?_, fun x hx => h2 x (dup_mem hd x hx)⟩
  rcases h1 with h1 | ⟨h0, h1⟩
  · exact .inl (h1.dup hd)
  · exact .inr ⟨h0, h1.dup hd⟩
end Go.Proofs.Ythneebbmodkjiaa
