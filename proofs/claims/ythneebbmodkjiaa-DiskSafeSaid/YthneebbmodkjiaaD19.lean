/- Part of a proof over the seat Ythneebbmodkjiaa: module D19. Its claim's last module says what is proved. -/
import Derived.Test.YthneebbmodkjiaaF2
namespace Go.Proofs.Ythneebbmodkjiaa
open Go.Proofs

/-! ### DiskSafe: the plain law -/
def saS : List UInt8 := [116, 104, 101, 115, 101, 32, 98, 121, 116, 101, 115, 32, 97, 114, 101, 32, 115, 97, 102, 101]
theorem over_pre {S b : List UInt8} (h : S <+: b) (p : Nat) (x : List UInt8) (hp : S.length ≤ p) : S <+: over b p x := by
  obtain ⟨t, rfl⟩ := h
  refine ⟨(t ++ List.replicate (p - (S ++ t).length) 0).take (p - S.length) ++ x ++ (S ++ t).drop (p + x.length), ?_⟩
  unfold over
  rw [List.append_assoc S t (List.replicate _ _), List.take_append (l₁ := S), List.take_of_length_le hp]
  simp only [List.append_assoc]
/-- A file that begins so, whatever is kept. -/
def Fl.pre (S : List UInt8) (x : Fl) : Prop := S <+: x.safe ∧ S <+: x.now ∧ ∀ c ∈ x.chg, c.cut = false ∧ S.length ≤ c.at'
theorem keep1_pre {S b : List UInt8} (h : S <+: b) (c : Ch) (p : Int) (hc : c.cut = false ∧ S.length ≤ c.at') : S <+: keep1 b c p := by
  unfold keep1
  rw [hc.1]
  split
  · exact h
  · simp only [Bool.false_eq_true, if_false]
    split
    · split
      · exact h
      · exact over_pre h _ _ hc.2
    · split
      · exact h
      · exact over_pre h _ _ hc.2
theorem keep_pre {S : List UInt8} : ∀ (cs : List Ch) (b : List UInt8) (ps : List Int), S <+: b → (∀ c ∈ cs, c.cut = false ∧ S.length ≤ c.at') → S <+: (keep b cs ps).1 := by
  intro cs
  induction cs with
  | nil => intro b ps h _; exact h
  | cons c cs ih =>
    intro b ps h hc
    unfold keep
    exact ih _ _ (keep1_pre h c _ (hc c (List.mem_cons_self ..))) fun x hx => hc x (List.mem_cons_of_mem _ hx)
theorem keepAll_pre {S : List UInt8} : ∀ (fs : List Fl) (ps : List Int) (i : Nat) (x : Fl), fs[i]? = some x → x.pre S → ∃ y, (keepAll fs ps)[i]? = some y ∧ S <+: y := by
  intro fs
  induction fs with
  | nil => intro ps i x h; simp at h
  | cons f fs ih =>
    intro ps i x h hx
    unfold keepAll
    cases i with
    | zero =>
      obtain rfl : f = x := by simpa using h
      exact ⟨_, rfl, keep_pre _ _ _ hx.1 hx.2.2⟩
    | succ i => exact ih _ i x (by simpa using h) hx

structure SaOk (d : Dk) : Prop where
  off : d.off = false
  uo : d.uo = 0
  ub : d.ub = 0
  f2 : (d.file 2).pre saS
theorem SaOk.step {d : Dk} (h : SaOk d) : d.step.off = false ∧ d.step.uo = 0 ∧ d.step.ub = 0 := by
  unfold Dk.step
  rw [h.off, if_neg (by simp), h.uo, h.ub]
  exact ⟨rfl, rfl, rfl⟩
theorem SaOk.counts {d : Dk} (h : SaOk d) {f : Nat} (hf : f < 8) : d.counts f = 0 := by
  unfold Dk.counts
  rw [h.off, h.uo, h.ub]
  simp; omega
theorem SaOk.asks {d : Dk} (h : SaOk d) {f : Nat} (hf : f < 8) : d.asks f = 0 := by
  unfold Dk.asks
  rw [h.off]
  simp; omega
theorem file_set {d : Dk} (i j : Nat) (y : Fl) (hi : i < d.fs.length) : Dk.file { d with fs := d.fs.set i y } (j : Int) = if i = j then y else d.file j := by
  unfold Dk.file
  simp only [Int.toNat_natCast, List.getD_eq_getElem?_getD, List.getElem?_set]
  split
  · rename_i h; subst h; simp_all
  · rfl
theorem SaOk.size {d : Dk} (h : SaOk d) {f : Nat} (hf : f < 8) : d.size f = (((d.file f).now.length : Int), 0) := by
  unfold Dk.size; rw [h.asks hf]; rfl
theorem newChg_at (p : Nat) (b : List UInt8) : ∀ c ∈ newChg p b, c.cut = false ∧ p ≤ c.at' := by
  intro c hc
  unfold newChg at hc
  obtain ⟨x, hx, rfl⟩ := List.mem_map.1 hc
  exact ⟨rfl, (chunks_le _ _ _ x hx).2.1⟩
theorem SaOk.write {d : Dk} (h : SaOk d) (h8 : d.fs.length = 8) {f p : Nat} (hf : f < 8) (hp : p ≤ (d.file f).now.length) (h2 : f = 2 → p = (d.file 2).now.length) (b : List UInt8) :
    ((d.write f p b).2 = 0 ∨ (d.write f p b).2 = 5) ∧ SaOk (d.write f p b).1 := by
  obtain ⟨s1, s2, s3⟩ := h.step
  have s4 := step_fs d
  unfold Dk.write
  rw [if_neg (by simpa using h.counts hf), if_neg (by omega)]
  have hfile : d.step.file 2 = d.file 2 := by unfold Dk.file; rw [s4]
  split
  · exact ⟨.inr rfl, s1, s2, s3, by rw [hfile]; exact h.f2⟩
  · refine ⟨.inl rfl, s1, s2, s3, ?_⟩
    have e := file_set (d := { d.step with fs := d.fs }) f 2 ((d.file f).write p b) (by simpa [h8] using hf)
    simp only [Int.toNat_natCast]
    refine (show Dk.file _ _ = _ from e) ▸ ?_
    split
    · rename_i h3
      subst h3
      have hp2 := h2 rfl
      obtain ⟨q1, q2, q3⟩ := h.f2
      have hl : saS.length ≤ p := by rw [hp2]; exact q2.length_le
      refine ⟨q1, over_pre q2 _ _ hl, fun c hc => ?_⟩
      rcases List.mem_append.1 hc with hc | hc
      · exact q3 c hc
      · obtain ⟨c1, c2⟩ := newChg_at _ _ c hc
        exact ⟨c1, Nat.le_trans hl c2⟩
    · exact h.f2
theorem SaOk.sync {d : Dk} (h : SaOk d) (h8 : d.fs.length = 8) {f : Nat} (hf : f < 8) : (d.sync f).2 = 0 ∧ SaOk (d.sync f).1 := by
  obtain ⟨s1, s2, s3⟩ := h.step
  unfold Dk.sync
  rw [if_neg (by simpa using h.counts hf)]
  refine ⟨rfl, s1, s2, s3, ?_⟩
  have e := file_set (d := { d.step with fs := d.fs }) f 2 ((d.file f).sync) (by simpa [h8] using hf)
  simp only [Int.toNat_natCast]
  refine (show Dk.file _ _ = _ from e) ▸ ?_
  split
  · rename_i h3
    subst h3
    obtain ⟨q1, q2, q3⟩ := h.f2
    exact ⟨q2, q2, fun c hc => by cases hc⟩
  · exact h.f2
def saD1 : Dk := ((newD []).write 2 0 saS).1
def saD2 : Dk := (saD1.sync 2).1
theorem sa_1 : ((newD []).write 2 0 saS).2 = 0 := by decide +kernel
theorem sa_2 : (saD1.sync 2).2 = 0 := by decide +kernel
theorem sa_ok : SaOk saD2 := ⟨by decide +kernel, by decide +kernel, by decide +kernel, ⟨[], by decide +kernel⟩, ⟨[], by decide +kernel⟩, by
  have : (saD2.file 2).chg.length = 0 := by decide +kernel
  intro c hc
  rw [List.length_eq_zero_iff.1 this] at hc; cases hc⟩
end Go.Proofs.Ythneebbmodkjiaa
