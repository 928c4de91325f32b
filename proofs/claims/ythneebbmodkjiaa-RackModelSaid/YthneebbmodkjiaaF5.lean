/- Part of a proof over the seat Ythneebbmodkjiaa: module F5. Its claim's last module says what is proved. -/
import Derived.Test.YthneebbmodkjiaaF2
import Derived.SizedLaws
namespace Go.Proofs.Ythneebbmodkjiaa
open Go.Proofs Go.RowKit

/-- Within the form's own reach. -/
def Szd {H : Type} (P : Program) (t : TypeId) (y : DataW H × List MemPlace) : Prop := ∀ n ∈ y.1.weights P t, n ≤ reachBytes
theorem weightsAll_mem {H : Type} {P : Program} {e : TypeId} {d : DataW H} {n : Nat} : ∀ {ds : List (DataW H)}, d ∈ ds → n ∈ d.weights P e → n ∈ DataW.weightsAll P e ds := by
  intro ds
  induction ds with
  | nil => intro h; cases h
  | cons x ds ih =>
    intro h hn
    unfold DataW.weightsAll
    rcases List.mem_cons.1 h with rfl | h
    · exact List.mem_append_left _ hn
    · exact List.mem_append_right _ (ih h hn)
section
variable {H : Type} {enc : TypeId × Value → H} {P : Program} {W : World} {sp : Nat → Bool} {held : Bool}
/-- A slice that is read: its elements, each with its own reading. -/
theorem open_slZ {t e s fuel : Nat} {cs : List Value} {x : DataW H × List MemPlace} (ht : P.underlying t = some (.slice e)) (hc : P.cellsOf e = s) (hs : 0 < s) (h : DataW.trod enc P W 0 sp held fuel t cs = some x) (hz : Szd P t x) :
    ∃ (a : Option Addr) (len cap : Nat) (f : Nat → List Value), cs = [.slice a len cap] ∧ len ≤ cap ∧ cap ≤ maxLen ∧ len * P.bytesOf e ≤ reachBytes ∧ (∀ i, (f i).length = s) ∧ (∀ i, i < len → ∃ n y, DataW.trod enc P W 0 sp held n e (f i) = some y ∧ Szd P e y) ∧ Reads (Old W W.heap.size) s a len ((List.range len).flatMap f) := by
  rcases DataW.trod_slice ht h with ⟨rfl, _⟩ | ⟨a, len, cap, elems, rest, n, _, rfl, hx, _, hl, hm, hlen, hel, _⟩
  · refine ⟨none, 0, 0, fun _ => List.replicate s undef, rfl, Nat.le_refl _, Nat.zero_le _, by simp, fun i => by simp, fun i hi => by omega, by simp, fun _ _ _ _ => .inl rfl⟩
  · rw [hc] at hel
    rw [hx] at hz
    have hz1 : len * P.bytesOf e ≤ reachBytes := by
      have := hz ((elems.length + rest.length) * P.bytesOf e) (by simp [DataW.weights, ht])
      exact Nat.le_trans (Nat.mul_le_mul_right _ (by omega)) this
    have hz2 : ∀ y ∈ elems, Szd P e y := fun y hy m hm => hz m (by
      simp only [DataW.weights, ht]
      exact List.mem_cons_of_mem _ (List.mem_append_left _ (weightsAll_mem (List.mem_map_of_mem hy) hm)))
    obtain ⟨f, hf⟩ : ∃ f : Nat → List Value, f = fun i => (List.range s).map (fun j => (W.cell? ((a.add (i * s)).add j)).getD undef) := ⟨_, rfl⟩
    have hfl : ∀ i, (f i).length = s := fun i => by rw [hf]; simp
    have hcell : ∀ i, i < len → (∃ n y, DataW.trod enc P W 0 sp held n e (f i) = some y ∧ Szd P e y) ∧ ∀ j, j < s → ∃ v, W.cell? ((a.add (i * s)).add j) = some v := by
      intro i hi
      have h1 := hel i hi
      have h2 : elems[i]? = some (elems[i]'(by omega)) := List.getElem?_eq_getElem (by omega)
      rw [h2, Option.bind_eq_some_iff] at h1
      obtain ⟨c1, hc1, hy⟩ := h1
      obtain ⟨e1, e2⟩ := cells_get hc1
      refine ⟨⟨n, elems[i]'(by omega), ?_, hz2 _ (List.getElem_mem _)⟩, e2⟩
      rw [hf]; dsimp only; rw [← e1]; exact hy
    refine ⟨some a, len, cap, f, rfl, hl, hm, hz1, hfl, fun i hi => (hcell i hi).1, ?_⟩
    by_cases h0 : len = 0
    · subst h0
      exact ⟨by simp, fun _ _ _ _ => .inl rfl⟩
    · obtain ⟨b, off, spot⟩ := a
      obtain ⟨v, hv⟩ := (hcell 0 (by omega)).2 0 hs
      have hsp : spot = none := by
        cases hspot : spot with
        | none => rfl
        | some z =>
          exfalso
          subst hspot
          unfold World.cell? at hv
          cases hb : W.heap[b]? with
          | none => simp [Addr.add, hb] at hv
          | some o => cases o <;> simp [Addr.add, hb] at hv
      subst hsp
      refine old_reads ?_ ?_
      · rw [flen hfl]; simp
      · intro i v hv
        have hi := (List.getElem?_eq_some_iff.1 hv).1
        rw [flen hfl, List.length_range] at hi
        have hq : i / s < len := Nat.div_lt_of_lt_mul (by rw [Nat.mul_comm]; exact hi)
        have hr : i % s < s := Nat.mod_lt _ hs
        have hd : i / s * s + i % s = i := by rw [Nat.mul_comm]; exact Nat.div_add_mod i s
        have hg := fget hfl (l := List.range len) (i := i / s) (by simpa using hq) (i % s) hr
        rw [hd, hv] at hg
        simp only [List.getElem_range] at hg
        obtain ⟨u, hu⟩ := (hcell (i / s) hq).2 (i % s) hr
        rw [hf] at hg
        simp only [List.getElem?_map, List.getElem?_range hr, Option.map_some, hu, Option.getD_some, Option.some.injEq] at hg
        subst hg
        simp only [Addr.add_none] at hu
        rw [Nat.add_assoc, hd] at hu
        exact hu
end
section
variable {H : Type} {enc : TypeId × Value → H} {W : World} {sp : Nat → Bool} {held : Bool}
/-- Bytes that are read. -/
theorem read_bytesZ {fuel : Nat} {v : Value} {y : DataW H × List MemPlace} (h : DataW.trod enc Try.prog W 0 sp held fuel 30 [v] = some y) (hz : Szd Try.prog 30 y) :
    ∃ x : BS, v = sv x ∧ x.2.2.length ≤ x.2.1 ∧ x.2.1 ≤ maxLen ∧ x.2.2.length ≤ 2 ^ 47 ∧ Reads (OldW W) 1 x.1 x.2.2.length (x.2.2.map bv) := by
  obtain ⟨a, len, cap, f, hv, hl, hm, hzz, hfl, hel, R⟩ := open_slZ Try.underlying30 (by kernel_rfl : Try.prog.cellsOf 5 = 1) (by decide) h hz
  rw [(by kernel_rfl : Try.prog.bytesOf 5 = 1)] at hzz
  have key : ∀ i, ∃ b : UInt8, i < len → f i = [bv b] := by
    intro i
    by_cases hi : i < len
    · obtain ⟨n, y', hy, _⟩ := hel i hi
      obtain ⟨z, hz, _, hw⟩ := DataW.trod_int Try.underlying5 hy
      refine ⟨UInt8.ofNat z.toNat, fun _ => ?_⟩
      rw [hz]
      simp only [Lit.wf, IntKind.min, IntKind.max, IntKind.signed, IntKind.bits, Bool.and_eq_true] at hw
      simp at hw
      simp [bv]; omega
    · exact ⟨0, fun h => absurd h hi⟩
  obtain ⟨g, hg⟩ := Classical.skolem.1 key
  refine ⟨(a, cap, (List.range len).map g), ?_, ?_, hm, by simp [reachBytes] at hzz ⊢; omega, ?_⟩
  · simp only [List.cons.injEq, and_true] at hv
    rw [hv]; simp
  · simpa using hl
  · rw [flat_map bv len (fun i hi => hg i hi)] at R
    simpa using R
/-- Numbers that are read. -/
theorem read_numsZ {fuel : Nat} {v : Value} {y : DataW H × List MemPlace} (h : DataW.trod enc Try.prog W 0 sp held fuel 34 [v] = some y) (hz : Szd Try.prog 34 y) :
    ∃ (a : Option Addr) (cap : Nat) (ps : List Int), v = .slice a ps.length cap ∧ ps.length ≤ cap ∧ cap ≤ maxLen ∧ ps.length ≤ 2 ^ 47 ∧ (∀ p ∈ ps, -9223372036854775808 ≤ p ∧ p ≤ 9223372036854775807) ∧ Reads (OldW W) 1 a ps.length (ps.map iv) := by
  obtain ⟨a, len, cap, f, hv, hl, hm, hzz, hfl, hel, R⟩ := open_slZ Try.underlying34 (by kernel_rfl : Try.prog.cellsOf 3 = 1) (by decide) h hz
  rw [(by kernel_rfl : Try.prog.bytesOf 3 = 8)] at hzz
  have key : ∀ i, ∃ z : Int, i < len → f i = [iv z] ∧ -9223372036854775808 ≤ z ∧ z ≤ 9223372036854775807 := by
    intro i
    by_cases hi : i < len
    · obtain ⟨n, y', hy, _⟩ := hel i hi
      obtain ⟨z, hz, _, hw⟩ := DataW.trod_int Try.underlying3 hy
      refine ⟨z, fun _ => ⟨hz, ?_⟩⟩
      simp only [Lit.wf, IntKind.min, IntKind.max, IntKind.signed, IntKind.bits, Bool.and_eq_true, decide_eq_true_eq] at hw
      simpa using hw
    · exact ⟨0, fun h => absurd h hi⟩
  obtain ⟨g, hg⟩ := Classical.skolem.1 key
  refine ⟨a, cap, (List.range len).map g, ?_, by simpa using hl, hm, by simp [reachBytes] at hzz ⊢; omega, ?_, ?_⟩
  · simp only [List.cons.injEq, and_true] at hv
    rw [hv]; simp
  · intro p hp
    obtain ⟨i, hi, rfl⟩ := List.mem_map.1 hp
    exact (hg i (List.mem_range.1 hi)).2
  · rw [flat_map iv len (fun i hi => (hg i hi).1)] at R
    simpa using R
/-- Rows of bytes that are read. -/
theorem read_cellsZ {fuel : Nat} {v : Value} {y : DataW H × List MemPlace} (h : DataW.trod enc Try.prog W 0 sp held fuel 22 [v] = some y) (hz : Szd Try.prog 22 y) :
    ∃ (a : Option Addr) (cap : Nat) (q : List BS), v = .slice a q.length cap ∧ q.length ≤ cap ∧ cap ≤ maxLen ∧ q.length ≤ 2 ^ 47 ∧ (∀ x ∈ q, x.2.2.length ≤ x.2.1 ∧ x.2.1 ≤ maxLen ∧ x.2.2.length ≤ 2 ^ 47) ∧ RdC (OldW W) a q := by
  obtain ⟨a, len, cap, f, hv, hl, hm, hzz, hfl, hel, R⟩ := open_slZ Try.underlying22 (by kernel_rfl : Try.prog.cellsOf 30 = 1) (by decide) h hz
  rw [(by kernel_rfl : Try.prog.bytesOf 30 = 24)] at hzz
  have key : ∀ i, ∃ x : BS, i < len → f i = [sv x] ∧ x.2.2.length ≤ x.2.1 ∧ x.2.1 ≤ maxLen ∧ x.2.2.length ≤ 2 ^ 47 ∧ Reads (OldW W) 1 x.1 x.2.2.length (x.2.2.map bv) := by
    intro i
    by_cases hi : i < len
    · obtain ⟨n, y', hy, hyz⟩ := hel i hi
      obtain ⟨u, hu⟩ := List.length_eq_one_iff.1 (hfl i)
      rw [hu] at hy
      obtain ⟨x, rfl, h1, h2, h4, h3⟩ := read_bytesZ hy hyz
      exact ⟨x, fun _ => ⟨hu, h1, h2, h4, h3⟩⟩
    · exact ⟨(none, 0, []), fun h => absurd h hi⟩
  obtain ⟨g, hg⟩ := Classical.skolem.1 key
  refine ⟨a, cap, (List.range len).map g, ?_, by simpa using hl, hm, by simp [reachBytes] at hzz ⊢; omega, ?_, ?_, ?_⟩
  · simp only [List.cons.injEq, and_true] at hv
    rw [hv]; simp
  · intro x hx
    obtain ⟨i, hi, rfl⟩ := List.mem_map.1 hx
    have := hg i (List.mem_range.1 hi)
    exact ⟨this.2.1, this.2.2.1, this.2.2.2.1⟩
  · rw [flat_map sv len (fun i hi => (hg i hi).1)] at R
    simpa using R
  · intro x hx
    obtain ⟨i, hi, rfl⟩ := List.mem_map.1 hx
    exact (hg i (List.mem_range.1 hi)).2.2.2.2
theorem read_actZ {fuel : Nat} {cs : List Value} {y : DataW H × List MemPlace} (h : DataW.trod enc Try.prog W 0 sp held fuel 39 cs = some y) (hz : Szd Try.prog 39 y) :
    ∃ x : AV, cs = x.cells ∧ x.Fit ∧ (x.b.2.2.length ≤ 2 ^ 47 ∧ x.ps.length ≤ 2 ^ 47) ∧ Reads (OldW W) 1 x.b.1 x.b.2.2.length (x.b.2.2.map bv) ∧ Reads (OldW W) 1 x.pa x.ps.length (x.ps.map iv) := by
  obtain ⟨xs, n, _, hxx, hcl, hxl, hf⟩ := DataW.trod_struct Try.underlying39 h
  rw [hxx] at hz
  have hzf : ∀ (i : Nat) (t : TypeId) (z : DataW H × List MemPlace), ([3, 3, 3, 3, 30, 34] : List Nat)[i]? = some t → xs[i]? = some z → Szd Try.prog t z := fun i t z ht hx m hm => hz m (by
    simp only [DataW.weights, Try.underlying39]
    exact DataW.weights_mem_each (ts := [3, 3, 3, 3, 30, 34]) (j := i) ht (by rw [List.getElem?_map, hx]; rfl) m hm)
  have h6 : cs.length = 6 := hcl.trans (by kernel_rfl)
  obtain ⟨c0, c1, c2, c3, c4, c5, rfl⟩ := six h6
  have c3' : Try.prog.cellsOf 3 = 1 := by kernel_rfl
  have c30 : Try.prog.cellsOf 30 = 1 := by kernel_rfl
  have c34 : Try.prog.cellsOf 34 = 1 := by kernel_rfl
  have hx : xs.length = 6 := hxl
  have g : ∀ i, i < 6 → ∃ y, xs[i]? = some y := fun i hi => ⟨xs[i]'(by omega), by simp [hx, hi]⟩
  have e0 := hf 0 _ rfl
  have e1 := hf 1 _ rfl
  have e2 := hf 2 _ rfl
  have e3 := hf 3 _ rfl
  have e4 := hf 4 _ rfl
  have e5 := hf 5 _ rfl
  obtain ⟨y0, h0⟩ := g 0 (by decide)
  obtain ⟨y1, h1⟩ := g 1 (by decide)
  obtain ⟨y2, h2⟩ := g 2 (by decide)
  obtain ⟨y3, h3⟩ := g 3 (by decide)
  obtain ⟨y4, h4⟩ := g 4 (by decide)
  obtain ⟨y5, h5⟩ := g 5 (by decide)
  rw [h0] at e0; rw [h1] at e1; rw [h2] at e2; rw [h3] at e3; rw [h4] at e4; rw [h5] at e5
  replace e0 : DataW.trod enc Try.prog W 0 sp held n 3 (List.take (Try.prog.cellsOf 3) [c0, c1, c2, c3, c4, c5]) = some y0 := e0
  replace e1 : DataW.trod enc Try.prog W 0 sp held n 3 (List.take (Try.prog.cellsOf 3) [c1, c2, c3, c4, c5]) = some y1 := e1
  replace e2 : DataW.trod enc Try.prog W 0 sp held n 3 (List.take (Try.prog.cellsOf 3) [c2, c3, c4, c5]) = some y2 := e2
  replace e3 : DataW.trod enc Try.prog W 0 sp held n 3 (List.take (Try.prog.cellsOf 3) [c3, c4, c5]) = some y3 := e3
  replace e4 : DataW.trod enc Try.prog W 0 sp held n 30 (List.take (Try.prog.cellsOf 30) [c4, c5]) = some y4 := e4
  replace e5 : DataW.trod enc Try.prog W 0 sp held n 34 (List.take (Try.prog.cellsOf 34) [c5]) = some y5 := e5
  rw [c3', List.take_succ_cons, List.take_zero] at e0 e1 e2 e3
  rw [c30, List.take_succ_cons, List.take_zero] at e4
  rw [c34, List.take_succ_cons, List.take_zero] at e5
  obtain ⟨z0, p0, _, w0⟩ := DataW.trod_int Try.underlying3 e0
  obtain ⟨z1, p1, _, w1⟩ := DataW.trod_int Try.underlying3 e1
  obtain ⟨z2, p2, _, w2⟩ := DataW.trod_int Try.underlying3 e2
  obtain ⟨z3, p3, _, w3⟩ := DataW.trod_int Try.underlying3 e3
  obtain ⟨b, rfl, b1, b2, b4, b3⟩ := read_bytesZ e4 (hzf 4 30 y4 rfl h4)
  obtain ⟨pa, pc, ps, rfl, q1, q2, q5, q3, q4⟩ := read_numsZ e5 (hzf 5 34 y5 rfl h5)
  simp only [List.cons.injEq, and_true] at p0 p1 p2 p3
  subst p0 p1 p2 p3
  exact ⟨⟨z0, z1, z2, z3, b, pa, pc, ps⟩, rfl, ⟨wf64 w0, wf64 w1, wf64 w2, wf64 w3, ⟨b1, b2⟩, ⟨q1, q2⟩, q3⟩, ⟨b4, q5⟩, b3, q4⟩
theorem read_actsZ {fuel : Nat} {v : Value} {y : DataW H × List MemPlace} (h : DataW.trod enc Try.prog W 0 sp held fuel 23 [v] = some y) (hz : Szd Try.prog 23 y) :
    ∃ (a : Option Addr) (cap : Nat) (l : List AV), v = .slice a l.length cap ∧ l.length ≤ cap ∧ cap ≤ maxLen ∧ l.length ≤ 2 ^ 47 ∧ (∀ x ∈ l, x.Fit ∧ x.b.2.2.length ≤ 2 ^ 47 ∧ x.ps.length ≤ 2 ^ 47) ∧ RdS (OldW W) a l := by
  obtain ⟨a, len, cap, f, hv, hl, hm, hzz, hfl, hel, R⟩ := open_slZ Try.underlying23 (by kernel_rfl : Try.prog.cellsOf 39 = 6) (by decide) h hz
  rw [(by kernel_rfl : Try.prog.bytesOf 39 = 80)] at hzz
  have key : ∀ i, ∃ x : AV, i < len → f i = x.cells ∧ x.Fit ∧ (x.b.2.2.length ≤ 2 ^ 47 ∧ x.ps.length ≤ 2 ^ 47) ∧ Reads (OldW W) 1 x.b.1 x.b.2.2.length (x.b.2.2.map bv) ∧ Reads (OldW W) 1 x.pa x.ps.length (x.ps.map iv) := by
    intro i
    by_cases hi : i < len
    · obtain ⟨n, y', hy, hyz⟩ := hel i hi
      obtain ⟨x, h1⟩ := read_actZ hy hyz
      exact ⟨x, fun _ => h1⟩
    · exact ⟨⟨0, 0, 0, 0, (none, 0, []), none, 0, []⟩, fun h => absurd h hi⟩
  obtain ⟨g, hg⟩ := Classical.skolem.1 key
  refine ⟨a, cap, (List.range len).map g, ?_, by simpa using hl, hm, by simp [reachBytes] at hzz ⊢; omega, ?_, ?_, ?_⟩
  · simp only [List.cons.injEq, and_true] at hv
    rw [hv]; simp
  · intro x hx
    obtain ⟨i, hi, rfl⟩ := List.mem_map.1 hx
    exact ⟨(hg i (List.mem_range.1 hi)).2.1, (hg i (List.mem_range.1 hi)).2.2.1⟩
  · rw [flat_flat AV.cells len (fun i hi => (hg i hi).1)] at R
    simpa using R
  · intro x hx
    obtain ⟨i, hi, rfl⟩ := List.mem_map.1 hx
    exact (hg i (List.mem_range.1 hi)).2.2.2
end
end Go.Proofs.Ythneebbmodkjiaa
