/- Part of a proof over the seat Ythneebbmodkjiaa: module F2. Its claim's last module says what is proved. -/
import Derived.Test.YthneebbmodkjiaaF1
namespace Go.Proofs.Ythneebbmodkjiaa
open Go.Proofs Go.RowKit

theorem flat_map {α : Type} {f : Nat → List Value} {g : Nat → α} (k : α → Value) : ∀ (len : Nat), (∀ i, i < len → f i = [k (g i)]) → (List.range len).flatMap f = ((List.range len).map g).map k := by
  intro len
  induction len with
  | zero => intro _; rfl
  | succ n ih =>
    intro h
    rw [List.range_succ, List.flatMap_append, ih (fun i hi => h i (by omega)), List.map_append, List.map_append]
    simp [h n (by omega)]
theorem flat_flat {α : Type} {f : Nat → List Value} {g : Nat → α} (k : α → List Value) : ∀ (len : Nat), (∀ i, i < len → f i = k (g i)) → (List.range len).flatMap f = ((List.range len).map g).flatMap k := by
  intro len
  induction len with
  | zero => intro _; rfl
  | succ n ih =>
    intro h
    rw [List.range_succ, List.flatMap_append, ih (fun i hi => h i (by omega)), List.map_append, List.flatMap_append]
    simp [h n (by omega)]

section
variable {H : Type} {enc : TypeId × Value → H} {W : World} {sp : Nat → Bool} {held : Bool}
abbrev OldW (W : World) : HP := Old W W.heap.size
/-- Bytes that are read. -/
theorem read_bytes {fuel : Nat} {v : Value} {y : DataW H × List MemPlace} (h : DataW.trod enc Try.prog W 0 sp held fuel 30 [v] = some y) :
    ∃ x : BS, v = sv x ∧ x.2.2.length ≤ x.2.1 ∧ x.2.1 ≤ maxLen ∧ Reads (OldW W) 1 x.1 x.2.2.length (x.2.2.map bv) := by
  obtain ⟨a, len, cap, f, hv, hl, hm, hfl, hel, R⟩ := open_sl Try.underlying30 (by kernel_rfl : Try.prog.cellsOf 5 = 1) (by decide) h
  have key : ∀ i, ∃ b : UInt8, i < len → f i = [bv b] := by
    intro i
    by_cases hi : i < len
    · obtain ⟨n, y', hy⟩ := hel i hi
      obtain ⟨z, hz, _, hw⟩ := DataW.trod_int Try.underlying5 hy
      refine ⟨UInt8.ofNat z.toNat, fun _ => ?_⟩
      rw [hz]
      simp only [Lit.wf, IntKind.min, IntKind.max, IntKind.signed, IntKind.bits, Bool.and_eq_true] at hw
      simp at hw
      simp [bv]; omega
    · exact ⟨0, fun h => absurd h hi⟩
  obtain ⟨g, hg⟩ := Classical.skolem.1 key
  refine ⟨(a, cap, (List.range len).map g), ?_, ?_, hm, ?_⟩
  · simp only [List.cons.injEq, and_true] at hv
    rw [hv]; simp
  · simpa using hl
  · rw [flat_map bv len (fun i hi => hg i hi)] at R
    simpa using R
/-- Numbers that are read. -/
theorem read_nums {fuel : Nat} {v : Value} {y : DataW H × List MemPlace} (h : DataW.trod enc Try.prog W 0 sp held fuel 34 [v] = some y) :
    ∃ (a : Option Addr) (cap : Nat) (ps : List Int), v = .slice a ps.length cap ∧ ps.length ≤ cap ∧ cap ≤ maxLen ∧ (∀ p ∈ ps, -9223372036854775808 ≤ p ∧ p ≤ 9223372036854775807) ∧ Reads (OldW W) 1 a ps.length (ps.map iv) := by
  obtain ⟨a, len, cap, f, hv, hl, hm, hfl, hel, R⟩ := open_sl Try.underlying34 (by kernel_rfl : Try.prog.cellsOf 3 = 1) (by decide) h
  have key : ∀ i, ∃ z : Int, i < len → f i = [iv z] ∧ -9223372036854775808 ≤ z ∧ z ≤ 9223372036854775807 := by
    intro i
    by_cases hi : i < len
    · obtain ⟨n, y', hy⟩ := hel i hi
      obtain ⟨z, hz, _, hw⟩ := DataW.trod_int Try.underlying3 hy
      refine ⟨z, fun _ => ⟨hz, ?_⟩⟩
      simp only [Lit.wf, IntKind.min, IntKind.max, IntKind.signed, IntKind.bits, Bool.and_eq_true, decide_eq_true_eq] at hw
      simpa using hw
    · exact ⟨0, fun h => absurd h hi⟩
  obtain ⟨g, hg⟩ := Classical.skolem.1 key
  refine ⟨a, cap, (List.range len).map g, ?_, by simpa using hl, hm, ?_, ?_⟩
  · simp only [List.cons.injEq, and_true] at hv
    rw [hv]; simp
  · intro p hp
    obtain ⟨i, hi, rfl⟩ := List.mem_map.1 hp
    exact (hg i (List.mem_range.1 hi)).2
  · rw [flat_map iv len (fun i hi => (hg i hi).1)] at R
    simpa using R
/-- Rows of bytes that are read. -/
theorem read_cells {fuel : Nat} {v : Value} {y : DataW H × List MemPlace} (h : DataW.trod enc Try.prog W 0 sp held fuel 22 [v] = some y) :
    ∃ (a : Option Addr) (cap : Nat) (q : List BS), v = .slice a q.length cap ∧ q.length ≤ cap ∧ cap ≤ maxLen ∧ (∀ x ∈ q, x.2.2.length ≤ x.2.1 ∧ x.2.1 ≤ maxLen) ∧ RdC (OldW W) a q := by
  obtain ⟨a, len, cap, f, hv, hl, hm, hfl, hel, R⟩ := open_sl Try.underlying22 (by kernel_rfl : Try.prog.cellsOf 30 = 1) (by decide) h
  have key : ∀ i, ∃ x : BS, i < len → f i = [sv x] ∧ x.2.2.length ≤ x.2.1 ∧ x.2.1 ≤ maxLen ∧ Reads (OldW W) 1 x.1 x.2.2.length (x.2.2.map bv) := by
    intro i
    by_cases hi : i < len
    · obtain ⟨n, y', hy⟩ := hel i hi
      obtain ⟨u, hu⟩ := List.length_eq_one_iff.1 (hfl i)
      rw [hu] at hy
      obtain ⟨x, rfl, h1, h2, h3⟩ := read_bytes hy
      exact ⟨x, fun _ => ⟨hu, h1, h2, h3⟩⟩
    · exact ⟨(none, 0, []), fun h => absurd h hi⟩
  obtain ⟨g, hg⟩ := Classical.skolem.1 key
  refine ⟨a, cap, (List.range len).map g, ?_, by simpa using hl, hm, ?_, ?_, ?_⟩
  · simp only [List.cons.injEq, and_true] at hv
    rw [hv]; simp
  · intro x hx
    obtain ⟨i, hi, rfl⟩ := List.mem_map.1 hx
    have := hg i (List.mem_range.1 hi)
    exact ⟨this.2.1, this.2.2.1⟩
  · rw [flat_map sv len (fun i hi => (hg i hi).1)] at R
    simpa using R
  · intro x hx
    obtain ⟨i, hi, rfl⟩ := List.mem_map.1 hx
    exact (hg i (List.mem_range.1 hi)).2.2.2
/-- The numbers of an act. -/
structure AV.Fit (x : AV) : Prop where
  op : -9223372036854775808 ≤ x.op ∧ x.op ≤ 9223372036854775807
  n : -9223372036854775808 ≤ x.n ∧ x.n ≤ 9223372036854775807
  at' : -9223372036854775808 ≤ x.at' ∧ x.at' ≤ 9223372036854775807
  k : -9223372036854775808 ≤ x.k ∧ x.k ≤ 9223372036854775807
  b : x.b.2.2.length ≤ x.b.2.1 ∧ x.b.2.1 ≤ maxLen
  pc : x.ps.length ≤ x.pc ∧ x.pc ≤ maxLen
  ps : ∀ p ∈ x.ps, -9223372036854775808 ≤ p ∧ p ≤ 9223372036854775807
theorem wf64 {z : Int} (hw : (Lit.int .i64 z).wf = true) : -9223372036854775808 ≤ z ∧ z ≤ 9223372036854775807 := by
  simp only [Lit.wf, IntKind.min, IntKind.max, IntKind.signed, IntKind.bits, Bool.and_eq_true, decide_eq_true_eq] at hw
  simpa using hw
theorem six {l : List Value} (h : l.length = 6) : ∃ a b c d e f, l = [a, b, c, d, e, f] := by
  match l, h with
  | [a, b, c, d, e, f], _ => exact ⟨a, b, c, d, e, f, rfl⟩
theorem read_act {fuel : Nat} {cs : List Value} {y : DataW H × List MemPlace} (h : DataW.trod enc Try.prog W 0 sp held fuel 39 cs = some y) :
    ∃ x : AV, cs = x.cells ∧ x.Fit ∧ Reads (OldW W) 1 x.b.1 x.b.2.2.length (x.b.2.2.map bv) ∧ Reads (OldW W) 1 x.pa x.ps.length (x.ps.map iv) := by
  obtain ⟨xs, n, _, _, hcl, hxl, hf⟩ := DataW.trod_struct Try.underlying39 h
  have h6 : cs.length = 6 := hcl.trans (by kernel_rfl)
  obtain ⟨c0, c1, c2, c3, c4, c5, rfl⟩ := six h6
  have c3' : Try.prog.cellsOf 3 = 1 := by kernel_rfl
  have c30 : Try.prog.cellsOf 30 = 1 := by kernel_rfl
  have c34 : Try.prog.cellsOf 34 = 1 := by kernel_rfl
  have hx : xs.length = 6 := hxl
  have g : ∀ i, i < 6 → ∃ y, xs[i]? = some y := fun i hi => ⟨xs[i]'(by omega), by simp [hx, hi]⟩
  have e0 := hf 0 _ rfl
  have e1 := hf 1 _ rfl
  have e2 := hf 2 _ rfl
  have e3 := hf 3 _ rfl
  have e4 := hf 4 _ rfl
  have e5 := hf 5 _ rfl
  obtain ⟨y0, h0⟩ := g 0 (by decide)
  obtain ⟨y1, h1⟩ := g 1 (by decide)
  obtain ⟨y2, h2⟩ := g 2 (by decide)
  obtain ⟨y3, h3⟩ := g 3 (by decide)
  obtain ⟨y4, h4⟩ := g 4 (by decide)
  obtain ⟨y5, h5⟩ := g 5 (by decide)
  rw [h0] at e0; rw [h1] at e1; rw [h2] at e2; rw [h3] at e3; rw [h4] at e4; rw [h5] at e5
  replace e0 : DataW.trod enc Try.prog W 0 sp held n 3 (List.take (Try.prog.cellsOf 3) [c0, c1, c2, c3, c4, c5]) = some y0 := e0
  replace e1 : DataW.trod enc Try.prog W 0 sp held n 3 (List.take (Try.prog.cellsOf 3) [c1, c2, c3, c4, c5]) = some y1 := e1
  replace e2 : DataW.trod enc Try.prog W 0 sp held n 3 (List.take (Try.prog.cellsOf 3) [c2, c3, c4, c5]) = some y2 := e2
  replace e3 : DataW.trod enc Try.prog W 0 sp held n 3 (List.take (Try.prog.cellsOf 3) [c3, c4, c5]) = some y3 := e3
  replace e4 : DataW.trod enc Try.prog W 0 sp held n 30 (List.take (Try.prog.cellsOf 30) [c4, c5]) = some y4 := e4
  replace e5 : DataW.trod enc Try.prog W 0 sp held n 34 (List.take (Try.prog.cellsOf 34) [c5]) = some y5 := e5
  rw [c3', List.take_succ_cons, List.take_zero] at e0 e1 e2 e3
  rw [c30, List.take_succ_cons, List.take_zero] at e4
  rw [c34, List.take_succ_cons, List.take_zero] at e5
  obtain ⟨z0, p0, _, w0⟩ := DataW.trod_int Try.underlying3 e0
  obtain ⟨z1, p1, _, w1⟩ := DataW.trod_int Try.underlying3 e1
  obtain ⟨z2, p2, _, w2⟩ := DataW.trod_int Try.underlying3 e2
  obtain ⟨z3, p3, _, w3⟩ := DataW.trod_int Try.underlying3 e3
  obtain ⟨b, rfl, b1, b2, b3⟩ := read_bytes e4
  obtain ⟨pa, pc, ps, rfl, q1, q2, q3, q4⟩ := read_nums e5
  simp only [List.cons.injEq, and_true] at p0 p1 p2 p3
  subst p0 p1 p2 p3
  exact ⟨⟨z0, z1, z2, z3, b, pa, pc, ps⟩, rfl, ⟨wf64 w0, wf64 w1, wf64 w2, wf64 w3, ⟨b1, b2⟩, ⟨q1, q2⟩, q3⟩, b3, q4⟩
theorem read_acts {fuel : Nat} {v : Value} {y : DataW H × List MemPlace} (h : DataW.trod enc Try.prog W 0 sp held fuel 23 [v] = some y) :
    ∃ (a : Option Addr) (cap : Nat) (l : List AV), v = .slice a l.length cap ∧ l.length ≤ cap ∧ cap ≤ maxLen ∧ (∀ x ∈ l, x.Fit) ∧ RdS (OldW W) a l := by
  obtain ⟨a, len, cap, f, hv, hl, hm, hfl, hel, R⟩ := open_sl Try.underlying23 (by kernel_rfl : Try.prog.cellsOf 39 = 6) (by decide) h
  have key : ∀ i, ∃ x : AV, i < len → f i = x.cells ∧ x.Fit ∧ Reads (OldW W) 1 x.b.1 x.b.2.2.length (x.b.2.2.map bv) ∧ Reads (OldW W) 1 x.pa x.ps.length (x.ps.map iv) := by
    intro i
    by_cases hi : i < len
    · obtain ⟨n, y', hy⟩ := hel i hi
      obtain ⟨x, h1⟩ := read_act hy
      exact ⟨x, fun _ => h1⟩
    · exact ⟨⟨0, 0, 0, 0, (none, 0, []), none, 0, []⟩, fun h => absurd h hi⟩
  obtain ⟨g, hg⟩ := Classical.skolem.1 key
  refine ⟨a, cap, (List.range len).map g, ?_, by simpa using hl, hm, ?_, ?_, ?_⟩
  · simp only [List.cons.injEq, and_true] at hv
    rw [hv]; simp
  · intro x hx
    obtain ⟨i, hi, rfl⟩ := List.mem_map.1 hx
    exact (hg i (List.mem_range.1 hi)).2.1
  · rw [flat_flat AV.cells len (fun i hi => (hg i hi).1)] at R
    simpa using R
  · intro x hx
    obtain ⟨i, hi, rfl⟩ := List.mem_map.1 hx
    exact (hg i (List.mem_range.1 hi)).2.2
end
end Go.Proofs.Ythneebbmodkjiaa
