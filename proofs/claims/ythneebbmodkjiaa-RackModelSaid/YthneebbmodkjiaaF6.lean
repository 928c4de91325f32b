/- Part of a proof over the seat Ythneebbmodkjiaa: module F6. Its claim's last module says what is proved. -/
import Derived.Test.YthneebbmodkjiaaE15
import Derived.Test.YthneebbmodkjiaaF5
namespace Go.Proofs.Ythneebbmodkjiaa
open Go.Proofs Go.RowKit
section
variable {H : Type} {enc : TypeId × Value → H} {W : World} {sp : Nat → Bool} {held : Bool}
theorem bstr_of (s : ByteArray) : bstr s.data.toList = s := by cases s; simp [bstr]
theorem four {l : List Value} (h : l.length = 4) : ∃ a b c d, l = [a, b, c, d] := by
  match l, h with
  | [a, b, c, d], _ => exact ⟨a, b, c, d, rfl⟩
theorem read_bxZ {fuel : Nat} {cs : List Value} {y : DataW H × List MemPlace} (h : DataW.trod enc Try.prog W 0 sp held fuel 74 cs = some y) (hz : Szd Try.prog 74 y) :
    ∃ x : BX, cs = x.cells ∧ (N64 x.k ∧ N64 x.n ∧ ∀ z ∈ x.ps, N64 z) ∧ (x.s.length ≤ 2 ^ 47 ∧ x.ps.length ≤ 2 ^ 47) ∧ Reads (OldW W) 1 x.pa x.ps.length (x.ps.map iv) := by
  obtain ⟨xs, n, _, hxx, hcl, hxl, hf⟩ := DataW.trod_struct Try.underlying74 h
  rw [hxx] at hz
  have hzf : ∀ (i : Nat) (t : TypeId) (z : DataW H × List MemPlace), ([3, 3, 9, 34] : List Nat)[i]? = some t → xs[i]? = some z → Szd Try.prog t z := fun i t z ht hx m hm => hz m (by
    simp only [DataW.weights, Try.underlying74]
    exact DataW.weights_mem_each (ts := [3, 3, 9, 34]) (j := i) ht (by rw [List.getElem?_map, hx]; rfl) m hm)
  have h6 : cs.length = 4 := hcl.trans (by kernel_rfl)
  obtain ⟨c0, c1, c2, c3, rfl⟩ := four h6
  have c3' : Try.prog.cellsOf 3 = 1 := by kernel_rfl
  have c9 : Try.prog.cellsOf 9 = 1 := by kernel_rfl
  have c34 : Try.prog.cellsOf 34 = 1 := by kernel_rfl
  have hx : xs.length = 4 := hxl
  have g : ∀ i, i < 4 → ∃ y, xs[i]? = some y := fun i hi => ⟨xs[i]'(by omega), by simp [hx, hi]⟩
  have e0 := hf 0 _ rfl
  have e1 := hf 1 _ rfl
  have e2 := hf 2 _ rfl
  have e3 := hf 3 _ rfl
  obtain ⟨y0, h0⟩ := g 0 (by decide)
  obtain ⟨y1, h1⟩ := g 1 (by decide)
  obtain ⟨y2, h2⟩ := g 2 (by decide)
  obtain ⟨y3, h3⟩ := g 3 (by decide)
  rw [h0] at e0; rw [h1] at e1; rw [h2] at e2; rw [h3] at e3
  replace e0 : DataW.trod enc Try.prog W 0 sp held n 3 (List.take (Try.prog.cellsOf 3) [c0, c1, c2, c3]) = some y0 := e0
  replace e1 : DataW.trod enc Try.prog W 0 sp held n 3 (List.take (Try.prog.cellsOf 3) [c1, c2, c3]) = some y1 := e1
  replace e2 : DataW.trod enc Try.prog W 0 sp held n 9 (List.take (Try.prog.cellsOf 9) [c2, c3]) = some y2 := e2
  replace e3 : DataW.trod enc Try.prog W 0 sp held n 34 (List.take (Try.prog.cellsOf 34) [c3]) = some y3 := e3
  rw [c3', List.take_succ_cons, List.take_zero] at e0 e1
  rw [c9, List.take_succ_cons, List.take_zero] at e2
  rw [c34, List.take_succ_cons, List.take_zero] at e3
  obtain ⟨z0, p0, _, w0⟩ := DataW.trod_int Try.underlying3 e0
  obtain ⟨z1, p1, _, w1⟩ := DataW.trod_int Try.underlying3 e1
  obtain ⟨s, p2, hs, hsm⟩ := DataW.trod_string Try.underlying9 e2
  obtain ⟨pa, pc, ps, rfl, q1, q2, q5, q3, q4⟩ := read_numsZ e3 (hzf 3 34 y3 rfl h3)
  have hsz : s.data.toList.length ≤ 2 ^ 47 := by
    have := hzf 2 9 y2 rfl h2 s.data.toList.length (by rw [hs]; simp [DataW.weights])
    unfold reachBytes at this
    omega
  simp only [List.cons.injEq, and_true] at p0 p1 p2
  subst p0 p1 p2
  refine ⟨⟨z0, z1, s.data.toList, pa, pc, ps⟩, by unfold BX.cells tv; rw [bstr_of], ⟨wf64 w0, wf64 w1, q3⟩, ⟨hsz, q5⟩, q4⟩
theorem read_bxsZ {fuel : Nat} {v : Value} {y : DataW H × List MemPlace} (h : DataW.trod enc Try.prog W 0 sp held fuel 64 [v] = some y) (hz : Szd Try.prog 64 y) :
    ∃ (a : Option Addr) (cap : Nat) (l : List BX), v = .slice a l.length cap ∧ l.length ≤ cap ∧ cap ≤ maxLen ∧ l.length ≤ 2 ^ 47 ∧ (∀ x ∈ l, (N64 x.k ∧ N64 x.n ∧ ∀ z ∈ x.ps, N64 z) ∧ x.s.length ≤ 2 ^ 47 ∧ x.ps.length ≤ 2 ^ 47) ∧ RdB (OldW W) a l := by
  obtain ⟨a, len, cap, f, hv, hl, hm, hzz, hfl, hel, R⟩ := open_slZ Try.underlying64 (by kernel_rfl : Try.prog.cellsOf 74 = 4) (by decide) h hz
  rw [(by kernel_rfl : Try.prog.bytesOf 74 = 56)] at hzz
  have key : ∀ i, ∃ x : BX, i < len → f i = x.cells ∧ (N64 x.k ∧ N64 x.n ∧ ∀ z ∈ x.ps, N64 z) ∧ (x.s.length ≤ 2 ^ 47 ∧ x.ps.length ≤ 2 ^ 47) ∧ Reads (OldW W) 1 x.pa x.ps.length (x.ps.map iv) := by
    intro i
    by_cases hi : i < len
    · obtain ⟨n, y', hy, hyz⟩ := hel i hi
      obtain ⟨x, h1⟩ := read_bxZ hy hyz
      exact ⟨x, fun _ => h1⟩
    · exact ⟨⟨0, 0, [], none, 0, []⟩, fun h => absurd h hi⟩
  obtain ⟨g, hg⟩ := Classical.skolem.1 key
  refine ⟨a, cap, (List.range len).map g, ?_, by simpa using hl, hm, by simp [reachBytes] at hzz ⊢; omega, ?_, ?_, ?_⟩
  · simp only [List.cons.injEq, and_true] at hv
    rw [hv]; simp
  · intro x hx
    obtain ⟨i, hi, rfl⟩ := List.mem_map.1 hx
    exact ⟨(hg i (List.mem_range.1 hi)).2.1, (hg i (List.mem_range.1 hi)).2.2.1⟩
  · rw [flat_flat BX.cells len (fun i hi => (hg i hi).1)] at R
    simpa using R
  · intro x hx
    obtain ⟨i, hi, rfl⟩ := List.mem_map.1 hx
    exact (hg i (List.mem_range.1 hi)).2.2.2
end
end Go.Proofs.Ythneebbmodkjiaa
