/- Part of a proof over the seat Ythneebbmodkjiaa: module R1. Its claim's last module says what is proved. -/
import Derived.Test.YthneebbmodkjiaaD13
namespace Go.Proofs.Ythneebbmodkjiaa
open Go.Proofs

/-! ### The document's disk as it lies: the same plain disk -/
def hdr (x : FX) : Value := .slice x.ca x.chg.length x.cc
structure RQ where
  la : Option Addr
  lc : Nat
  sa : Option Addr
  sc : Nat
  na : Option Addr
  nc : Nat
  left : Int
  bad : Int
  armed : Bool
  hurt : Bool
  fs : List FX
abbrev RQ.cells (q : RQ) (off : Bool) : List Value := [.slice q.la q.fs.length q.lc, .slice q.sa q.fs.length q.sc, .slice q.na q.fs.length q.nc, .int .i64 q.left, .int .i64 q.bad, .bool q.armed, .bool off, .bool q.hurt]
/-- The document's flags beside the program's: when the power is off they do not matter. -/
def RFl (off : Bool) (uo ub : Nat) (left bad : Int) (armed hurt : Bool) : Prop :=
  uo ≤ 9223372036854775807 ∧ ub ≤ 9223372036854775807 ∧ (off = true ∨ ((armed = true ↔ 0 < uo) ∧ (0 < uo → left = uo) ∧ (hurt = true ↔ 0 < ub) ∧ (0 < ub → bad = ub)))
structure RQ.Ok (q : RQ) (d : Dk) : Prop where
  fs : fabs q.fs = d.fs
  len : q.fs.length = 8
  fl : RFl d.off d.uo d.ub q.left q.bad q.armed q.hurt
abbrev nowsV (fs : List FX) : List Value := fs.map fun x => sv x.now
abbrev safesV (fs : List FX) : List Value := fs.map fun x => sv x.safe
abbrev hdrsV (fs : List FX) : List Value := fs.map hdr
abbrev RRest (q : RQ) : List HP := [Sl 1 q.la q.fs.length q.lc (nowsV q.fs), Sl 1 q.sa q.fs.length q.sc (safesV q.fs), Sl 1 q.na q.fs.length q.nc (hdrsV q.fs), PC q.fs]
def DiskR (b : Nat) (d : Dk) : HP := Any fun q : RQ => Fact (q.Ok d) (Sep (Row b 0 (q.cells d.off) :: RRest q))
theorem St.diskR {E : Env} {b : Nat} {d : Dk} {Γ : List HP} {w : World} (s : St E (DiskR b d :: Γ) w) : ∃ q : { q : RQ // q.Ok d }, St E (Row b 0 (q.1.cells d.off) :: Sl 1 q.1.la q.1.fs.length q.1.lc (nowsV q.1.fs) :: Sl 1 q.1.sa q.1.fs.length q.1.sc (safesV q.1.fs) :: Sl 1 q.1.na q.1.fs.length q.1.nc (hdrsV q.1.fs) :: PC q.1.fs :: Γ) w := by
  obtain ⟨q, s⟩ := s.ex
  obtain ⟨h, s⟩ := s.fact
  exact ⟨⟨q, h⟩, (Ent.sep_out [_, _, _, _, _] Γ).st s⟩
theorem Ent.diskR {b : Nat} {d : Dk} (q : RQ) (h : q.Ok d) (Γ : List HP) : Ent (Row b 0 (q.cells d.off) :: Sl 1 q.la q.fs.length q.lc (nowsV q.fs) :: Sl 1 q.sa q.fs.length q.sc (safesV q.fs) :: Sl 1 q.na q.fs.length q.nc (hdrsV q.fs) :: PC q.fs :: Γ) (DiskR b d :: Γ) := by
  refine (Ent.sep_in [_, _, _, _, _] Γ).trans ?_
  exact (Ent.fact h Γ).trans (Ent.ex (A := fun q : RQ => Fact (q.Ok d) (Sep (Row b 0 (q.cells d.off) :: RRest q))) q Γ)
/-- A file changed. -/
theorem Ent.diskR_set {b : Nat} {d d' : Dk} (q : RQ) {i : Nat} (hi : i < q.fs.length) (y : FX) {left bad : Int} {armed hurt : Bool} (h : q.Ok d) (hd : d'.fs = d.fs.set i y.abs) (hf : RFl d'.off d'.uo d'.ub left bad armed hurt) (Γ : List HP) :
    Ent (Row b 0 [.slice q.la q.fs.length q.lc, .slice q.sa q.fs.length q.sc, .slice q.na q.fs.length q.nc, .int .i64 left, .int .i64 bad, .bool armed, .bool d'.off, .bool hurt] ::
      Sl 1 q.la q.fs.length q.lc ((nowsV q.fs).set i (sv y.now)) :: Sl 1 q.sa q.fs.length q.sc ((safesV q.fs).set i (sv y.safe)) :: Sl 1 q.na q.fs.length q.nc ((hdrsV q.fs).set i (hdr y)) :: FileC y :: Hole (fun _ x => FileC x) q.fs i :: Γ) (DiskR b d' :: Γ) := by
  have e1 : (nowsV q.fs).set i (sv y.now) = nowsV (q.fs.set i y) := by simp [nowsV, List.map_set]
  have e2 : (safesV q.fs).set i (sv y.safe) = safesV (q.fs.set i y) := by simp [safesV, List.map_set]
  have e3 : (hdrsV q.fs).set i (hdr y) = hdrsV (q.fs.set i y) := by simp [hdrsV, List.map_set]
  have el : q.fs.length = (q.fs.set i y).length := by simp
  rw [e1, e2, e3]
  refine (((((Ent.unfocus (fun _ x => FileC x) q.fs i y hi Γ).cons _).cons _).cons _).cons _).trans ?_
  have := Ent.diskR (b := b) (d := d') ⟨q.la, q.lc, q.sa, q.sc, q.na, q.nc, left, bad, armed, hurt, q.fs.set i y⟩ ⟨by rw [hd]; exact fabs_set _ _ _ _ h.fs, by simpa using h.len, hf⟩ Γ
  simp only [RQ.cells, ← el] at this
  exact this
theorem RQ.Ok.get {q : RQ} {d : Dk} (h : q.Ok d) {i : Nat} (hi : i < q.fs.length) : d.file (i : Int) = q.fs[i].abs := by
  have e : d.fs.getD ((i : Nat) : Int).toNat ⟨[], [], []⟩ = (fabs q.fs).getD i ⟨[], [], []⟩ := by rw [h.fs]; rfl
  refine e.trans ?_
  simp [fabs, List.getD_eq_getElem?_getD, hi]
theorem RQ.Ok.small {q : RQ} {d : Dk} (h : q.Ok d) (hs : d.small) {i : Nat} (hi : i < q.fs.length) : q.fs[i].now.2.2.length ≤ 2 ^ 40 ∧ q.fs[i].safe.2.2.length ≤ 2 ^ 40 ∧ q.fs[i].chg.length ≤ 2 ^ 40 := by
  have h1 : q.fs[i].abs ∈ fabs q.fs := List.mem_map_of_mem (List.getElem_mem _)
  rw [h.fs] at h1
  have := hs _ h1
  simpa [FX.abs] using this
theorem set_self {α : Type} (l : List α) (i : Nat) (h : i < l.length) : l.set i l[i] = l := by
  apply List.ext_getElem?; intro j
  by_cases hj : i = j
  · subst hj; simp [h]
  · rw [List.getElem?_set_ne hj]
theorem RFl.step {off : Bool} {uo ub : Nat} {left bad : Int} {armed hurt : Bool} (h : RFl off uo ub left bad armed hurt) (fs : List Fl) : (Dk.step ⟨fs, off, uo, ub⟩).uo ≤ 9223372036854775807 ∧ (Dk.step ⟨fs, off, uo, ub⟩).ub ≤ 9223372036854775807 := by
  obtain ⟨h1, h2, _⟩ := h
  exact step_le ⟨h1, h2⟩
end Go.Proofs.Ythneebbmodkjiaa
