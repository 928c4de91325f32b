/- Part of a proof over the seat Ythneebbmodkjiaa: module D5. Its claim's last module says what is proved. -/
import Derived.Test.YthneebbmodkjiaaD4
namespace Go.Proofs.Ythneebbmodkjiaa
open Go.Proofs

def Dk.file (d : Dk) (f : Int) : Fl := d.fs.getD f.toNat ⟨[], [], []⟩
/-- How the files of a disk may lie. -/
abbrev LX (d : Dk) : Type := { fs : List FX // fabs fs = d.fs ∧ fs.length = 8 ∧ d.uo ≤ 9223372036854775807 ∧ d.ub ≤ 9223372036854775807 }
theorem St.disk {E : Env} {b : Nat} {d : Dk} {Γ : List HP} {w : World} (s : St E (DiskI b d :: Γ) w) : ∃ fs : LX d, St E (Flags b d.off d.uo d.ub :: FilesX b fs.1 :: Γ) w := by
  obtain ⟨fs, s⟩ := s.ex
  obtain ⟨h, s⟩ := s.fact
  exact ⟨⟨fs, h⟩, (Ent.sep_out [_, _] Γ).st s⟩
theorem Ent.disk' {b : Nat} {d : Dk} (fs : List FX) (h : fabs fs = d.fs ∧ fs.length = 8 ∧ d.uo ≤ 9223372036854775807 ∧ d.ub ≤ 9223372036854775807) (Γ : List HP) : Ent (Flags b d.off d.uo d.ub :: FilesX b fs :: Γ) (DiskI b d :: Γ) := by
  refine (Ent.sep_in [_, _] Γ).trans ?_
  exact (Ent.fact h Γ).trans (Ent.ex (A := fun fs : List FX => Fact (fabs fs = d.fs ∧ fs.length = 8 ∧ d.uo ≤ 9223372036854775807 ∧ d.ub ≤ 9223372036854775807) (Sep [Flags b d.off d.uo d.ub, FilesX b fs])) fs Γ)
theorem Ent.disk {b : Nat} {d : Dk} (fs : LX d) (Γ : List HP) : Ent (Flags b d.off d.uo d.ub :: FilesX b fs.1 :: Γ) (DiskI b d :: Γ) := Ent.disk' fs.1 fs.2 Γ
/-- Flags changed. -/
theorem Ent.diskF {b : Nat} {d : Dk} (fs : LX d) {o : Bool} {u v : Nat} (hu : u ≤ 9223372036854775807) (hv : v ≤ 9223372036854775807) (Γ : List HP) : Ent (Flags b o u v :: FilesX b fs.1 :: Γ) (DiskI b ⟨d.fs, o, u, v⟩ :: Γ) :=
  Ent.disk' (d := ⟨d.fs, o, u, v⟩) fs.1 ⟨fs.2.1, fs.2.2.1, hu, hv⟩ Γ

theorem asks_nz {d : Dk} {f : Int} (h : d.asks f = 0) : d.off = false ∧ ∃ i : Nat, f = i ∧ i < 8 := by
  unfold Dk.asks at h
  split at h
  · cases h
  · split at h
    · cases h
    · rename_i h1 h2
      exact ⟨by simpa using h1, f.toNat, by omega, by omega⟩
theorem counts_nz {d : Dk} {f : Int} (h : d.counts f = 0) : d.off = false ∧ ∃ i : Nat, f = i ∧ i < 8 := by
  unfold Dk.counts at h
  split at h
  · cases h
  · split at h
    · cases h
    · split at h
      · cases h
      · split at h
        · cases h
        · rename_i h1 _ _ h2
          exact ⟨by simpa using h1, f.toNat, by omega, by omega⟩
theorem asks_flags (d : Dk) (f : Int) : Dk.asks ⟨[], d.off, d.uo, d.ub⟩ f = d.asks f := rfl
theorem counts_flags (d : Dk) (f : Int) : Dk.counts ⟨[], d.off, d.uo, d.ub⟩ f = d.counts f := rfl
theorem step_flags (d : Dk) : (Dk.step ⟨[], d.off, d.uo, d.ub⟩).off = d.step.off ∧ (Dk.step ⟨[], d.off, d.uo, d.ub⟩).uo = d.step.uo ∧ (Dk.step ⟨[], d.off, d.uo, d.ub⟩).ub = d.step.ub ∧ d.step.fs = d.fs := by
  unfold Dk.step
  cases h : d.off <;> simp [h]
theorem step_le {d : Dk} (h : d.uo ≤ 9223372036854775807 ∧ d.ub ≤ 9223372036854775807) : d.step.uo ≤ 9223372036854775807 ∧ d.step.ub ≤ 9223372036854775807 := by
  unfold Dk.step
  cases d.off <;> simp <;> omega
theorem LX.len {d : Dk} (fs : LX d) {i : Nat} (h : i < 8) : i < fs.1.length := by rw [fs.2.2.1]; exact h
theorem LX.get {d : Dk} (fs : LX d) {i : Nat} (h : i < 8) : d.file (i : Int) = (fs.1[i]'(fs.len h)).abs := by
  have e : d.fs.getD ((i : Nat) : Int).toNat ⟨[], [], []⟩ = (fabs fs.1).getD i ⟨[], [], []⟩ := by rw [fs.2.1]; rfl
  refine e.trans ?_
  simp [fabs, List.getD_eq_getElem?_getD, fs.len h]
theorem fabs_set (fs : List FX) (gs : List Fl) (i : Nat) (y : FX) (h : fabs fs = gs) : fabs (fs.set i y) = gs.set i y.abs := by
  subst h; simp [fabs, List.map_set]
theorem fabs_same (fs : List FX) (gs : List Fl) (i : Nat) (hi : i < fs.length) (h : fabs fs = gs) : gs.set i (fs[i].abs) = gs := by
  subst h
  exact List.ext_getElem? fun j => by
    by_cases hj : i = j
    · subst hj; simp [fabs, hi]
    · rw [List.getElem?_set_ne hj]
/-- Kept out of sight. -/
def Hid (A : HP) : HP := A
theorem Ent.open {b : Nat} {d : Dk} (fs : LX d) {i : Nat} (h : i < 8) (F : HP) (Γ : List HP) : Ent (F :: FilesX b fs.1 :: Γ)
    (Row b (i * 3) (fs.1[i]'(fs.len h)).cells :: sp (fs.1[i]'(fs.len h)).safe :: sp (fs.1[i]'(fs.len h)).now :: Sl 3 (fs.1[i]'(fs.len h)).ca (fs.1[i]'(fs.len h)).chg.length (fs.1[i]'(fs.len h)).cc ((fs.1[i]'(fs.len h)).chg.flatMap CX.cells) :: Inn ((fs.1[i]'(fs.len h)).chg.map CX.s) :: Hole (FileI b) fs.1 i :: Hid F :: Γ) := by
  refine (Ent.perm (.swap _ _ _)).trans ?_
  refine (Ent.focus (FileI b) fs.1 i (fs.len h) _).trans ?_
  exact Ent.file_out b i _ _
theorem Ent.close {b : Nat} {d : Dk} (fs : LX d) {i : Nat} (h : i < 8) (y : FX) {o : Bool} {u v : Nat} (hu : u ≤ 9223372036854775807) (hv : v ≤ 9223372036854775807) (Γ : List HP) :
    Ent (Row b (i * 3) y.cells :: sp y.safe :: sp y.now :: Sl 3 y.ca y.chg.length y.cc (y.chg.flatMap CX.cells) :: Inn (y.chg.map CX.s) :: Hole (FileI b) fs.1 i :: Hid (Flags b o u v) :: Γ) (DiskI b ⟨d.fs.set i y.abs, o, u, v⟩ :: Γ) := by
  refine (Ent.file_in b i y _).trans ((Ent.unfocus (FileI b) fs.1 i y (fs.len h) _).trans ((Ent.perm (.swap _ _ _)).trans ?_))
  refine Ent.disk' (d := ⟨d.fs.set i y.abs, o, u, v⟩) (fs.1.set i y) ⟨?_, by simp [fs.2.2.1], hu, hv⟩ Γ
  exact fabs_set _ _ _ _ fs.2.1
/-- Shut as it was. -/
theorem Ent.shut {b : Nat} {d : Dk} (fs : LX d) {i : Nat} (h : i < 8) {o : Bool} {u v : Nat} (hu : u ≤ 9223372036854775807) (hv : v ≤ 9223372036854775807) (Γ : List HP) :
    Ent (Row b (i * 3) (fs.1[i]'(fs.len h)).cells :: sp (fs.1[i]'(fs.len h)).safe :: sp (fs.1[i]'(fs.len h)).now :: Sl 3 (fs.1[i]'(fs.len h)).ca (fs.1[i]'(fs.len h)).chg.length (fs.1[i]'(fs.len h)).cc ((fs.1[i]'(fs.len h)).chg.flatMap CX.cells) :: Inn ((fs.1[i]'(fs.len h)).chg.map CX.s) :: Hole (FileI b) fs.1 i :: Hid (Flags b o u v) :: Γ) (DiskI b ⟨d.fs, o, u, v⟩ :: Γ) := by
  refine (Ent.close fs h (fs.1[i]'(fs.len h)) hu hv Γ).trans ?_
  have e := fabs_same fs.1 d.fs i (fs.len h) fs.2.1
  rw [e]; exact .refl _

def Dk.size (d : Dk) (f : Int) : Int × Int := if d.asks f = 0 then ((d.file f).now.length, 0) else (0, d.asks f)
theorem size_spec (b : Nat) (d : Dk) (f : Int) : Spec Try.prog 37 [dp b, .int .i64 f] [DiskI b d] (fun v B => v = .tuple #[.int .i64 (d.size f).1, .int .i64 (d.size f).2] ∧ B = [DiskI b d]) := by
  refine Spec.of_ex Try.func37 rfl Try.ntmps37 rfl fun E cs Γ => ?_
  (simp only [argRho, Nat.reduceAdd, List.cons_append, List.nil_append])
  refine x_open (fun E w s => s.disk) fun fs => ?_
  (refine x_seq (x_region ?_); refine r_op (o_assign rfl rfl ?_); refine r_op (o_assign rfl rfl ?_); refine r_nil ?_; refine x_seq ?_; refine x_seq (x_region ?_); refine r_op (o_move rfl rfl ?_); refine r_op (o_move rfl rfl ?_))
  (refine r_op ?_)
  refine o_call rfl (asks_spec b d.off d.uo d.ub f) rfl ?_
  rintro v B ⟨rfl, rfl⟩
  (simp only [List.cons_append, List.nil_append])
  rw [asks_flags]
  by_cases h : d.asks f = 0
  · obtain ⟨h0, i, rfl, hi⟩ := asks_nz h
    rw [h]
    (refine r_op (o_assign rfl rfl ?_); refine r_nil ?_; refine x_seq (x_region ?_); refine r_op (o_move rfl rfl ?_); refine r_op (o_neq_f rfl rfl (by omega) rfl ?_); refine r_nil ?_; refine x_false rfl ?_; refine x_skip ?_; refine x_seq (x_region ?_); refine r_op (o_move rfl rfl ?_); refine r_op (o_move rfl rfl ?_); refine r_op (o_nilCheck rfl rfl ?_); refine r_op (o_fieldAddr rfl rfl ?_))
    refine r_mem (Ent.open fs hi _ Γ) ?_
    have hg := fs.get hi
    obtain ⟨x, hx⟩ : ∃ x, (fs.1[i]'(fs.len hi)) = x := ⟨_, rfl⟩
    (refine r_op ?_)
    refine o_indexA rfl rfl (j := i) rfl hi rfl ?_
    (refine r_op (o_fieldAddr rfl rfl ?_))
    (refine r_op ?_)
    refine o_loadI (i := 2) rfl (by omega) rfl rfl ?_
    (refine r_op (o_lenS rfl rfl ?_); refine r_op (o_assign rfl rfl ?_); refine r_op (o_assign rfl rfl ?_); refine r_nil ?_)
    refine x_ret rfl [DiskI b d] ⟨?_, rfl⟩ ?_
    · simp [retV, Dk.size, h, hg, FX.abs]
    · exact (Ent.shut fs hi fs.2.2.2.1 fs.2.2.2.2 Γ).trans Sub.h
  · (refine r_op (o_assign rfl rfl ?_); refine r_nil ?_; refine x_seq (x_region ?_); refine r_op (o_move rfl rfl ?_); refine r_op (o_neq_t rfl rfl (by omega) rfl ?_); refine r_nil ?_; refine x_true rfl ?_; refine x_seq (x_region ?_); refine r_op (o_move rfl rfl ?_); refine r_op (o_assign rfl rfl ?_); refine r_op (o_assign rfl rfl ?_); refine r_nil ?_)
    refine x_ret rfl [DiskI b d] ⟨by simp [retV, Dk.size, h], rfl⟩ ((Ent.disk fs Γ).trans Sub.h)

def Dk.read (d : Dk) (f at' n : Int) : List UInt8 × Int :=
  if d.asks f ≠ 0 then ([], d.asks f) else if at' < 0 ∨ ((d.file f).now.length : Int) < at' ∨ n < 0 ∨ ((d.file f).now.length : Int) - at' < n then ([], 1) else (((d.file f).now.drop at'.toNat).take n.toNat, 0)
theorem read_spec (b : Nat) (d : Dk) (f at' n : Int) (hm : ∀ x ∈ d.fs, x.now.length ≤ 2 ^ 45) : Spec Try.prog 42 [dp b, .int .i64 f, .int .i64 at', .int .i64 n] [DiskI b d]
    (fun v B => ∃ a c, v = .tuple #[.slice a (d.read f at' n).1.length c, .int .i64 (d.read f at' n).2] ∧ B = [DiskI b d, Sl 1 a (d.read f at' n).1.length c ((d.read f at' n).1.map bv)]) := by
  refine Spec.of_ex Try.func42 rfl Try.ntmps42 rfl fun E cs Γ => ?_
  (simp only [argRho, Nat.reduceAdd, List.cons_append, List.nil_append])
  refine x_open (fun E w s => s.disk) fun fs => ?_
  (refine x_seq (x_region ?_); refine r_op (o_assign rfl rfl ?_); refine r_op (o_assign rfl rfl ?_); refine r_nil ?_; refine x_seq ?_; refine x_seq (x_region ?_); refine r_op (o_move rfl rfl ?_); refine r_op (o_move rfl rfl ?_))
  (refine r_op ?_)
  refine o_call rfl (asks_spec b d.off d.uo d.ub f) rfl ?_
  rintro v B ⟨rfl, rfl⟩
  (simp only [List.cons_append, List.nil_append])
  rw [asks_flags]
  by_cases h : d.asks f = 0
  · obtain ⟨h0, i, rfl, hi⟩ := asks_nz h
    rw [h]
    (refine r_op (o_assign rfl rfl ?_); refine r_nil ?_; refine x_seq (x_region ?_); refine r_op (o_move rfl rfl ?_); refine r_op (o_neq_f rfl rfl (by omega) rfl ?_); refine r_nil ?_; refine x_false rfl ?_; refine x_skip ?_; refine x_seq (x_region ?_); refine r_op (o_move rfl rfl ?_); refine r_op (o_move rfl rfl ?_); refine r_op (o_nilCheck rfl rfl ?_); refine r_op (o_fieldAddr rfl rfl ?_))
    refine r_mem (Ent.open fs hi _ Γ) ?_
    have hg := fs.get hi
    obtain ⟨x, hx⟩ : ∃ x, (fs.1[i]'(fs.len hi)) = x := ⟨_, rfl⟩
    have hnow : (d.file i).now = x.now.2.2 := by rw [hg, hx]; rfl
    have hlen : x.now.2.2.length ≤ 2 ^ 45 := by
      have h1 : (fs.1[i]'(fs.len hi)).abs ∈ fabs fs.1 := List.mem_map_of_mem (List.getElem_mem _)
      rw [fs.2.1] at h1
      have := hm _ h1
      rw [hx] at this; exact this
    have hshut := Ent.shut (b := b) (o := d.off) fs hi fs.2.2.2.1 fs.2.2.2.2 Γ
    rw [hx] at hshut ⊢
    (refine r_op ?_)
    refine o_indexA rfl rfl (j := i) rfl hi rfl ?_
    (refine r_op (o_fieldAddr rfl rfl ?_))
    (refine r_op ?_)
    refine o_loadI (i := 2) rfl (by omega) rfl rfl ?_
    (refine r_op (o_assign rfl rfl ?_); refine r_nil ?_; refine x_seq ?_; refine x_seq (x_region ?_); refine r_op (o_move rfl rfl ?_))
    have hbad : at' < 0 ∨ (x.now.2.2.length : Int) < at' ∨ n < 0 ∨ (x.now.2.2.length : Int) - at' < n → ∃ a c, retV [.slice none 0 0, .int .i64 1] = .tuple #[.slice a (d.read i at' n).1.length c, .int .i64 (d.read i at' n).2] ∧ [DiskI b d, Sl 1 none 0 0 []] = [DiskI b d, Sl 1 a (d.read i at' n).1.length c ((d.read i at' n).1.map bv)] := by
      intro hb
      have e : d.read i at' n = ([], 1) := by unfold Dk.read; rw [if_neg (by simpa using h), if_pos (by rw [hnow]; exact hb)]
      rw [e]; exact ⟨none, 0, rfl, rfl⟩
    by_cases h1 : at' < 0
    · (refine r_op (o_lss_t rfl rfl (by omega) rfl ?_); refine r_op (o_move rfl rfl ?_); refine r_skip rfl rfl rfl ?_; refine r_skip rfl rfl rfl ?_; refine r_skip rfl rfl rfl ?_; refine r_skip rfl rfl rfl ?_; refine r_op (o_pick_t rfl rfl rfl ?_); refine r_op (o_move rfl rfl ?_); refine r_skip rfl rfl rfl ?_; refine r_skip rfl rfl rfl ?_; refine r_op (o_pick_t rfl rfl rfl ?_); refine r_op (o_move rfl rfl ?_); refine r_skip rfl rfl rfl ?_; refine r_skip rfl rfl rfl ?_; refine r_skip rfl rfl rfl ?_; refine r_skip rfl rfl rfl ?_; refine r_skip rfl rfl rfl ?_; refine r_skip rfl rfl rfl ?_; refine r_op (o_pick_t rfl rfl rfl ?_); refine r_nil ?_; refine x_true rfl ?_; refine x_seq (x_region ?_); refine r_op (o_assign rfl rfl ?_); refine r_op (o_assign rfl rfl ?_); refine r_nil ?_)
      exact x_ret rfl _ (hbad (.inl h1)) ((hshut.trans (Ent.nilSl 1 _)).trans Sub.h)
    · by_cases h2 : (x.now.2.2.length : Int) < at'
      · (refine r_op (o_lss_f rfl rfl (by omega) rfl ?_); refine r_op (o_move rfl rfl ?_); refine r_guard rfl (o_move rfl rfl ?_); refine r_guard rfl (o_move rfl rfl ?_); refine r_guard rfl (o_lenS rfl rfl ?_); refine r_guard rfl (o_gtr_t rfl rfl (by omega) rfl ?_); refine r_op (o_pick_f rfl rfl rfl ?_); refine r_op (o_move rfl rfl ?_); refine r_skip rfl rfl rfl ?_; refine r_skip rfl rfl rfl ?_; refine r_op (o_pick_t rfl rfl rfl ?_); refine r_op (o_move rfl rfl ?_); refine r_skip rfl rfl rfl ?_; refine r_skip rfl rfl rfl ?_; refine r_skip rfl rfl rfl ?_; refine r_skip rfl rfl rfl ?_; refine r_skip rfl rfl rfl ?_; refine r_skip rfl rfl rfl ?_; refine r_op (o_pick_t rfl rfl rfl ?_); refine r_nil ?_; refine x_true rfl ?_; refine x_seq (x_region ?_); refine r_op (o_assign rfl rfl ?_); refine r_op (o_assign rfl rfl ?_); refine r_nil ?_)
        exact x_ret rfl _ (hbad (.inr (.inl h2))) ((hshut.trans (Ent.nilSl 1 _)).trans Sub.h)
      · by_cases h3 : n < 0
        · (refine r_op (o_lss_f rfl rfl (by omega) rfl ?_); refine r_op (o_move rfl rfl ?_); refine r_guard rfl (o_move rfl rfl ?_); refine r_guard rfl (o_move rfl rfl ?_); refine r_guard rfl (o_lenS rfl rfl ?_); refine r_guard rfl (o_gtr_f rfl rfl (by omega) rfl ?_); refine r_op (o_pick_f rfl rfl rfl ?_); refine r_op (o_move rfl rfl ?_); refine r_guard rfl (o_move rfl rfl ?_); refine r_guard rfl (o_lss_t rfl rfl (by omega) rfl ?_); refine r_op (o_pick_f rfl rfl rfl ?_); refine r_op (o_move rfl rfl ?_); refine r_skip rfl rfl rfl ?_; refine r_skip rfl rfl rfl ?_; refine r_skip rfl rfl rfl ?_; refine r_skip rfl rfl rfl ?_; refine r_skip rfl rfl rfl ?_; refine r_skip rfl rfl rfl ?_; refine r_op (o_pick_t rfl rfl rfl ?_); refine r_nil ?_; refine x_true rfl ?_; refine x_seq (x_region ?_); refine r_op (o_assign rfl rfl ?_); refine r_op (o_assign rfl rfl ?_); refine r_nil ?_)
          exact x_ret rfl _ (hbad (.inr (.inr (.inl h3)))) ((hshut.trans (Ent.nilSl 1 _)).trans Sub.h)
        · by_cases h4 : (x.now.2.2.length : Int) - at' < n
          · (refine r_op (o_lss_f rfl rfl (by omega) rfl ?_); refine r_op (o_move rfl rfl ?_); refine r_guard rfl (o_move rfl rfl ?_); refine r_guard rfl (o_move rfl rfl ?_); refine r_guard rfl (o_lenS rfl rfl ?_); refine r_guard rfl (o_gtr_f rfl rfl (by omega) rfl ?_); refine r_op (o_pick_f rfl rfl rfl ?_); refine r_op (o_move rfl rfl ?_); refine r_guard rfl (o_move rfl rfl ?_); refine r_guard rfl (o_lss_f rfl rfl (by omega) rfl ?_); refine r_op (o_pick_f rfl rfl rfl ?_); refine r_op (o_move rfl rfl ?_); refine r_guard rfl (o_move rfl rfl ?_); refine r_guard rfl (o_move rfl rfl ?_); refine r_guard rfl (o_lenS rfl rfl ?_); refine r_guard rfl (o_move rfl rfl ?_); refine r_guard rfl (o_sub rfl rfl (sub_i64 (by omega)) rfl ?_); refine r_guard rfl (o_gtr_t rfl rfl (by omega) rfl ?_); refine r_op (o_pick_f rfl rfl rfl ?_); refine r_nil ?_; refine x_true rfl ?_; refine x_seq (x_region ?_); refine r_op (o_assign rfl rfl ?_); refine r_op (o_assign rfl rfl ?_); refine r_nil ?_)
            exact x_ret rfl _ (hbad (.inr (.inr (.inr h4)))) ((hshut.trans (Ent.nilSl 1 _)).trans Sub.h)
          · (refine r_op (o_lss_f rfl rfl (by omega) rfl ?_); refine r_op (o_move rfl rfl ?_); refine r_guard rfl (o_move rfl rfl ?_); refine r_guard rfl (o_move rfl rfl ?_); refine r_guard rfl (o_lenS rfl rfl ?_); refine r_guard rfl (o_gtr_f rfl rfl (by omega) rfl ?_); refine r_op (o_pick_f rfl rfl rfl ?_); refine r_op (o_move rfl rfl ?_); refine r_guard rfl (o_move rfl rfl ?_); refine r_guard rfl (o_lss_f rfl rfl (by omega) rfl ?_); refine r_op (o_pick_f rfl rfl rfl ?_); refine r_op (o_move rfl rfl ?_); refine r_guard rfl (o_move rfl rfl ?_); refine r_guard rfl (o_move rfl rfl ?_); refine r_guard rfl (o_lenS rfl rfl ?_); refine r_guard rfl (o_move rfl rfl ?_); refine r_guard rfl (o_sub rfl rfl (sub_i64 (by omega)) rfl ?_); refine r_guard rfl (o_gtr_f rfl rfl (by omega) rfl ?_); refine r_op (o_pick_f rfl rfl rfl ?_); refine r_nil ?_; refine x_false rfl ?_; refine x_skip ?_; refine x_seq (x_region ?_); refine r_op (o_move rfl rfl ?_); refine r_op (o_move rfl rfl ?_); refine r_op (o_move rfl rfl ?_); refine r_op (o_move rfl rfl ?_); refine r_op (o_add rfl rfl (add_i64 (by omega)) rfl ?_))
            obtain ⟨p, rfl⟩ : ∃ p : Nat, at' = p := ⟨at'.toNat, by omega⟩
            obtain ⟨m, rfl⟩ : ∃ m : Nat, n = m := ⟨n.toNat, by omega⟩
            refine r_sl x.now.1 fun _ hcap => ?_
            (refine r_op ?_)
            refine o_slice rfl rfl rfl (jl := p) (jh := p + m) rfl (by simp) (by omega) (by omega) rfl ?_
            have R := (Sl.reads 1 x.now.1 x.now.2.2.length x.now.2.1 (x.now.2.2.map bv) (by simp)).sub x.now.2.1 p (p + m) (by omega) (by omega) hcap
            have e1 : ((x.now.2.2.map bv).drop (p * 1)).take ((p + m - p) * 1) = ((x.now.2.2.drop p).take m).map bv := by
              rw [show p + m - p = m by omega]; simp [List.map_drop, List.map_take]
            rw [e1] at R
            (refine r_op ?_)
            refine o_call rfl (clone_spec R (by omega)) rfl ?_
            rintro v B ⟨a', cap', rfl, rfl⟩
            (simp only [List.cons_append, List.nil_append])
            (refine r_op (o_assign rfl rfl ?_); refine r_op (o_assign rfl rfl ?_); refine r_nil ?_)
            have e : d.read i p m = ((x.now.2.2.drop p).take m, 0) := by
              unfold Dk.read
              rw [if_neg (by simpa using h), if_neg (by rw [hnow]; omega), hnow]; simp
            have e2 : ((x.now.2.2.drop p).take m).length = p + m - p := by simp; omega
            rw [e]
            refine x_ret rfl [DiskI b d, Sl 1 a' (p + m - p) cap' (((x.now.2.2.drop p).take m).map bv)] ⟨a', cap', by rw [e2]; rfl, by rw [e2]⟩ ?_
            refine (Sub.h (Δ := Row b (i * 3) x.cells :: sp x.safe :: sp x.now :: Sl 3 x.ca x.chg.length x.cc (List.flatMap CX.cells x.chg) :: Inn (List.map CX.s x.chg) :: Hole (FileI b) fs.val i :: Hid (Flags b d.off d.uo d.ub) :: Sl 1 a' (p + m - p) cap' (((x.now.2.2.drop p).take m).map bv) :: Γ)).trans ?_
            have := Ent.shut (b := b) (o := d.off) fs hi fs.2.2.2.1 fs.2.2.2.2 (Sl 1 a' (p + m - p) cap' (((x.now.2.2.drop p).take m).map bv) :: Γ)
            rw [hx] at this
            exact this.trans Sub.h
  · (refine r_op (o_assign rfl rfl ?_); refine r_nil ?_; refine x_seq (x_region ?_); refine r_op (o_move rfl rfl ?_); refine r_op (o_neq_t rfl rfl (by omega) rfl ?_); refine r_nil ?_; refine x_true rfl ?_; refine x_seq (x_region ?_); refine r_op (o_move rfl rfl ?_); refine r_op (o_assign rfl rfl ?_); refine r_op (o_assign rfl rfl ?_); refine r_nil ?_)
    refine x_ret rfl [DiskI b d, Sl 1 none 0 0 []] ⟨none, 0, by simp [retV, Dk.read, h], by simp [Dk.read, h]⟩ (((Ent.disk fs Γ).trans (Ent.nilSl 1 _)).trans Sub.h)

def Dk.power (d : Dk) (n : Int) : Dk := { d with off := d.off || decide (n < 1), uo := n.toNat }
theorem off_spec (b : Nat) (d : Dk) (n : Int) (hn : n ≤ 9223372036854775807) : Spec Try.prog 41 [dp b, .int .i64 n] [DiskI b d] (fun v B => v = .tuple #[] ∧ B = [DiskI b (d.power n)]) := by
  refine Spec.of_ex Try.func41 rfl Try.ntmps41 rfl fun E cs Γ => ?_
  (simp only [argRho, Nat.reduceAdd, List.cons_append, List.nil_append])
  refine x_open (fun E w s => s.disk) fun fs => ?_
  have hd : ∀ (v : Value) (o : Bool), v = .int .i64 (n.toNat : Int) → o = (d.off || decide (n < 1)) → Ent (Row b 24 [.bool o, v, .int .i64 d.ub] :: FilesX b fs.1 :: Γ) (DiskI b (d.power n) :: Γ) := by
    rintro v o rfl rfl
    exact Ent.diskF fs (by omega) fs.2.2.2.2 Γ
  cases h0 : d.off
  · by_cases h1 : n < 1
    · (refine x_seq (x_region ?_); refine r_op (o_move rfl rfl ?_); refine r_op (o_move rfl rfl ?_); refine r_op (o_max rfl rfl rfl ?_); refine r_op (o_nilCheck rfl rfl ?_); refine r_op (o_fieldAddr rfl rfl ?_); refine r_do (o_store rfl rfl rfl rfl (by simp) ?_); try dsimp only [Nat.reduceSub, Nat.reduceAdd, List.set]; refine r_nil ?_; refine x_region ?_; refine r_op (o_move rfl rfl ?_); refine r_op (o_move rfl rfl ?_); refine r_op (o_nilCheck rfl rfl ?_); refine r_op (o_fieldAddr rfl rfl ?_); refine r_op (o_load rfl rfl rfl rfl ?_); refine r_op (o_move rfl rfl ?_); refine r_guard rfl (o_move rfl rfl ?_); refine r_guard rfl (o_lss_t rfl rfl (by omega) rfl ?_); refine r_op (o_pick_f rfl rfl rfl ?_); refine r_op (o_nilCheck rfl rfl ?_); refine r_op (o_fieldAddr rfl rfl ?_); refine r_do (o_store rfl rfl rfl rfl (by simp) ?_); try dsimp only [Nat.reduceSub, Nat.reduceAdd, List.set]; refine r_nil ?_)
      rw [h0] at hd
      exact x_end [DiskI b (d.power n)] ⟨rfl, rfl⟩ ((hd _ _ (by congr 1; omega) (by simp [h1])).trans Sub.h)
    · (refine x_seq (x_region ?_); refine r_op (o_move rfl rfl ?_); refine r_op (o_move rfl rfl ?_); refine r_op (o_max rfl rfl rfl ?_); refine r_op (o_nilCheck rfl rfl ?_); refine r_op (o_fieldAddr rfl rfl ?_); refine r_do (o_store rfl rfl rfl rfl (by simp) ?_); try dsimp only [Nat.reduceSub, Nat.reduceAdd, List.set]; refine r_nil ?_; refine x_region ?_; refine r_op (o_move rfl rfl ?_); refine r_op (o_move rfl rfl ?_); refine r_op (o_nilCheck rfl rfl ?_); refine r_op (o_fieldAddr rfl rfl ?_); refine r_op (o_load rfl rfl rfl rfl ?_); refine r_op (o_move rfl rfl ?_); refine r_guard rfl (o_move rfl rfl ?_); refine r_guard rfl (o_lss_f rfl rfl (by omega) rfl ?_); refine r_op (o_pick_f rfl rfl rfl ?_); refine r_op (o_nilCheck rfl rfl ?_); refine r_op (o_fieldAddr rfl rfl ?_); refine r_do (o_store rfl rfl rfl rfl (by simp) ?_); try dsimp only [Nat.reduceSub, Nat.reduceAdd, List.set]; refine r_nil ?_)
      rw [h0] at hd
      exact x_end [DiskI b (d.power n)] ⟨rfl, rfl⟩ ((hd _ _ (by congr 1; omega) (by simp [h1])).trans Sub.h)
  · (refine x_seq (x_region ?_); refine r_op (o_move rfl rfl ?_); refine r_op (o_move rfl rfl ?_); refine r_op (o_max rfl rfl rfl ?_); refine r_op (o_nilCheck rfl rfl ?_); refine r_op (o_fieldAddr rfl rfl ?_); refine r_do (o_store rfl rfl rfl rfl (by simp) ?_); try dsimp only [Nat.reduceSub, Nat.reduceAdd, List.set]; refine r_nil ?_; refine x_region ?_; refine r_op (o_move rfl rfl ?_); refine r_op (o_move rfl rfl ?_); refine r_op (o_nilCheck rfl rfl ?_); refine r_op (o_fieldAddr rfl rfl ?_); refine r_op (o_load rfl rfl rfl rfl ?_); refine r_op (o_move rfl rfl ?_); refine r_skip rfl rfl rfl ?_; refine r_skip rfl rfl rfl ?_; refine r_op (o_pick_t rfl rfl rfl ?_); refine r_op (o_nilCheck rfl rfl ?_); refine r_op (o_fieldAddr rfl rfl ?_); refine r_do (o_store rfl rfl rfl rfl (by simp) ?_); try dsimp only [Nat.reduceSub, Nat.reduceAdd, List.set]; refine r_nil ?_)
    rw [h0] at hd
    exact x_end [DiskI b (d.power n)] ⟨rfl, rfl⟩ ((hd _ _ (by congr 1; omega) (by simp)).trans Sub.h)

def Dk.hurt (d : Dk) (n : Int) : Dk := { d with ub := n.toNat }
theorem fail_spec (b : Nat) (d : Dk) (n : Int) (hn : n ≤ 9223372036854775807) : Spec Try.prog 40 [dp b, .int .i64 n] [DiskI b d] (fun v B => v = .tuple #[] ∧ B = [DiskI b (d.hurt n)]) := by
  refine Spec.of_ex Try.func40 rfl Try.ntmps40 rfl fun E cs Γ => ?_
  (simp only [argRho, Nat.reduceAdd, List.cons_append, List.nil_append])
  refine x_open (fun E w s => s.disk) fun fs => ?_
  have hd : ∀ (v : Value), v = .int .i64 (n.toNat : Int) → Ent (Row b 24 [.bool d.off, .int .i64 d.uo, v] :: FilesX b fs.1 :: Γ) (DiskI b (d.hurt n) :: Γ) := by
    rintro v rfl
    exact Ent.diskF fs fs.2.2.2.1 (by omega) Γ
  (refine x_region ?_; refine r_op (o_move rfl rfl ?_); refine r_op (o_move rfl rfl ?_); refine r_op (o_max rfl rfl rfl ?_); refine r_op (o_nilCheck rfl rfl ?_); refine r_op (o_fieldAddr rfl rfl ?_); refine r_do (o_store rfl rfl rfl rfl (by simp) ?_); try dsimp only [Nat.reduceSub, Nat.reduceAdd, List.set]; refine r_nil ?_)
  exact x_end [DiskI b (d.hurt n)] ⟨rfl, rfl⟩ ((hd _ (by congr 1; omega)).trans Sub.h)
end Go.Proofs.Ythneebbmodkjiaa
