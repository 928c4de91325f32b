/- Part of a proof over the seat Ythneebbmodkjiaa: module D9. Its claim's last module says what is proved. -/
import Derived.Test.YthneebbmodkjiaaD8
namespace Go.Proofs.Ythneebbmodkjiaa
open Go.Proofs

def Fl.cut (x : Fl) (n : Nat) : Fl := ⟨x.safe, x.chg ++ [⟨true, n, []⟩], x.now.take n⟩
def Dk.cut (d : Dk) (f n : Int) : Dk × Int :=
  if d.counts f ≠ 0 then (d.step, d.counts f) else if n < 0 ∨ ((d.file f).now.length : Int) < n then (d.step, 1)
  else ({ d.step with fs := d.fs.set f.toNat ((d.file f).cut n.toNat) }, 0)

theorem cut_spec (b : Nat) (d : Dk) (f n : Int) (hs : d.small) :
    Spec Try.prog 38 [dp b, .int .i64 f, .int .i64 n] [DiskI b d] (fun v B => v = .int .i64 (d.cut f n).2 ∧ B = [DiskI b (d.cut f n).1]) := by
  refine Spec.of_ex Try.func38 rfl Try.ntmps38 rfl fun E cs Γ => ?_
  (simp only [argRho, Nat.reduceAdd, List.cons_append, List.nil_append])
  refine x_open (fun E w s => s.disk) fun fs => ?_
  obtain ⟨s1, s2, s3, s4⟩ := step_flags d
  have hle := step_le fs.2.2.2
  (refine x_seq (x_region ?_); refine r_op (o_assign rfl rfl ?_); refine r_nil ?_; refine x_seq ?_; refine x_seq (x_region ?_); refine r_op (o_move rfl rfl ?_); refine r_op (o_move rfl rfl ?_))
  (refine r_op ?_)
  refine o_call rfl (counts_spec b d.off d.uo d.ub f fs.2.2.2.1 fs.2.2.2.2) rfl ?_
  rintro v B ⟨rfl, rfl⟩
  (simp only [List.cons_append, List.nil_append])
  rw [counts_flags, s1, s2, s3]
  have hd0 : ∀ Θ, Ent (Flags b d.step.off d.step.uo d.step.ub :: FilesX b fs.1 :: Θ) (DiskI b d.step :: Θ) := fun Θ => by
    have := Ent.diskF (b := b) (o := d.step.off) fs hle.1 hle.2 Θ
    rw [step_eta] at this; exact this
  by_cases h : d.counts f = 0
  · obtain ⟨h0, i, rfl, hi⟩ := counts_nz h
    rw [h]
    (refine r_op (o_assign rfl rfl ?_); refine r_nil ?_; refine x_seq (x_region ?_); refine r_op (o_move rfl rfl ?_); refine r_op (o_neq_f rfl rfl (by omega) rfl ?_); refine r_nil ?_; refine x_false rfl ?_; refine x_skip ?_; refine x_seq (x_region ?_); refine r_op (o_move rfl rfl ?_); refine r_op (o_move rfl rfl ?_); refine r_op (o_nilCheck rfl rfl ?_); refine r_op (o_fieldAddr rfl rfl ?_))
    refine r_mem (Ent.open fs hi _ Γ) ?_
    have hg := fs.get hi
    have hsm := fs.small hs hi
    have hshut := fun Θ => Ent.shut (b := b) (o := d.step.off) fs hi hle.1 hle.2 Θ
    have hclose := fun y Θ => Ent.close (b := b) (o := d.step.off) fs hi y hle.1 hle.2 Θ
    obtain ⟨x, hx⟩ : ∃ x, (fs.1[i]'(fs.len hi)) = x := ⟨_, rfl⟩
    have hnow : (d.file i).now = x.now.2.2 := by rw [hg, hx]; rfl
    rw [hx] at hshut hsm ⊢
    (refine r_op ?_)
    refine o_indexA rfl rfl (j := i) rfl hi rfl ?_
    (refine r_op (o_assign rfl rfl ?_); refine r_nil ?_; refine x_seq ?_; refine x_seq (x_region ?_); refine r_op (o_move rfl rfl ?_))
    have hr1 : ∀ e : Int, (d.cut i n) = (d.step, e) → Ent (Row b (i * 3) x.cells :: sp x.safe :: sp x.now :: Sl 3 x.ca x.chg.length x.cc (List.flatMap CX.cells x.chg) :: Inn (List.map CX.s x.chg) :: Hole (FileI b) fs.val i :: Hid (Flags b d.step.off d.step.uo d.step.ub) :: Γ) (DiskI b (d.cut i n).1 :: Γ) := by
      intro e he
      rw [he]
      have := hshut Γ
      rw [step_eta] at this
      exact this
    by_cases h1 : n < 0
    · (refine r_op (o_lss_t rfl rfl (by omega) rfl ?_); refine r_op (o_move rfl rfl ?_); refine r_skip rfl rfl rfl ?_; refine r_skip rfl rfl rfl ?_; refine r_skip rfl rfl rfl ?_; refine r_skip rfl rfl rfl ?_; refine r_skip rfl rfl rfl ?_; refine r_skip rfl rfl rfl ?_; refine r_skip rfl rfl rfl ?_; refine r_op (o_pick_t rfl rfl rfl ?_); refine r_nil ?_; refine x_true rfl ?_; refine x_seq (x_region ?_); refine r_op (o_assign rfl rfl ?_); refine r_nil ?_)
      have e : d.cut i n = (d.step, 1) := by unfold Dk.cut; rw [if_neg (by simpa using h), if_pos (.inl h1)]
      exact x_ret rfl [DiskI b (d.cut i n).1] ⟨by rw [e]; rfl, rfl⟩ ((hr1 _ e).trans Sub.h)
    · by_cases h2 : (x.now.2.2.length : Int) < n
      · (refine r_op (o_lss_f rfl rfl (by omega) rfl ?_); refine r_op (o_move rfl rfl ?_); refine r_guard rfl (o_move rfl rfl ?_); refine r_guard rfl (o_move rfl rfl ?_); refine r_guard rfl (o_nilCheck rfl rfl ?_); refine r_guard rfl (o_fieldAddr rfl rfl ?_); refine r_guard rfl (o_loadI (i := 2) rfl (by omega) rfl rfl ?_); refine r_guard rfl (o_lenS rfl rfl ?_); refine r_guard rfl (o_gtr_t rfl rfl (by omega) rfl ?_); refine r_op (o_pick_f rfl rfl rfl ?_); refine r_nil ?_; refine x_true rfl ?_; refine x_seq (x_region ?_); refine r_op (o_assign rfl rfl ?_); refine r_nil ?_)
        have e : d.cut i n = (d.step, 1) := by unfold Dk.cut; rw [if_neg (by simpa using h), if_pos (.inr (by rw [hnow]; exact h2))]
        exact x_ret rfl [DiskI b (d.cut i n).1] ⟨by rw [e]; rfl, rfl⟩ ((hr1 _ e).trans Sub.h)
      · obtain ⟨p, rfl⟩ : ∃ p : Nat, n = p := ⟨n.toNat, by omega⟩
        have e : d.cut i p = ({ d.step with fs := d.fs.set i (x.abs.cut p) }, 0) := by
          unfold Dk.cut; rw [if_neg (by simpa using h), if_neg (by rw [hnow]; omega)]; rw [hg, hx]; simp
        (refine r_op (o_lss_f rfl rfl (by omega) rfl ?_); refine r_op (o_move rfl rfl ?_); refine r_guard rfl (o_move rfl rfl ?_); refine r_guard rfl (o_move rfl rfl ?_); refine r_guard rfl (o_nilCheck rfl rfl ?_); refine r_guard rfl (o_fieldAddr rfl rfl ?_); refine r_guard rfl (o_loadI (i := 2) rfl (by omega) rfl rfl ?_); refine r_guard rfl (o_lenS rfl rfl ?_); refine r_guard rfl (o_gtr_f rfl rfl (by omega) rfl ?_); refine r_op (o_pick_f rfl rfl rfl ?_); refine r_nil ?_; refine x_false rfl ?_; refine x_skip ?_; refine x_seq (x_region ?_); refine r_op (o_move rfl rfl ?_); refine r_op (o_move rfl rfl ?_); refine r_op (o_nilCheck rfl rfl ?_); refine r_op (o_fieldAddr rfl rfl ?_); refine r_op (o_loadI (i := 1) rfl (by omega) rfl rfl ?_); refine r_op (o_move rfl rfl ?_))
        (refine r_op ?_)
        refine o_build rfl rfl rfl ?_
        (refine r_op ?_)
        refine o_buildSlice rfl (by rfl) (by rfl) (by rfl) (by rfl) rfl (fun a2 => ?_)
        (refine r_op ?_)
        refine o_appendT rfl rfl (by rfl) (by rfl) (by rfl) (by omega) rfl (fun a3 c3 hc => ?_)
        (refine r_op (o_nilCheck rfl rfl ?_); refine r_op (o_fieldAddr rfl rfl ?_); refine r_do (o_storeI (i := 1) rfl rfl rfl (by omega) rfl ?_); (try dsimp only [List.set]); refine r_nil ?_; refine x_seq (x_region ?_); refine r_op (o_move rfl rfl ?_); refine r_op (o_move rfl rfl ?_); refine r_op (o_nilCheck rfl rfl ?_); refine r_op (o_fieldAddr rfl rfl ?_); refine r_op (o_loadI (i := 2) rfl (by omega) rfl rfl ?_); refine r_op (o_move rfl rfl ?_))
        refine r_sl x.now.1 fun _ hcap => ?_
        (refine r_op ?_)
        refine o_sliceHi rfl rfl (jh := p) rfl (by omega) rfl ?_
        have R := (Sl.reads 1 x.now.1 x.now.2.2.length x.now.2.1 (x.now.2.2.map bv) (by simp)).firstN p (by omega)
        have e1 : ((x.now.2.2.map bv).take (p * 1)) = (x.now.2.2.take p).map bv := by simp [List.map_take]
        rw [e1] at R
        (refine r_op ?_)
        refine o_call rfl (clone_spec R (by omega)) rfl ?_
        rintro v B ⟨a', cap', rfl, rfl⟩
        (simp only [List.cons_append, List.nil_append])
        (refine r_op (o_nilCheck rfl rfl ?_); refine r_op (o_fieldAddr rfl rfl ?_); refine r_do (o_storeI (i := 2) rfl rfl rfl (by omega) rfl ?_); (try dsimp only [List.set]); refine r_nil ?_; refine x_seq (x_region ?_); refine r_op (o_assign rfl rfl ?_); refine r_nil ?_)
        refine x_ret rfl [DiskI b (d.cut i p).1] ⟨by rw [e]; rfl, rfl⟩ ?_
        have el : (x.now.2.2.take p).length = p := by simp; omega
        refine (Ent.nilSl 1 _).trans ?_
        refine (Sub.h (Δ := Sl 3 a3 (x.chg.length + 1) c3 (x.chg.flatMap CX.cells ++ [.bool true, .int .i64 p, .slice none 0 0]) :: Sl 1 none 0 0 [] :: Inn (x.chg.map CX.s) :: Row b (i * 3) [sv x.safe, .slice a3 (x.chg.length + 1) c3, .slice a' p cap'] :: Sl 1 a' p cap' ((x.now.2.2.take p).map bv) :: sp x.safe :: Hole (FileI b) fs.val i :: Hid (Flags b d.step.off d.step.uo d.step.ub) :: Γ)).trans ?_
        refine (Ent.chg_snoc (bs := []) (c1 := 0) (a1 := none) _).trans ?_
        have e2 : x.chg.length + 1 = (x.chg ++ [CX.mk true p (none, 0, [])]).length := by simp
        have e3 : .slice a' p cap' = sv (a', cap', x.now.2.2.take p) := by simp [sv, el]
        have e4 : Sl 1 a' p cap' ((x.now.2.2.take p).map bv) = sp (a', cap', x.now.2.2.take p) := by simp [sp, el]
        rw [e2, e3, e4]
        refine Ent.trans ?_ ((hclose ⟨x.safe, a3, c3, x.chg ++ [CX.mk true p (none, 0, [])], (a', cap', x.now.2.2.take p)⟩ Γ).trans ?_)
        · exact Sub.h
        · rw [e]
          have e5 : FX.abs ⟨x.safe, a3, c3, x.chg ++ [CX.mk true p (none, 0, [])], (a', cap', x.now.2.2.take p)⟩ = x.abs.cut p := by
            simp [FX.abs, Fl.cut, CX.abs]
          rw [e5]
          exact Sub.h
  · (refine r_op (o_assign rfl rfl ?_); refine r_nil ?_; refine x_seq (x_region ?_); refine r_op (o_move rfl rfl ?_); refine r_op (o_neq_t rfl rfl (by omega) rfl ?_); refine r_nil ?_; refine x_true rfl ?_; refine x_seq (x_region ?_); refine r_op (o_move rfl rfl ?_); refine r_op (o_assign rfl rfl ?_); refine r_nil ?_)
    refine x_ret rfl [DiskI b d.step] ⟨by simp [retV, Dk.cut, h], by simp [Dk.cut, h]⟩ ((hd0 _).trans Sub.h)

def Fl.sync (x : Fl) : Fl := ⟨x.now, [], x.now⟩
def Dk.sync (d : Dk) (f : Int) : Dk × Int :=
  if d.counts f ≠ 0 then (d.step, d.counts f) else ({ d.step with fs := d.fs.set f.toNat (d.file f).sync }, 0)
theorem sync_spec (b : Nat) (d : Dk) (f : Int) (hs : d.small) :
    Spec Try.prog 32 [dp b, .int .i64 f] [DiskI b d] (fun v B => v = .int .i64 (d.sync f).2 ∧ B = [DiskI b (d.sync f).1]) := by
  refine Spec.of_ex Try.func32 rfl Try.ntmps32 rfl fun E cs Γ => ?_
  (simp only [argRho, Nat.reduceAdd, List.cons_append, List.nil_append])
  refine x_open (fun E w s => s.disk) fun fs => ?_
  obtain ⟨s1, s2, s3, s4⟩ := step_flags d
  have hle := step_le fs.2.2.2
  (refine x_seq (x_region ?_); refine r_op (o_assign rfl rfl ?_); refine r_nil ?_; refine x_seq ?_; refine x_seq (x_region ?_); refine r_op (o_move rfl rfl ?_); refine r_op (o_move rfl rfl ?_))
  (refine r_op ?_)
  refine o_call rfl (counts_spec b d.off d.uo d.ub f fs.2.2.2.1 fs.2.2.2.2) rfl ?_
  rintro v B ⟨rfl, rfl⟩
  (simp only [List.cons_append, List.nil_append])
  rw [counts_flags, s1, s2, s3]
  have hd0 : ∀ Θ, Ent (Flags b d.step.off d.step.uo d.step.ub :: FilesX b fs.1 :: Θ) (DiskI b d.step :: Θ) := fun Θ => by
    have := Ent.diskF (b := b) (o := d.step.off) fs hle.1 hle.2 Θ
    rw [step_eta] at this; exact this
  by_cases h : d.counts f = 0
  · obtain ⟨h0, i, rfl, hi⟩ := counts_nz h
    rw [h]
    (refine r_op (o_assign rfl rfl ?_); refine r_nil ?_; refine x_seq (x_region ?_); refine r_op (o_move rfl rfl ?_); refine r_op (o_neq_f rfl rfl (by omega) rfl ?_); refine r_nil ?_; refine x_false rfl ?_; refine x_skip ?_; refine x_seq (x_region ?_); refine r_op (o_move rfl rfl ?_); refine r_op (o_move rfl rfl ?_); refine r_op (o_nilCheck rfl rfl ?_); refine r_op (o_fieldAddr rfl rfl ?_))
    refine r_mem (Ent.open fs hi _ Γ) ?_
    have hg := fs.get hi
    have hsm := fs.small hs hi
    have hclose := fun y Θ => Ent.close (b := b) (o := d.step.off) fs hi y hle.1 hle.2 Θ
    obtain ⟨x, hx⟩ : ∃ x, (fs.1[i]'(fs.len hi)) = x := ⟨_, rfl⟩
    rw [hx] at hsm ⊢
    (refine r_op ?_)
    refine o_indexA rfl rfl (j := i) rfl hi rfl ?_
    (refine r_op (o_assign rfl rfl ?_); refine r_nil ?_; refine x_seq (x_region ?_); refine r_op (o_move rfl rfl ?_); refine r_op (o_move rfl rfl ?_); refine r_op (o_move rfl rfl ?_); refine r_op (o_nilCheck rfl rfl ?_); refine r_op (o_fieldAddr rfl rfl ?_); refine r_op (o_loadI (i := 2) rfl (by omega) rfl rfl ?_))
    have R := (Sl.reads 1 x.now.1 x.now.2.2.length x.now.2.1 (x.now.2.2.map bv) (by simp))
    have e : d.sync i = ({ d.step with fs := d.fs.set i x.abs.sync }, 0) := by
      unfold Dk.sync; rw [if_neg (by simpa using h)]; rw [hg, hx]; simp
    (refine r_op ?_)
    refine o_call rfl (clone_spec R (by omega)) rfl ?_
    rintro v B ⟨a', cap', rfl, rfl⟩
    (simp only [List.cons_append, List.nil_append])
    (refine r_op (o_nilCheck rfl rfl ?_); refine r_op (o_fieldAddr rfl rfl ?_); refine r_do (o_storeI (i := 0) rfl rfl rfl (by omega) rfl ?_); (try dsimp only [List.set]); refine r_op (o_nilCheck rfl rfl ?_); refine r_op (o_fieldAddr rfl rfl ?_); refine r_do (o_storeI (i := 1) rfl rfl rfl (by omega) rfl ?_); (try dsimp only [List.set]); refine r_nil ?_; refine x_seq (x_region ?_); refine r_op (o_assign rfl rfl ?_); refine r_nil ?_)
    refine x_ret rfl [DiskI b (d.sync i).1] ⟨by rw [e]; rfl, rfl⟩ ?_
    refine ((Ent.nilSl 3 _).trans (Ent.inn_nil _)).trans ?_
    refine Ent.trans ?_ ((hclose ⟨(a', cap', x.now.2.2), none, 0, [], x.now⟩ Γ).trans ?_)
    · exact (Sub.h (Δ := Row b (i * 3) [.slice a' x.now.2.2.length cap', .slice none 0 0, sv x.now] :: Sl 1 a' x.now.2.2.length cap' (x.now.2.2.map bv) :: sp x.now :: Sl 3 none 0 0 [] :: Inn [] :: Hole (FileI b) fs.val i :: Hid (Flags b d.step.off d.step.uo d.step.ub) :: Γ))
    · rw [e]
      exact Ent.refl (DiskI b ⟨d.fs.set i x.abs.sync, d.step.off, d.step.uo, d.step.ub⟩ :: Γ)
  · (refine r_op (o_assign rfl rfl ?_); refine r_nil ?_; refine x_seq (x_region ?_); refine r_op (o_move rfl rfl ?_); refine r_op (o_neq_t rfl rfl (by omega) rfl ?_); refine r_nil ?_; refine x_true rfl ?_; refine x_seq (x_region ?_); refine r_op (o_move rfl rfl ?_); refine r_op (o_assign rfl rfl ?_); refine r_nil ?_)
    refine x_ret rfl [DiskI b d.step] ⟨by simp [retV, Dk.sync, h], by simp [Dk.sync, h]⟩ ((hd0 _).trans Sub.h)
end Go.Proofs.Ythneebbmodkjiaa
