/- Part of a proof over the seat Ythneebbmodkjiaa: module R4. Its claim's last module says what is proved. -/
import Derived.Test.YthneebbmodkjiaaR3
namespace Go.Proofs.Ythneebbmodkjiaa
open Go.Proofs

theorem FileC.now (x : FX) : Reads (FileC x) 1 x.now.1 x.now.2.2.length (x.now.2.2.map bv) :=
  (Sl.reads 1 x.now.1 x.now.2.2.length x.now.2.1 _ (by simp)).of_ent [sp x.safe, Sl 3 x.ca x.chg.length x.cc (x.chg.flatMap CX.cells), Inn (x.chg.map CX.s)] ((Ent.sep_out _ []).trans (by (simp only [List.cons_append, List.nil_append]); exact Sub.h))
theorem Ent.fileC_out (x : FX) (Γ : List HP) : Ent (FileC x :: Γ) (sp x.safe :: sp x.now :: Sl 3 x.ca x.chg.length x.cc (x.chg.flatMap CX.cells) :: Inn (x.chg.map CX.s) :: Γ) := Ent.sep_out _ _
theorem Ent.fileC_in (x : FX) (Γ : List HP) : Ent (sp x.safe :: sp x.now :: Sl 3 x.ca x.chg.length x.cc (x.chg.flatMap CX.cells) :: Inn (x.chg.map CX.s) :: Γ) (FileC x :: Γ) := Ent.sep_in [_, _, _, _] _
/-- What counts does, said of the plain disk. -/
theorem counts9d_spec (b : Nat) (q : RQ) (d : Dk) (f : Int) (hq : q.Ok d) :
    Spec Try.prog 104 [dp b, .int .i64 f] [Row b 0 (q.cells d.off)] (fun v B => v = .int .i64 (d.counts f) ∧ ∃ left' bad' hurt', RFl d.step.off d.step.uo d.step.ub left' bad' q.armed hurt' ∧
      B = [Row b 0 [.slice q.la q.fs.length q.lc, .slice q.sa q.fs.length q.sc, .slice q.na q.fs.length q.nc, .int .i64 left', .int .i64 bad', .bool q.armed, .bool d.step.off, .bool hurt']]) := by
  have h := counts9_spec b (.slice q.la q.fs.length q.lc) (.slice q.sa q.fs.length q.sc) (.slice q.na q.fs.length q.nc) q.left q.bad q.armed d.off q.hurt d.uo d.ub f hq.fl
  obtain ⟨s1, s2, s3, _⟩ := step_flags d
  rw [show (fk d.off d.uo d.ub).step.off = d.step.off from s1, show (fk d.off d.uo d.ub).step.uo = d.step.uo from s2, show (fk d.off d.uo d.ub).step.ub = d.step.ub from s3] at h
  exact h
theorem Ent.diskR_flags {b : Nat} {d d' : Dk} (q : RQ) {left bad : Int} {armed hurt : Bool} (h : q.Ok d) (hd : d'.fs = d.fs) (hf : RFl d'.off d'.uo d'.ub left bad armed hurt) (Γ : List HP) :
    Ent (Row b 0 [.slice q.la q.fs.length q.lc, .slice q.sa q.fs.length q.sc, .slice q.na q.fs.length q.nc, .int .i64 left, .int .i64 bad, .bool armed, .bool d'.off, .bool hurt] ::
      Sl 1 q.la q.fs.length q.lc (nowsV q.fs) :: Sl 1 q.sa q.fs.length q.sc (safesV q.fs) :: Sl 1 q.na q.fs.length q.nc (hdrsV q.fs) :: PC q.fs :: Γ) (DiskR b d' :: Γ) :=
  Ent.diskR (b := b) (d := d') { q with left := left, bad := bad, armed := armed, hurt := hurt } ⟨by rw [hd]; exact h.fs, h.len, hf⟩ Γ

theorem file_now {d : Dk} {N : Nat} (hm : ∀ x ∈ d.fs, x.now.length ≤ N) (f : Int) : (d.file f).now.length ≤ N := by
  unfold Dk.file
  rw [List.getD_eq_getElem?_getD]
  cases h : d.fs[f.toNat]? with
  | none => simp
  | some x => exact hm x (List.mem_of_getElem? h)
theorem read9_spec (b : Nat) (d : Dk) (f at' n : Int) (hm : ∀ x ∈ d.fs, x.now.length ≤ 2 ^ 40) : Spec Try.prog 46 [dp b, .int .i64 f, .int .i64 at', .int .i64 n] [DiskR b d]
    (fun v B => ∃ a c, v = .tuple #[.slice a (d.read f at' n).1.length c, .int .i64 (d.read f at' n).2] ∧ B = [DiskR b d, Sl 1 a (d.read f at' n).1.length c ((d.read f at' n).1.map bv)]) := by
  refine Spec.of_ex Try.func46 rfl Try.ntmps46 rfl fun E cs Γ => ?_
  (simp only [argRho, Nat.reduceAdd, List.cons_append, List.nil_append])
  (refine x_seq (x_region ?_); refine r_op (o_assign rfl rfl ?_); refine r_op (o_assign rfl rfl ?_); refine r_nil ?_; refine x_seq (x_region ?_); refine r_op (o_move rfl rfl ?_); refine r_op (o_move rfl rfl ?_))
  (refine r_op ?_)
  refine o_call rfl (size9_spec b d f) rfl ?_
  rintro v B ⟨rfl, rfl⟩
  (simp only [List.cons_append, List.nil_append])
  by_cases h : d.asks f = 0
  · obtain ⟨h0, i, rfl, hi⟩ := asks_nz h
    have hsz : d.size i = (((d.file i).now.length : Int), 0) := by unfold Dk.size; rw [if_pos h]
    rw [hsz]
    obtain ⟨L, hL⟩ : ∃ L, (d.file i).now = L := ⟨_, rfl⟩
    rw [hL]
    have hLl : L.length ≤ 2 ^ 40 := by rw [← hL]; exact file_now hm i
    have hbad : at' < 0 ∨ (L.length : Int) < at' ∨ n < 0 ∨ (L.length : Int) - at' < n → ∃ a c, retV [.slice none 0 0, .int .i64 1] = .tuple #[.slice a (d.read i at' n).1.length c, .int .i64 (d.read i at' n).2] ∧ [DiskR b d, Sl 1 none 0 0 []] = [DiskR b d, Sl 1 a (d.read i at' n).1.length c ((d.read i at' n).1.map bv)] := by
      intro hb
      have e : d.read i at' n = ([], 1) := by unfold Dk.read; rw [if_neg (by simpa using h), if_pos (by rw [hL]; exact hb)]
      rw [e]; exact ⟨none, 0, rfl, rfl⟩
    by_cases h1 : at' < 0
    · (refine r_op (o_move rfl rfl ?_); refine r_op (o_extract rfl rfl rfl ?_); refine r_op (o_extract rfl rfl rfl ?_); refine r_op (o_assign rfl rfl ?_); refine r_op (o_assign rfl rfl ?_); refine r_nil ?_; refine x_seq ?_; refine x_seq (x_region ?_); refine r_op (o_move rfl rfl ?_); refine r_op (o_neq_f rfl rfl (by omega) rfl ?_); refine r_nil ?_; refine x_false rfl ?_; refine x_skip ?_; refine x_seq ?_; refine x_seq (x_region ?_); refine r_op (o_move rfl rfl ?_); refine r_op (o_lss_t rfl rfl (by omega) rfl ?_); refine r_op (o_move rfl rfl ?_); refine r_skip rfl rfl rfl ?_; refine r_skip rfl rfl rfl ?_; refine r_op (o_pick_t rfl rfl rfl ?_); refine r_op (o_move rfl rfl ?_); refine r_skip rfl rfl rfl ?_; refine r_skip rfl rfl rfl ?_; refine r_skip rfl rfl rfl ?_; refine r_op (o_pick_t rfl rfl rfl ?_); refine r_op (o_move rfl rfl ?_); refine r_skip rfl rfl rfl ?_; refine r_skip rfl rfl rfl ?_; refine r_skip rfl rfl rfl ?_; refine r_skip rfl rfl rfl ?_; refine r_skip rfl rfl rfl ?_; refine r_op (o_pick_t rfl rfl rfl ?_); refine r_nil ?_; refine x_true rfl ?_; refine x_seq (x_region ?_); refine r_op (o_assign rfl rfl ?_); refine r_op (o_assign rfl rfl ?_); refine r_nil ?_)
      exact x_ret rfl _ (hbad (.inl h1)) ((Ent.nilSl 1 _).trans Sub.h)
    · by_cases h2 : n < 0
      · (refine r_op (o_move rfl rfl ?_); refine r_op (o_extract rfl rfl rfl ?_); refine r_op (o_extract rfl rfl rfl ?_); refine r_op (o_assign rfl rfl ?_); refine r_op (o_assign rfl rfl ?_); refine r_nil ?_; refine x_seq ?_; refine x_seq (x_region ?_); refine r_op (o_move rfl rfl ?_); refine r_op (o_neq_f rfl rfl (by omega) rfl ?_); refine r_nil ?_; refine x_false rfl ?_; refine x_skip ?_; refine x_seq ?_; refine x_seq (x_region ?_); refine r_op (o_move rfl rfl ?_); refine r_op (o_lss_f rfl rfl (by omega) rfl ?_); refine r_op (o_move rfl rfl ?_); refine r_guard rfl (o_move rfl rfl ?_); refine r_guard rfl (o_lss_t rfl rfl (by omega) rfl ?_); refine r_op (o_pick_f rfl rfl rfl ?_); refine r_op (o_move rfl rfl ?_); refine r_skip rfl rfl rfl ?_; refine r_skip rfl rfl rfl ?_; refine r_skip rfl rfl rfl ?_; refine r_op (o_pick_t rfl rfl rfl ?_); refine r_op (o_move rfl rfl ?_); refine r_skip rfl rfl rfl ?_; refine r_skip rfl rfl rfl ?_; refine r_skip rfl rfl rfl ?_; refine r_skip rfl rfl rfl ?_; refine r_skip rfl rfl rfl ?_; refine r_op (o_pick_t rfl rfl rfl ?_); refine r_nil ?_; refine x_true rfl ?_; refine x_seq (x_region ?_); refine r_op (o_assign rfl rfl ?_); refine r_op (o_assign rfl rfl ?_); refine r_nil ?_)
        exact x_ret rfl _ (hbad (.inr (.inr (.inl h2)))) ((Ent.nilSl 1 _).trans Sub.h)
      · by_cases h3 : (L.length : Int) < at'
        · (refine r_op (o_move rfl rfl ?_); refine r_op (o_extract rfl rfl rfl ?_); refine r_op (o_extract rfl rfl rfl ?_); refine r_op (o_assign rfl rfl ?_); refine r_op (o_assign rfl rfl ?_); refine r_nil ?_; refine x_seq ?_; refine x_seq (x_region ?_); refine r_op (o_move rfl rfl ?_); refine r_op (o_neq_f rfl rfl (by omega) rfl ?_); refine r_nil ?_; refine x_false rfl ?_; refine x_skip ?_; refine x_seq ?_; refine x_seq (x_region ?_); refine r_op (o_move rfl rfl ?_); refine r_op (o_lss_f rfl rfl (by omega) rfl ?_); refine r_op (o_move rfl rfl ?_); refine r_guard rfl (o_move rfl rfl ?_); refine r_guard rfl (o_lss_f rfl rfl (by omega) rfl ?_); refine r_op (o_pick_f rfl rfl rfl ?_); refine r_op (o_move rfl rfl ?_); refine r_guard rfl (o_move rfl rfl ?_); refine r_guard rfl (o_move rfl rfl ?_); refine r_guard rfl (o_gtr_t rfl rfl (by omega) rfl ?_); refine r_op (o_pick_f rfl rfl rfl ?_); refine r_op (o_move rfl rfl ?_); refine r_skip rfl rfl rfl ?_; refine r_skip rfl rfl rfl ?_; refine r_skip rfl rfl rfl ?_; refine r_skip rfl rfl rfl ?_; refine r_skip rfl rfl rfl ?_; refine r_op (o_pick_t rfl rfl rfl ?_); refine r_nil ?_; refine x_true rfl ?_; refine x_seq (x_region ?_); refine r_op (o_assign rfl rfl ?_); refine r_op (o_assign rfl rfl ?_); refine r_nil ?_)
          exact x_ret rfl _ (hbad (.inr (.inl h3))) ((Ent.nilSl 1 _).trans Sub.h)
        · by_cases h4 : (L.length : Int) - at' < n
          · (refine r_op (o_move rfl rfl ?_); refine r_op (o_extract rfl rfl rfl ?_); refine r_op (o_extract rfl rfl rfl ?_); refine r_op (o_assign rfl rfl ?_); refine r_op (o_assign rfl rfl ?_); refine r_nil ?_; refine x_seq ?_; refine x_seq (x_region ?_); refine r_op (o_move rfl rfl ?_); refine r_op (o_neq_f rfl rfl (by omega) rfl ?_); refine r_nil ?_; refine x_false rfl ?_; refine x_skip ?_; refine x_seq ?_; refine x_seq (x_region ?_); refine r_op (o_move rfl rfl ?_); refine r_op (o_lss_f rfl rfl (by omega) rfl ?_); refine r_op (o_move rfl rfl ?_); refine r_guard rfl (o_move rfl rfl ?_); refine r_guard rfl (o_lss_f rfl rfl (by omega) rfl ?_); refine r_op (o_pick_f rfl rfl rfl ?_); refine r_op (o_move rfl rfl ?_); refine r_guard rfl (o_move rfl rfl ?_); refine r_guard rfl (o_move rfl rfl ?_); refine r_guard rfl (o_gtr_f rfl rfl (by omega) rfl ?_); refine r_op (o_pick_f rfl rfl rfl ?_); refine r_op (o_move rfl rfl ?_); refine r_guard rfl (o_move rfl rfl ?_); refine r_guard rfl (o_move rfl rfl ?_); refine r_guard rfl (o_move rfl rfl ?_); refine r_guard rfl (o_sub rfl rfl (sub_i64 (by omega)) rfl ?_); refine r_guard rfl (o_gtr_t rfl rfl (by omega) rfl ?_); refine r_op (o_pick_f rfl rfl rfl ?_); refine r_nil ?_; refine x_true rfl ?_; refine x_seq (x_region ?_); refine r_op (o_assign rfl rfl ?_); refine r_op (o_assign rfl rfl ?_); refine r_nil ?_)
            exact x_ret rfl _ (hbad (.inr (.inr (.inr h4)))) ((Ent.nilSl 1 _).trans Sub.h)
          · obtain ⟨p, rfl⟩ : ∃ p : Nat, at' = p := ⟨at'.toNat, by omega⟩
            obtain ⟨m, rfl⟩ : ∃ m : Nat, n = m := ⟨n.toNat, by omega⟩
            (refine r_op (o_move rfl rfl ?_); refine r_op (o_extract rfl rfl rfl ?_); refine r_op (o_extract rfl rfl rfl ?_); refine r_op (o_assign rfl rfl ?_); refine r_op (o_assign rfl rfl ?_); refine r_nil ?_)
            refine x_open (fun E w s => s.diskR) fun ⟨q, hq⟩ => ?_
            dsimp only
            have hiq : i < q.fs.length := by rw [hq.len]; exact hi
            obtain ⟨x, hx⟩ : ∃ x, q.fs[i] = x := ⟨_, rfl⟩
            have hxL : x.now.2.2 = L := by rw [← hL, hq.get hiq, hx]; rfl
            have RN := Sl.reads 1 q.la q.fs.length q.lc (nowsV q.fs) (by simp)
            have hld : (nowsV q.fs)[i]? = some (.slice x.now.1 L.length x.now.2.1) := by
              rw [show nowsV q.fs = q.fs.map fun x => sv x.now from rfl, List.getElem?_map, List.getElem?_eq_getElem hiq, hx]
              simp [sv, hxL]
            refine x_mem ((((Ent.focusC q.fs i hiq Γ).cons _).cons _).cons _ |>.cons _) ?_
            rw [hx]
            have RX := FileC.now x
            rw [hxL] at RX
            refine x_fact (p := L.length ≤ x.now.2.1) (fun E w s => ?_) fun hcap => ?_
            · have s1 := (Ent.fileC_out x _).st s.drop.drop.drop.drop
              have := (s1.drop.sl_split).2.1
              rwa [hxL] at this
            have R' := RX.sub x.now.2.1 p (p + m) (by omega) (by omega) hcap
            have e1 : ((L.map bv).drop (p * 1)).take ((p + m - p) * 1) = ((L.drop p).take m).map bv := by
              rw [show p + m - p = m by omega]; simp [List.map_drop, List.map_take]
            rw [e1] at R'
            (refine x_seq ?_; refine x_seq (x_region ?_); refine r_op (o_move rfl rfl ?_); refine r_op (o_neq_f rfl rfl (by omega) rfl ?_); refine r_nil ?_; refine x_false rfl ?_; refine x_skip ?_; refine x_seq ?_; refine x_seq (x_region ?_); refine r_op (o_move rfl rfl ?_); refine r_op (o_lss_f rfl rfl (by omega) rfl ?_); refine r_op (o_move rfl rfl ?_); refine r_guard rfl (o_move rfl rfl ?_); refine r_guard rfl (o_lss_f rfl rfl (by omega) rfl ?_); refine r_op (o_pick_f rfl rfl rfl ?_); refine r_op (o_move rfl rfl ?_); refine r_guard rfl (o_move rfl rfl ?_); refine r_guard rfl (o_move rfl rfl ?_); refine r_guard rfl (o_gtr_f rfl rfl (by omega) rfl ?_); refine r_op (o_pick_f rfl rfl rfl ?_); refine r_op (o_move rfl rfl ?_); refine r_guard rfl (o_move rfl rfl ?_); refine r_guard rfl (o_move rfl rfl ?_); refine r_guard rfl (o_move rfl rfl ?_); refine r_guard rfl (o_sub rfl rfl (sub_i64 (by omega)) rfl ?_); refine r_guard rfl (o_gtr_f rfl rfl (by omega) rfl ?_); refine r_op (o_pick_f rfl rfl rfl ?_); refine r_nil ?_; refine x_false rfl ?_; refine x_skip ?_; refine x_seq (x_region ?_); refine r_op (o_move rfl rfl ?_); refine r_op (o_nilCheck rfl rfl ?_); refine r_op (o_fieldAddr rfl rfl ?_); refine r_op (o_load rfl rfl rfl rfl ?_); refine r_op (o_move rfl rfl ?_))
            (refine r_op ?_)
            refine o_indexR rfl rfl RN (j := i) rfl hiq rfl (fun b1 off ha => ?_)
            (refine r_op ?_)
            refine o_loadR rfl RN ha (i := i) (by omega) hld rfl ?_
            (refine r_op (o_move rfl rfl ?_); refine r_op (o_move rfl rfl ?_); refine r_op (o_move rfl rfl ?_); refine r_op (o_add rfl rfl (add_i64 (by omega)) rfl ?_))
            (refine r_op ?_)
            refine o_slice rfl rfl rfl (jl := p) (jh := p + m) rfl (by simp) (by omega) (by omega) rfl ?_
            (refine r_op ?_)
            refine o_call rfl (copyBytes_spec R' (by omega)) rfl ?_
            rintro v B ⟨a', cap', rfl, rfl⟩
            (simp only [List.cons_append, List.nil_append])
            have e : d.read i p m = ((L.drop p).take m, 0) := by
              unfold Dk.read
              rw [if_neg (by simpa using h), if_neg (by rw [hL]; omega), hL]; simp
            have e2 : ((L.drop p).take m).length = p + m - p := by simp; omega
            rw [e]
            (refine r_op (o_assign rfl rfl ?_); refine r_op (o_assign rfl rfl ?_); refine r_nil ?_)
            refine x_ret rfl [DiskR b d, Sl 1 a' (p + m - p) cap' (((L.drop p).take m).map bv)] ⟨a', cap', by rw [e2]; rfl, by rw [e2]⟩ ?_
            refine (Sub.h (Δ := Row b 0 (q.cells d.off) :: Sl 1 q.la q.fs.length q.lc (nowsV q.fs) :: Sl 1 q.sa q.fs.length q.sc (safesV q.fs) :: Sl 1 q.na q.fs.length q.nc (hdrsV q.fs) :: FileC x :: Hole (fun _ x => FileC x) q.fs i :: Sl 1 a' (p + m - p) cap' (((L.drop p).take m).map bv) :: Γ)).trans ?_
            have hu := Ent.unfocusC q.fs i hiq (Sl 1 a' (p + m - p) cap' (((L.drop p).take m).map bv) :: Γ)
            rw [hx] at hu
            exact ((((hu.cons _).cons _).cons _).cons _).trans ((Ent.diskR q hq _).trans Sub.h)
  · have e : d.size f = (0, d.asks f) := by unfold Dk.size; rw [if_neg h]
    have e2 : d.read f at' n = ([], d.asks f) := by unfold Dk.read; rw [if_pos h]
    rw [e, e2]
    (refine r_op (o_move rfl rfl ?_); refine r_op (o_extract rfl rfl rfl ?_); refine r_op (o_extract rfl rfl rfl ?_); refine r_op (o_assign rfl rfl ?_); refine r_op (o_assign rfl rfl ?_); refine r_nil ?_; refine x_seq ?_; refine x_seq (x_region ?_); refine r_op (o_move rfl rfl ?_); refine r_op (o_neq_t rfl rfl (by omega) rfl ?_); refine r_nil ?_; refine x_true rfl ?_; refine x_seq (x_region ?_); refine r_op (o_move rfl rfl ?_); refine r_op (o_assign rfl rfl ?_); refine r_op (o_assign rfl rfl ?_); refine r_nil ?_)
    exact x_ret rfl [DiskR b d, Sl 1 none 0 0 []] ⟨none, 0, rfl, rfl⟩ ((Ent.nilSl 1 _).trans Sub.h)
end Go.Proofs.Ythneebbmodkjiaa
