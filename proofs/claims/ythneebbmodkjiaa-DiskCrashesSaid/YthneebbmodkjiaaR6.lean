/- Part of a proof over the seat Ythneebbmodkjiaa: module R6. Its claim's last module says what is proved. -/
import Derived.Test.YthneebbmodkjiaaR5
namespace Go.Proofs.Ythneebbmodkjiaa
open Go.Proofs

def mkCh (x : Nat × List UInt8) : Ch := ⟨false, x.1, x.2⟩
theorem chunks_step {m p : Nat} {bs : List UInt8} (h : bs ≠ []) : chunks (m + 1) p bs = (p, bs.take (min (64 - p % 64) bs.length)) :: chunks m (p + min (64 - p % 64) bs.length) (bs.drop (min (64 - p % 64) bs.length)) := by
  show (if bs = [] then [] else _) = _
  rw [if_neg h]
theorem Ent.fileC_snoc {x : FX} {a a3 : Option Addr} {c c3 p : Nat} {bs : List UInt8} (Γ : List HP) :
    Ent (Sl 3 a3 (x.chg.length + 1) c3 (x.chg.flatMap CX.cells ++ [.bool false, .int .i64 p, .slice a bs.length c]) :: Sl 1 a bs.length c (bs.map bv) :: Inn (x.chg.map CX.s) :: sp x.safe :: sp x.now :: Γ)
      (FileC ⟨x.safe, a3, c3, x.chg ++ [CX.mk false p (a, c, bs)], x.now⟩ :: Γ) := by
  refine (Ent.chg_snoc _).trans ?_
  refine (Sub.h (Δ := sp x.safe :: sp x.now :: Sl 3 a3 (x.chg ++ [CX.mk false p (a, c, bs)]).length c3 ((x.chg ++ [CX.mk false p (a, c, bs)]).flatMap CX.cells) :: Inn ((x.chg ++ [CX.mk false p (a, c, bs)]).map CX.s) :: Γ)).trans ?_
  exact Ent.fileC_in ⟨x.safe, a3, c3, x.chg ++ [CX.mk false p (a, c, bs)], x.now⟩ Γ
theorem Ent.fileC_now {x : FX} {y : BS} (Γ : List HP) : Ent (FileC x :: sp y :: Γ) (FileC ⟨x.safe, x.ca, x.cc, x.chg, y⟩ :: Γ) := by
  refine (Ent.fileC_out x _).trans ?_
  refine (Sub.h (Δ := sp x.safe :: sp y :: Sl 3 x.ca x.chg.length x.cc (x.chg.flatMap CX.cells) :: Inn (x.chg.map CX.s) :: Γ)).trans ?_
  exact Ent.fileC_in ⟨x.safe, x.ca, x.cc, x.chg, y⟩ Γ
theorem set_get {α : Type} (l : List α) (i : Nat) (v : α) (h : i < l.length) : (l.set i v)[i]? = some v := by simp [h]
set_option maxHeartbeats 1600000 in
theorem write9_spec {A : HP} (b : Nat) (d : Dk) (f at' : Int) {a : Option Addr} {cap : Nat} {bs : List UInt8} (R : Reads A 1 a bs.length (bs.map bv)) (hcap : bs.length ≤ cap) (hs : ∀ x ∈ d.fs, x.now.length ≤ 2 ^ 38 ∧ x.chg.length ≤ 2 ^ 38) :
    Spec Try.prog 58 [dp b, .int .i64 f, .int .i64 at', .slice a bs.length cap] [DiskR b d, A] (fun v B => v = .int .i64 (d.write f at' bs).2 ∧ B = [DiskR b (d.write f at' bs).1, A]) := by
  refine Spec.of_ex Try.func58 rfl Try.ntmps58 rfl fun E cs Γ => ?_
  (simp only [argRho, Nat.reduceAdd, List.cons_append, List.nil_append])
  refine x_open (fun E w s => s.diskR) fun ⟨q, hq⟩ => ?_
  dsimp only
  (refine x_seq (x_region ?_); refine r_op (o_assign rfl rfl ?_); refine r_nil ?_; refine x_seq (x_region ?_); refine r_op (o_move rfl rfl ?_); refine r_op (o_move rfl rfl ?_))
  (refine r_op ?_)
  refine o_call rfl (counts9d_spec b q d f hq) rfl ?_
  rintro v B ⟨rfl, left', bad', hurt', hfl, rfl⟩
  (simp only [List.cons_append, List.nil_append])
  by_cases h : d.counts f = 0
  · obtain ⟨h0, i, rfl, hi⟩ := counts_nz h
    have hiq : i < q.fs.length := by rw [hq.len]; exact hi
    have hsm : q.fs[i].now.2.2.length ≤ 2 ^ 38 ∧ q.fs[i].chg.length ≤ 2 ^ 38 := by
      have h1 : q.fs[i].abs ∈ fabs q.fs := List.mem_map_of_mem (List.getElem_mem _)
      rw [hq.fs] at h1
      have := hs _ h1
      simpa [FX.abs] using this
    have hg := hq.get hiq
    have hwr : (d.write i at' bs).1.off = d.step.off ∧ (d.write i at' bs).1.uo = d.step.uo ∧ (d.write i at' bs).1.ub = d.step.ub := by
      unfold Dk.write; rw [if_neg (by simpa using h)]; split
      · exact ⟨rfl, rfl, rfl⟩
      · split <;> exact ⟨rfl, rfl, rfl⟩
    have hset := fun (y : FX) (hd : (d.write i at' bs).1.fs = d.fs.set i y.abs) => Ent.diskR_set (b := b) (d' := (d.write i at' bs).1) (left := left') (bad := bad') (armed := q.armed) (hurt := hurt') q hiq y hq hd (by rw [hwr.1, hwr.2.1, hwr.2.2]; exact hfl) (A :: Γ)
    rw [hwr.1] at hset
    obtain ⟨x, hx⟩ : ∃ x, q.fs[i] = x := ⟨_, rfl⟩
    rw [hx] at hsm hg
    rw [h]
    have RN := Sl.reads 1 q.la q.fs.length q.lc (nowsV q.fs) (by simp)
    have hld : (nowsV q.fs)[i]? = some (sv x.now) := by
      rw [show nowsV q.fs = q.fs.map fun x => sv x.now from rfl, List.getElem?_map, List.getElem?_eq_getElem hiq, hx]; rfl
    have hnow : (d.file i).now = x.now.2.2 := by rw [hg]; rfl
    have hbad : at' < 0 ∨ (x.now.2.2.length : Int) < at' → d.write i at' bs = (d.step, 1) := fun hb => by
      unfold Dk.write; rw [if_neg (by simpa using h), if_pos (by rw [hnow]; exact hb)]
    by_cases h1 : at' < 0
    · rw [hbad (.inl h1)]
      (refine r_op (o_assign rfl rfl ?_); refine r_nil ?_; refine x_seq ?_; refine x_seq (x_region ?_); refine r_op (o_move rfl rfl ?_); refine r_op (o_neq_f rfl rfl (by omega) rfl ?_); refine r_nil ?_; refine x_false rfl ?_; refine x_skip ?_; refine x_seq ?_; refine x_seq (x_region ?_); refine r_op (o_move rfl rfl ?_); refine r_op (o_lss_t rfl rfl (by omega) rfl ?_); refine r_op (o_move rfl rfl ?_); refine r_skip rfl rfl rfl ?_; refine r_skip rfl rfl rfl ?_; refine r_skip rfl rfl rfl ?_; refine r_skip rfl rfl rfl ?_; refine r_skip rfl rfl rfl ?_; refine r_skip rfl rfl rfl ?_; refine r_skip rfl rfl rfl ?_; refine r_skip rfl rfl rfl ?_; refine r_skip rfl rfl rfl ?_; refine r_skip rfl rfl rfl ?_; refine r_op (o_pick_t rfl rfl rfl ?_); refine r_nil ?_; refine x_true rfl ?_; refine x_seq (x_region ?_); refine r_op (o_assign rfl rfl ?_); refine r_nil ?_)
      exact x_ret rfl [DiskR b d.step, A] ⟨rfl, rfl⟩ ((Ent.diskR_flags q hq (step_fs d) hfl (A :: Γ)).trans Sub.h)
    · (refine r_op (o_assign rfl rfl ?_); refine r_nil ?_; refine x_seq ?_; refine x_seq (x_region ?_); refine r_op (o_move rfl rfl ?_); refine r_op (o_neq_f rfl rfl (by omega) rfl ?_); refine r_nil ?_; refine x_false rfl ?_; refine x_skip ?_; refine x_seq ?_; refine x_seq (x_region ?_); refine r_op (o_move rfl rfl ?_); refine r_op (o_lss_f rfl rfl (by omega) rfl ?_); refine r_op (o_move rfl rfl ?_); refine r_guard rfl (o_move rfl rfl ?_); refine r_guard rfl (o_move rfl rfl ?_); refine r_guard rfl (o_nilCheck rfl rfl ?_); refine r_guard rfl (o_fieldAddr rfl rfl ?_); refine r_guard rfl (o_load rfl rfl rfl rfl ?_); refine r_guard rfl (o_move rfl rfl ?_))
      (refine r_guard rfl ?_)
      refine o_indexR rfl rfl RN (j := i) rfl hiq rfl (fun b1 off ha => ?_)
      (refine r_guard rfl ?_)
      refine o_loadR rfl RN ha (i := i) (by omega) hld rfl ?_
      (refine r_guard rfl (o_lenS rfl rfl ?_))
      by_cases h2 : (x.now.2.2.length : Int) < at'
      · rw [hbad (.inr h2)]
        (refine r_guard rfl (o_gtr_t rfl rfl (by omega) rfl ?_); refine r_op (o_pick_f rfl rfl rfl ?_); refine r_nil ?_; refine x_true rfl ?_; refine x_seq (x_region ?_); refine r_op (o_assign rfl rfl ?_); refine r_nil ?_)
        exact x_ret rfl [DiskR b d.step, A] ⟨rfl, rfl⟩ ((Ent.diskR_flags q hq (step_fs d) hfl (A :: Γ)).trans Sub.h)
      · obtain ⟨p, rfl⟩ : ∃ p : Nat, at' = p := ⟨at'.toNat, by omega⟩
        by_cases h3 : 131072 - (p : Int) < (bs.length : Int)
        · have ed : d.write i p bs = (d.step, 5) := by
            unfold Dk.write; rw [if_neg (by simpa using h), if_neg (by rw [hnow]; omega), if_pos h3]
          rw [ed]
          (refine r_guard rfl (o_gtr_f rfl rfl (by omega) rfl ?_); refine r_op (o_pick_f rfl rfl rfl ?_); refine r_nil ?_; refine x_false rfl ?_; refine x_skip ?_; refine x_seq ?_; refine x_seq (x_region ?_); refine r_op (o_move rfl rfl ?_); refine r_op (o_lenS rfl rfl ?_); refine r_op (o_move rfl rfl ?_); refine r_op (o_sub rfl rfl (sub_i64 (by omega)) rfl ?_); refine r_op (o_gtr_t rfl rfl (by omega) rfl ?_); refine r_nil ?_; refine x_true rfl ?_; refine x_seq (x_region ?_); refine r_op (o_assign rfl rfl ?_); refine r_nil ?_)
          exact x_ret rfl [DiskR b d.step, A] ⟨rfl, rfl⟩ ((Ent.diskR_flags q hq (step_fs d) hfl (A :: Γ)).trans Sub.h)
        · have ed : d.write i p bs = ({ d.step with fs := d.fs.set i (x.abs.write p bs) }, 0) := by
            unfold Dk.write; rw [if_neg (by simpa using h), if_neg (by rw [hnow]; omega), if_neg h3, hg]; simp
          rw [ed] at hset ⊢
          have hbl : p + bs.length ≤ 131072 := by omega
          (refine r_guard rfl (o_gtr_f rfl rfl (by omega) rfl ?_); refine r_op (o_pick_f rfl rfl rfl ?_); refine r_nil ?_; refine x_false rfl ?_; refine x_skip ?_; refine x_seq ?_; refine x_seq (x_region ?_); refine r_op (o_move rfl rfl ?_); refine r_op (o_lenS rfl rfl ?_); refine r_op (o_move rfl rfl ?_); refine r_op (o_sub rfl rfl (sub_i64 (by omega)) rfl ?_); refine r_op (o_gtr_f rfl rfl (by omega) rfl ?_); refine r_nil ?_; refine x_false rfl ?_; refine x_skip ?_; refine x_seq ?_)
          obtain ⟨FL, hFL⟩ : ∃ FL : List Value, [.slice q.la q.fs.length q.lc, .slice q.sa q.fs.length q.sc, .slice q.na q.fs.length q.nc, .int .i64 left', .int .i64 bad', .bool q.armed, .bool d.step.off, .bool hurt'] = FL := ⟨_, rfl⟩
          have RH := Sl.reads 1 q.na q.fs.length q.nc (hdrsV q.fs) (by simp)
          refine x_mem ((((Ent.focusC q.fs i hiq (A :: Γ)).cons _).cons _).cons _ |>.cons _) ?_
          rw [hx]
          have hnl := hsm.1
          refine x_base RN (by omega) fun b1 o1 ha1 => ?_
          refine x_base RH (by omega) fun b2 o2 ha2 => ?_
          refine x_script 16 [(0,false),(1,false),(2,false),(3,false),(4,false),(5,false),(6,false),(7,false),(8,false),(9,false),(10,false),(11,false),(12,false),(13,false),(14,true),(15,false),(16,true)]
            [Row b 0 [.slice q.la q.fs.length q.lc, .slice q.sa q.fs.length q.sc, .slice q.na q.fs.length q.nc, .int .i64 left', .int .i64 bad', .bool q.armed, .bool d.step.off, .bool hurt'], Sl 1 q.la q.fs.length q.lc (nowsV q.fs)] mixed (by kernel_rfl) permF ?_
          (refine s_v rfl (v_move rfl) ?_; refine s_v rfl (v_nilCheck rfl) ?_; refine s_v rfl (v_fieldAddr rfl) ?_; refine s_v rfl (v_load rfl rfl rfl) ?_; refine s_v rfl (v_move rfl) ?_; refine s_v rfl (v_move rfl) ?_; refine s_v rfl (v_nilCheck rfl) ?_; refine s_v rfl (v_fieldAddr rfl) ?_; refine s_v rfl (v_load rfl rfl rfl) ?_; refine s_v rfl (v_move rfl) ?_)
          refine s_v rfl (v_indexH rfl rfl ha1 (j := i) rfl hiq) ?_
          refine s_v rfl (v_loadR rfl RN ha1 (i := i) (by omega) hld) ?_
          (refine s_v rfl (v_move rfl) ?_; refine s_v rfl (v_move rfl) ?_)
          refine s_x rfl (o_call rfl (over9_spec (FileC.now x) R (by omega) (by omega)) rfl ?_)
          rintro v B ⟨a', c', rfl, rfl⟩
          refine ⟨permF, ?_⟩
          (simp only [List.cons_append, List.nil_append])
          refine s_v rfl (v_indexH rfl rfl ha1 (j := i) rfl hiq) ?_
          refine s_xt rfl rfl ?_
          refine o_storeS rfl rfl rfl ha1 (i := i) (by omega) (by simpa using hiq) ?_
          refine s_end rfl ?_
          have hck := chunks_length bs.length p bs
          refine x_mem (Γ' := FileC x :: sp (a', c', over x.now.2.2 p bs) :: Row b 0 [.slice q.la q.fs.length q.lc, .slice q.sa q.fs.length q.sc, .slice q.na q.fs.length q.nc, .int .i64 left', .int .i64 bad', .bool q.armed, .bool d.step.off, .bool hurt'] :: Sl 1 q.la q.fs.length q.lc ((nowsV q.fs).set i (sv (a', c', over x.now.2.2 p bs))) :: Sl 1 q.sa q.fs.length q.sc (safesV q.fs) :: Sl 1 q.na q.fs.length q.nc (hdrsV q.fs) :: Hole (fun _ x => FileC x) q.fs i :: A :: Γ) Sub.h ?_
          refine x_mem (Ent.fileC_now _) ?_
          obtain ⟨N, hN⟩ : ∃ N : BS, (a', c', over x.now.2.2 p bs) = N := ⟨_, rfl⟩
          rw [hN]
          (refine x_seq ?_)
          (refine x_block ?_)
          have e0 : hdrsV q.fs = (hdrsV q.fs).set i (.slice x.ca x.chg.length x.cc) := by
            have hlh : (hdrsV q.fs)[i]? = some (.slice x.ca x.chg.length x.cc) := by
              rw [show hdrsV q.fs = q.fs.map hdr from rfl, List.getElem?_map, List.getElem?_eq_getElem hiq, hx]; rfl
            rw [← List.getElem?_eq_some_iff.1 hlh |>.2]; exact (set_self _ _ _).symm
          rw [e0]
          obtain ⟨H, hH⟩ : ∃ H, hdrsV q.fs = H := ⟨_, rfl⟩
          have hHl : H.length = q.fs.length := by rw [← hH]; simp
          rw [hH]
          refine x_loop (α := (Option Addr × Nat × List CX) × Nat × Nat × List UInt8 × Option Addr × Nat) (fun z => z.1.2.2.map CX.abs ++ (chunks z.2.1 z.2.2.1 z.2.2.2.1).map mkCh = x.chg.map CX.abs ++ newChg p bs ∧ z.2.2.2.1.length ≤ z.2.1 ∧ Reads A 1 z.2.2.2.2.1 z.2.2.2.1.length (z.2.2.2.1.map bv) ∧ z.2.2.2.1.length ≤ z.2.2.2.2.2 ∧ z.2.2.1 + z.2.2.2.1.length ≤ 131072 ∧ z.1.2.2.length + z.2.1 ≤ x.chg.length + bs.length)
            (fun z => [(0, dp b), (1, .int .i64 i), (2, .int .i64 z.2.2.1), (3, .slice z.2.2.2.2.1 z.2.2.2.1.length z.2.2.2.2.2)])
            (fun z => FileC ⟨x.safe, z.1.1, z.1.2.1, z.1.2.2, N⟩ :: Row b 0 [.slice q.la q.fs.length q.lc, .slice q.sa q.fs.length q.sc, .slice q.na q.fs.length q.nc, .int .i64 left', .int .i64 bad', .bool q.armed, .bool d.step.off, .bool hurt'] :: Sl 1 q.la q.fs.length q.lc ((nowsV q.fs).set i (sv N)) :: Sl 1 q.sa q.fs.length q.sc (safesV q.fs) :: Sl 1 q.na q.fs.length q.nc (H.set i (.slice z.1.1 z.1.2.2.length z.1.2.1)) :: Hole (fun _ x => FileC x) q.fs i :: A :: Γ)
            (fun z => z.2.2.2.1.length) ((x.ca, x.cc, x.chg), bs.length, p, bs, a, cap) ⟨rfl, Nat.le_refl _, R, hcap, hbl, Nat.le_refl _⟩ ⟨rfl, rfl, rfl, rfl, trivial⟩ Sub.h ?_
          rintro ⟨⟨ca, cc, chg⟩, m, p', bs', a2, c2⟩ ⟨g1, g2, g3, g4, g5, g6⟩ back
          dsimp only at g1 g2 g3 g4 g5 g6 back ⊢
          (refine x_seq ?_; refine x_seq (x_region ?_); refine r_op (o_move rfl rfl ?_); refine r_op (o_lenS rfl rfl ?_))
          (refine r_op ?_)
          refine o_gtr rfl rfl rfl (fun h5 => ?_) (fun h5 => ?_)
          · have hne : bs' ≠ [] := by rintro rfl; simp at h5
            obtain ⟨m, rfl⟩ : ∃ m', m = m' + 1 := ⟨m - 1, by omega⟩
            rw [chunks_step hne] at g1
            obtain ⟨n, hn⟩ : ∃ n, min (64 - p' % 64) bs'.length = n := ⟨_, rfl⟩
            rw [hn] at g1
            (refine r_nil ?_; refine x_true rfl ?_; refine x_skip ?_; refine x_block ?_; refine x_seq (x_region ?_); refine r_op (o_move rfl rfl ?_); refine r_op (o_lenS rfl rfl ?_); refine r_op (o_move rfl rfl ?_))
            (refine r_op ?_)
            refine o_rem rfl rfl (by omega) (by omega) rfl ?_
            (refine r_op (o_sub rfl rfl (sub_i64 (by omega)) rfl ?_); refine r_op (o_min rfl rfl rfl ?_); refine r_op (o_assign rfl rfl ?_); refine r_nil ?_; refine x_seq ?_)
            rw [show min (bs'.length : Int) (64 - (p' : Int) % 64) = (n : Int) by omega]
            skip
            have RH2 := Sl.reads 1 q.na q.fs.length q.nc (H.set i (.slice ca chg.length cc)) (by simp [hHl])
            have hlh := set_get H i (.slice ca chg.length cc) (by omega)
            have R1 := g3.firstN n (by omega)
            have e1 : ((bs'.map bv).take (n * 1)) = (bs'.take n).map bv := by simp [List.map_take]
            rw [e1] at R1
            have R2 := g3.sub c2 n bs'.length (by omega) (Nat.le_refl _) g4
            have e2 : ((bs'.map bv).drop (n * 1)).take ((bs'.length - n) * 1) = (bs'.drop n).map bv := by
              rw [Nat.mul_one, Nat.mul_one, List.take_of_length_le (by simp), List.map_drop]
            have el : (bs'.drop n).length = bs'.length - n := by simp
            rw [e2] at R2
            refine x_mem (Ent.fileC_out _ _) ?_
            dsimp only
            refine x_script 21 [(0,false),(1,false),(2,false),(3,false),(4,false),(5,false),(6,false),(7,false),(8,false),(9,false),(10,false),(11,false),(12,false),(13,false),(14,false),(15,false),(16,true),(17,false),(18,true),(19,true),(20,false),(21,true)]
              [Row b 0 [.slice q.la q.fs.length q.lc, .slice q.sa q.fs.length q.sc, .slice q.na q.fs.length q.nc, .int .i64 left', .int .i64 bad', .bool q.armed, .bool d.step.off, .bool hurt'], Sl 1 q.na q.fs.length q.nc (H.set i (.slice ca chg.length cc))] mixed (by kernel_rfl) permF ?_
            (refine s_v rfl (v_move rfl) ?_; refine s_v rfl (v_nilCheck rfl) ?_; refine s_v rfl (v_fieldAddr rfl) ?_; refine s_v rfl (v_load rfl rfl rfl) ?_; refine s_v rfl (v_move rfl) ?_; refine s_v rfl (v_move rfl) ?_; refine s_v rfl (v_nilCheck rfl) ?_; refine s_v rfl (v_fieldAddr rfl) ?_; refine s_v rfl (v_load rfl rfl rfl) ?_; refine s_v rfl (v_move rfl) ?_)
            refine s_v rfl (v_indexH rfl rfl ha2 (j := i) rfl hiq) ?_
            refine s_v rfl (v_loadR rfl RH2 ha2 (i := i) (by omega) hlh) ?_
            (refine s_v rfl (v_move rfl) ?_; refine s_v rfl (v_move rfl) ?_; refine s_v rfl (v_move rfl) ?_)
            refine s_v rfl (v_sliceHi rfl rfl (jh := n) rfl (by omega)) ?_
            refine s_x rfl (o_call rfl (copyBytes_spec R1 (by omega)) rfl ?_)
            rintro v B ⟨a5, c5, rfl, rfl⟩
            refine ⟨permF, ?_⟩
            (simp only [List.cons_append, List.nil_append])
            refine s_v rfl (v_build rfl (by rfl)) ?_
            refine s_x rfl (o_buildSlice rfl (by rfl) (by rfl) (by rfl) (by rfl) rfl (fun a6 => ?_))
            refine ⟨permF, ?_⟩
            refine s_x rfl (o_appendT rfl rfl (by rfl) (by rfl) (by rfl) (by omega) rfl (fun a3 c3 hc => ?_))
            refine ⟨permF, ?_⟩
            refine s_v rfl (v_indexH rfl rfl ha2 (j := i) rfl hiq) ?_
            refine s_xt rfl rfl ?_
            refine o_storeS rfl rfl rfl ha2 (i := i) (by omega) (by simp [hHl]; exact hiq) ?_
            rw [List.set_set]
            refine s_end rfl ?_
            skip
            have elt : (bs'.take n).length = n := by simp; omega
            refine x_mem (Γ' := Sl 3 a3 (chg.length + 1) c3 (chg.flatMap CX.cells ++ [.bool false, .int .i64 p', .slice a5 n c5]) :: Sl 1 a5 n c5 ((bs'.take n).map bv) :: Inn (chg.map CX.s) :: sp x.safe :: sp N :: Row b 0 [.slice q.la q.fs.length q.lc, .slice q.sa q.fs.length q.sc, .slice q.na q.fs.length q.nc, .int .i64 left', .int .i64 bad', .bool q.armed, .bool d.step.off, .bool hurt'] :: Sl 1 q.la q.fs.length q.lc ((nowsV q.fs).set i (sv N)) :: Sl 1 q.sa q.fs.length q.sc (safesV q.fs) :: Sl 1 q.na q.fs.length q.nc (H.set i (.slice a3 (chg.length + 1) c3)) :: Hole (fun _ x => FileC x) q.fs i :: A :: Γ) Sub.h ?_
            have hsn := Ent.fileC_snoc (x := ⟨x.safe, ca, cc, chg, N⟩) (a := a5) (a3 := a3) (c := c5) (c3 := c3) (p := p') (bs := bs'.take n) (Row b 0 [.slice q.la q.fs.length q.lc, .slice q.sa q.fs.length q.sc, .slice q.na q.fs.length q.nc, .int .i64 left', .int .i64 bad', .bool q.armed, .bool d.step.off, .bool hurt'] :: Sl 1 q.la q.fs.length q.lc ((nowsV q.fs).set i (sv N)) :: Sl 1 q.sa q.fs.length q.sc (safesV q.fs) :: Sl 1 q.na q.fs.length q.nc (H.set i (.slice a3 (chg.length + 1) c3)) :: Hole (fun _ x => FileC x) q.fs i :: A :: Γ)
            dsimp only at hsn
            rw [elt] at hsn
            refine x_mem hsn ?_
            refine x_script 0 [(0,false),(1,false),(2,false),(3,false),(4,false),(5,false),(6,false),(7,false)] [] mixed (by kernel_rfl) perm0 ?_
            (refine s_v rfl (v_move rfl) ?_; refine s_v rfl (v_move rfl) ?_)
            refine s_v rfl (v_add rfl rfl (add_i64 (by omega))) ?_
            (refine s_v rfl (v_move rfl) ?_; refine s_v rfl (v_move rfl) ?_)
            refine s_v rfl (v_sliceLo rfl rfl (jl := n) rfl (by omega)) ?_
            (refine s_v rfl (v_assign rfl) ?_; refine s_v rfl (v_assign rfl) ?_)
            refine s_end rfl ?_
            (refine x_inBlock ?_)
            have e3 : (chg ++ [CX.mk false p' (a5, c5, bs'.take n)]).length = chg.length + 1 := by simp
            have hb := back ((a3, c3, chg ++ [CX.mk false p' (a5, c5, bs'.take n)]), m, p' + n, bs'.drop n, shA 1 a2 c2 n, c2 - n) ⟨by
                rw [← g1]; simp [CX.abs, mkCh], by dsimp only; omega, by dsimp only; rw [el]; exact R2, by dsimp only; omega, by dsimp only; omega, by dsimp only; rw [e3]; omega⟩ (by dsimp only; omega)
            dsimp only at hb
            rw [e3, el, Int.natCast_add] at hb
            refine x_weak (hb) (by (repeat' (first | exact trivial | refine ⟨rfl, ?_⟩))) Sub.h
          · obtain rfl : bs' = [] := List.length_eq_zero_iff.1 (by omega)
            have g1' : chg.map CX.abs = x.chg.map CX.abs ++ newChg p bs := by
              rw [← g1]; cases m <;> simp [chunks]
            (refine r_nil ?_; refine x_false rfl ?_; refine x_exit rfl ?_; refine x_seq (x_region ?_); refine r_op (o_assign rfl rfl ?_); refine r_nil ?_)
            refine x_ret rfl [DiskR b { d.step with fs := d.fs.set i (x.abs.write p bs) }, A] ⟨rfl, rfl⟩ ?_
            have hl := hset ⟨x.safe, ca, cc, chg, N⟩ (by rw [← hN]; simp [FX.abs, Fl.write, g1'])
            have hls : (safesV q.fs)[i]? = some (sv x.safe) := by
              rw [show safesV q.fs = q.fs.map fun x => sv x.safe from rfl, List.getElem?_map, List.getElem?_eq_getElem hiq, hx]; rfl
            rw [show (safesV q.fs).set i (sv x.safe) = safesV q.fs by
              rw [← List.getElem?_eq_some_iff.1 hls |>.2]; exact set_self _ _ _, hH] at hl
            dsimp only [hdr] at hl
            exact Ent.trans Sub.h (hl.trans Sub.h)
  · have ed : d.write f at' bs = (d.step, d.counts f) := by unfold Dk.write; rw [if_pos h]
    rw [ed]
    (refine r_op (o_assign rfl rfl ?_); refine r_nil ?_; refine x_seq ?_; refine x_seq (x_region ?_); refine r_op (o_move rfl rfl ?_); refine r_op (o_neq_t rfl rfl (by omega) rfl ?_); refine r_nil ?_; refine x_true rfl ?_; refine x_seq (x_region ?_); refine r_op (o_move rfl rfl ?_); refine r_op (o_assign rfl rfl ?_); refine r_nil ?_)
    exact x_ret rfl [DiskR b d.step, A] ⟨rfl, rfl⟩ ((Ent.diskR_flags q hq (step_fs d) hfl (A :: Γ)).trans Sub.h)
end Go.Proofs.Ythneebbmodkjiaa
