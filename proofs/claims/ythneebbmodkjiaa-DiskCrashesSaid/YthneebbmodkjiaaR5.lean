/- Part of a proof over the seat Ythneebbmodkjiaa: module R5. Its claim's last module says what is proved. -/
import Derived.Test.YthneebbmodkjiaaR4
namespace Go.Proofs.Ythneebbmodkjiaa
open Go.Proofs

theorem Ent.fileC_sync {x : FX} {a : Option Addr} {c : Nat} (Γ : List HP) : Ent (FileC x :: Sl 1 a x.now.2.2.length c (x.now.2.2.map bv) :: Γ) (FileC ⟨(a, c, x.now.2.2), none, 0, [], x.now⟩ :: Γ) := by
  refine (Ent.fileC_out x _).trans ?_
  refine (Sub.h (Δ := Sl 1 a x.now.2.2.length c (x.now.2.2.map bv) :: sp x.now :: Γ)).trans ?_
  refine ((Ent.inn_nil Γ).cons _ |>.cons _).trans ?_
  refine (((Ent.nilSl 3 _).cons _).cons _).trans ?_
  exact Ent.fileC_in ⟨(a, c, x.now.2.2), none, 0, [], x.now⟩ Γ
theorem sync9_spec (b : Nat) (d : Dk) (f : Int) (hs : d.small) : Spec Try.prog 50 [dp b, .int .i64 f] [DiskR b d] (fun v B => v = .int .i64 (d.sync f).2 ∧ B = [DiskR b (d.sync f).1]) := by
  refine Spec.of_ex Try.func50 rfl Try.ntmps50 rfl fun E cs Γ => ?_
  (simp only [argRho, Nat.reduceAdd, List.cons_append, List.nil_append])
  refine x_open (fun E w s => s.diskR) fun ⟨q, hq⟩ => ?_
  dsimp only
  (refine x_seq (x_region ?_); refine r_op (o_assign rfl rfl ?_); refine r_nil ?_; refine x_seq (x_region ?_); refine r_op (o_move rfl rfl ?_); refine r_op (o_move rfl rfl ?_))
  (refine r_op ?_)
  refine o_call rfl (counts9d_spec b q d f hq) rfl ?_
  rintro v B ⟨rfl, left', bad', hurt', hfl, rfl⟩
  (simp only [List.cons_append, List.nil_append])
  by_cases h : d.counts f = 0
  · obtain ⟨h0, i, rfl, hi⟩ := counts_nz h
    have hiq : i < q.fs.length := by rw [hq.len]; exact hi
    have hsm := hq.small hs hiq
    have hg := hq.get hiq
    have hset := fun (y : FX) (hd : (d.sync i).1.fs = d.fs.set i y.abs) => Ent.diskR_set (b := b) (d' := (d.sync i).1) (left := left') (bad := bad') (armed := q.armed) (hurt := hurt') q hiq y hq hd (by unfold Dk.sync; rw [if_neg (by simpa using h)]; exact hfl) Γ
    obtain ⟨x, hx⟩ : ∃ x, q.fs[i] = x := ⟨_, rfl⟩
    rw [hx] at hsm hg
    have ed : d.sync i = ({ d.step with fs := d.fs.set i x.abs.sync }, 0) := by
      unfold Dk.sync; rw [if_neg (by simpa using h), hg]; simp
    rw [ed] at hset ⊢
    rw [h]
    have RN := Sl.reads 1 q.la q.fs.length q.lc (nowsV q.fs) (by simp)
    have RS := Sl.reads 1 q.sa q.fs.length q.sc (safesV q.fs) (by simp)
    have RH := Sl.reads 1 q.na q.fs.length q.nc (hdrsV q.fs) (by simp)
    have hld : (nowsV q.fs)[i]? = some (sv x.now) := by
      rw [show nowsV q.fs = q.fs.map fun x => sv x.now from rfl, List.getElem?_map, List.getElem?_eq_getElem hiq, hx]; rfl
    refine r_mem ((((Ent.focusC q.fs i hiq Γ).cons _).cons _).cons _ |>.cons _) ?_
    rw [hx]
    (refine r_op (o_assign rfl rfl ?_); refine r_nil ?_; refine x_seq ?_; refine x_seq (x_region ?_); refine r_op (o_move rfl rfl ?_); refine r_op (o_neq_f rfl rfl (by omega) rfl ?_); refine r_nil ?_; refine x_false rfl ?_; refine x_skip ?_; refine x_seq ?_)
    refine x_base RN (by omega) fun b1 o1 ha1 => ?_
    refine x_base RS (by omega) fun b2 o2 ha2 => ?_
    refine x_script 14 [(0,false),(1,false),(2,false),(3,false),(4,false),(5,false),(6,false),(7,false),(8,false),(9,false),(10,false),(11,false),(12,true),(13,false),(14,true)]
      [Row b 0 [.slice q.la q.fs.length q.lc, .slice q.sa q.fs.length q.sc, .slice q.na q.fs.length q.nc, .int .i64 left', .int .i64 bad', .bool q.armed, .bool d.step.off, .bool hurt'], Sl 1 q.la q.fs.length q.lc (nowsV q.fs)] mixed (by kernel_rfl) permF ?_
    (refine s_v rfl (v_move rfl) ?_; refine s_v rfl (v_nilCheck rfl) ?_; refine s_v rfl (v_fieldAddr rfl) ?_; refine s_v rfl (v_load rfl rfl rfl) ?_; refine s_v rfl (v_move rfl) ?_; refine s_v rfl (v_move rfl) ?_; refine s_v rfl (v_nilCheck rfl) ?_; refine s_v rfl (v_fieldAddr rfl) ?_; refine s_v rfl (v_load rfl rfl rfl) ?_; refine s_v rfl (v_move rfl) ?_)
    refine s_v rfl (v_indexH rfl rfl ha1 (j := i) rfl hiq) ?_
    refine s_v rfl (v_loadR rfl RN ha1 (i := i) (by omega) hld) ?_
    refine s_x rfl (o_call rfl (copyBytes_spec (FileC.now x) (by omega)) rfl ?_)
    rintro v B ⟨a', c', rfl, rfl⟩
    refine ⟨permF, ?_⟩
    (simp only [List.cons_append, List.nil_append])
    skip
    refine s_v rfl (v_indexH rfl rfl ha2 (j := i) rfl hiq) ?_
    refine s_xt rfl rfl ?_
    refine o_storeS rfl rfl rfl ha2 (i := i) (by omega) (by simpa using hiq) ?_
    refine s_end rfl ?_
    (refine x_seq (x_region ?_); refine r_op (o_move rfl rfl ?_); refine r_op (o_nilCheck rfl rfl ?_); refine r_op (o_fieldAddr rfl rfl ?_); refine r_op (o_load rfl rfl rfl rfl ?_); refine r_op (o_move rfl rfl ?_))
    (refine r_op ?_)
    refine o_indexR rfl rfl RH (j := i) rfl hiq rfl (fun b3 off ha => ?_)
    (refine r_do ?_)
    refine o_storeS rfl rfl rfl ha (i := i) (by omega) (by simpa using hiq) ?_
    (refine r_nil ?_; refine x_seq (x_region ?_); refine r_op (o_assign rfl rfl ?_); refine r_nil ?_)
    refine x_ret rfl [DiskR b { d.step with fs := d.fs.set i x.abs.sync }] ⟨rfl, rfl⟩ ?_
    have hl := hset ⟨(a', c', x.now.2.2), none, 0, [], x.now⟩ rfl
    rw [show (nowsV q.fs).set i (sv x.now) = nowsV q.fs by
      rw [← List.getElem?_eq_some_iff.1 hld |>.2]; exact set_self _ _ _] at hl
    dsimp only [hdr, List.length_nil] at hl
    refine Ent.trans ?_ (hl.trans Sub.h)
    refine (Sub.h (Δ := FileC x :: Sl 1 a' x.now.2.2.length c' (x.now.2.2.map bv) :: Row b 0 [.slice q.la q.fs.length q.lc, .slice q.sa q.fs.length q.sc, .slice q.na q.fs.length q.nc, .int .i64 left', .int .i64 bad', .bool q.armed, .bool d.step.off, .bool hurt'] ::
      Sl 1 q.la q.fs.length q.lc (nowsV q.fs) :: Sl 1 q.sa q.fs.length q.sc ((safesV q.fs).set i (sv (a', c', x.now.2.2))) :: Sl 1 q.na q.fs.length q.nc ((hdrsV q.fs).set i (.slice none 0 0)) :: Hole (fun _ x => FileC x) q.fs i :: Γ)).trans ((Ent.fileC_sync _).trans ?_)
    exact Sub.h
  · have ed : d.sync f = (d.step, d.counts f) := by unfold Dk.sync; rw [if_pos h]
    rw [ed]
    (refine r_op (o_assign rfl rfl ?_); refine r_nil ?_; refine x_seq ?_; refine x_seq (x_region ?_); refine r_op (o_move rfl rfl ?_); refine r_op (o_neq_t rfl rfl (by omega) rfl ?_); refine r_nil ?_; refine x_true rfl ?_; refine x_seq (x_region ?_); refine r_op (o_move rfl rfl ?_); refine r_op (o_assign rfl rfl ?_); refine r_nil ?_)
    exact x_ret rfl [DiskR b d.step] ⟨rfl, rfl⟩ ((Ent.diskR_flags q hq (step_fs d) hfl Γ).trans Sub.h)

theorem cut9_spec (b : Nat) (d : Dk) (f n : Int) (hs : d.small) : Spec Try.prog 49 [dp b, .int .i64 f, .int .i64 n] [DiskR b d] (fun v B => v = .int .i64 (d.cut f n).2 ∧ B = [DiskR b (d.cut f n).1]) := by
  refine Spec.of_ex Try.func49 rfl Try.ntmps49 rfl fun E cs Γ => ?_
  (simp only [argRho, Nat.reduceAdd, List.cons_append, List.nil_append])
  refine x_open (fun E w s => s.diskR) fun ⟨q, hq⟩ => ?_
  dsimp only
  (refine x_seq (x_region ?_); refine r_op (o_assign rfl rfl ?_); refine r_nil ?_; refine x_seq (x_region ?_); refine r_op (o_move rfl rfl ?_); refine r_op (o_move rfl rfl ?_))
  (refine r_op ?_)
  refine o_call rfl (counts9d_spec b q d f hq) rfl ?_
  rintro v B ⟨rfl, left', bad', hurt', hfl, rfl⟩
  (simp only [List.cons_append, List.nil_append])
  by_cases h : d.counts f = 0
  · obtain ⟨h0, i, rfl, hi⟩ := counts_nz h
    have hiq : i < q.fs.length := by rw [hq.len]; exact hi
    have hsm := hq.small hs hiq
    have hg := hq.get hiq
    have hcut : (d.cut i n).1.off = d.step.off ∧ (d.cut i n).1.uo = d.step.uo ∧ (d.cut i n).1.ub = d.step.ub := by
      unfold Dk.cut; rw [if_neg (by simpa using h)]; split <;> exact ⟨rfl, rfl, rfl⟩
    have hset := fun (y : FX) (hd : (d.cut i n).1.fs = d.fs.set i y.abs) => Ent.diskR_set (b := b) (d' := (d.cut i n).1) (left := left') (bad := bad') (armed := q.armed) (hurt := hurt') q hiq y hq hd (by rw [hcut.1, hcut.2.1, hcut.2.2]; exact hfl) Γ
    rw [hcut.1] at hset
    obtain ⟨x, hx⟩ : ∃ x, q.fs[i] = x := ⟨_, rfl⟩
    rw [hx] at hsm hg
    rw [h]
    have RN := Sl.reads 1 q.la q.fs.length q.lc (nowsV q.fs) (by simp)
    have RH := Sl.reads 1 q.na q.fs.length q.nc (hdrsV q.fs) (by simp)
    have hld : (nowsV q.fs)[i]? = some (sv x.now) := by
      rw [show nowsV q.fs = q.fs.map fun x => sv x.now from rfl, List.getElem?_map, List.getElem?_eq_getElem hiq, hx]; rfl
    have hlh : (hdrsV q.fs)[i]? = some (.slice x.ca x.chg.length x.cc) := by
      rw [show hdrsV q.fs = q.fs.map hdr from rfl, List.getElem?_map, List.getElem?_eq_getElem hiq, hx]; rfl
    have hnow : (d.file i).now = x.now.2.2 := by rw [hg]; rfl
    (refine r_op (o_assign rfl rfl ?_); refine r_nil ?_; refine x_seq ?_; refine x_seq (x_region ?_); refine r_op (o_move rfl rfl ?_); refine r_op (o_neq_f rfl rfl (by omega) rfl ?_); refine r_nil ?_; refine x_false rfl ?_; refine x_skip ?_; refine x_seq ?_; refine x_seq (x_region ?_); refine r_op (o_move rfl rfl ?_); refine r_op (o_move rfl rfl ?_); refine r_op (o_nilCheck rfl rfl ?_); refine r_op (o_fieldAddr rfl rfl ?_); refine r_op (o_load rfl rfl rfl rfl ?_); refine r_op (o_move rfl rfl ?_))
    (refine r_op ?_)
    refine o_indexR rfl rfl RN (j := i) rfl hiq rfl (fun b1 off ha => ?_)
    (refine r_op ?_)
    refine o_loadR rfl RN ha (i := i) (by omega) hld rfl ?_
    (refine r_op (o_lenS rfl rfl ?_))
    (refine r_op ?_)
    refine o_call rfl (num_spec n x.now.2.2.length) rfl ?_
    rintro v B ⟨rfl, rfl⟩
    (simp only [List.nil_append])
    by_cases hn : 0 ≤ n ∧ n ≤ (x.now.2.2.length : Int)
    · obtain ⟨p, rfl⟩ : ∃ p : Nat, n = p := ⟨n.toNat, by omega⟩
      have ed : d.cut i p = ({ d.step with fs := d.fs.set i (x.abs.cut p) }, 0) := by
        unfold Dk.cut; rw [if_neg (by simpa using h), if_neg (by rw [hnow]; omega), hg]; simp
      rw [ed] at hset ⊢
      rw [decide_eq_true hn]
      (refine r_op (o_not rfl rfl ?_); refine r_nil ?_)
      refine x_mem ((((Ent.focusC q.fs i hiq Γ).cons _).cons _).cons _ |>.cons _) ?_
      rw [hx]
      refine x_fact (p := x.now.2.2.length ≤ x.now.2.1) (fun E w s => ((Ent.fileC_out x _).st s.drop.drop.drop.drop).drop.sl_split.2.1) fun hcap => ?_
      (refine x_false rfl ?_; refine x_skip ?_; refine x_seq ?_)
      refine x_base RN (by omega) fun b1 o1 ha1 => ?_
      refine x_base RH (by omega) fun b2 o2 ha2 => ?_
      have R := (FileC.now x).firstN p (by omega)
      have e1 : ((x.now.2.2.map bv).take (p * 1)) = (x.now.2.2.take p).map bv := by simp [List.map_take]
      rw [e1] at R
      refine x_script 16 [(0,false),(1,false),(2,false),(3,false),(4,false),(5,false),(6,false),(7,false),(8,false),(9,false),(10,false),(11,false),(12,false),(13,false),(14,true),(15,false),(16,true)]
        [Row b 0 [.slice q.la q.fs.length q.lc, .slice q.sa q.fs.length q.sc, .slice q.na q.fs.length q.nc, .int .i64 left', .int .i64 bad', .bool q.armed, .bool d.step.off, .bool hurt'], Sl 1 q.la q.fs.length q.lc (nowsV q.fs)] mixed (by kernel_rfl) permF ?_
      (refine s_v rfl (v_move rfl) ?_; refine s_v rfl (v_nilCheck rfl) ?_; refine s_v rfl (v_fieldAddr rfl) ?_; refine s_v rfl (v_load rfl rfl rfl) ?_; refine s_v rfl (v_move rfl) ?_; refine s_v rfl (v_move rfl) ?_; refine s_v rfl (v_nilCheck rfl) ?_; refine s_v rfl (v_fieldAddr rfl) ?_; refine s_v rfl (v_load rfl rfl rfl) ?_; refine s_v rfl (v_move rfl) ?_)
      refine s_v rfl (v_indexH rfl rfl ha1 (j := i) rfl hiq) ?_
      refine s_v rfl (v_loadR rfl RN ha1 (i := i) (by omega) hld) ?_
      (refine s_v rfl (v_move rfl) ?_)
      refine s_v rfl (v_sliceHi rfl rfl (jh := p) rfl (by omega)) ?_
      refine s_x rfl (o_call rfl (copyBytes_spec R (by omega)) rfl ?_)
      rintro v B ⟨a', c', rfl, rfl⟩
      refine ⟨permF, ?_⟩
      (simp only [List.cons_append, List.nil_append])
      refine s_v rfl (v_indexH rfl rfl ha1 (j := i) rfl hiq) ?_
      refine s_xt rfl rfl ?_
      refine o_storeS rfl rfl rfl ha1 (i := i) (by omega) (by simpa using hiq) ?_
      refine s_end rfl ?_
      (refine x_seq ?_)
      refine x_mem (Ent.fileC_out x _) ?_
      refine x_script 17 [(0,false),(1,false),(2,false),(3,false),(4,false),(5,false),(6,false),(7,false),(8,false),(9,false),(10,false),(11,false),(12,false),(13,false),(14,true),(15,true),(16,false),(17,true)]
        [Row b 0 [.slice q.la q.fs.length q.lc, .slice q.sa q.fs.length q.sc, .slice q.na q.fs.length q.nc, .int .i64 left', .int .i64 bad', .bool q.armed, .bool d.step.off, .bool hurt'], Sl 1 q.na q.fs.length q.nc (hdrsV q.fs)] mixed (by kernel_rfl) permF ?_
      (refine s_v rfl (v_move rfl) ?_; refine s_v rfl (v_nilCheck rfl) ?_; refine s_v rfl (v_fieldAddr rfl) ?_; refine s_v rfl (v_load rfl rfl rfl) ?_; refine s_v rfl (v_move rfl) ?_; refine s_v rfl (v_move rfl) ?_; refine s_v rfl (v_nilCheck rfl) ?_; refine s_v rfl (v_fieldAddr rfl) ?_; refine s_v rfl (v_load rfl rfl rfl) ?_; refine s_v rfl (v_move rfl) ?_)
      refine s_v rfl (v_indexH rfl rfl ha2 (j := i) rfl hiq) ?_
      refine s_v rfl (v_loadR rfl RH ha2 (i := i) (by omega) hlh) ?_
      (refine s_v rfl (v_move rfl) ?_)
      refine s_v rfl (v_build rfl (by rfl)) ?_
      refine s_x rfl (o_buildSlice rfl (by rfl) (by rfl) (by rfl) (by rfl) rfl (fun a2 => ?_))
      refine ⟨permF, ?_⟩
      refine s_x rfl (o_appendT rfl rfl (by rfl) (by rfl) (by rfl) (by omega) rfl (fun a3 c3 hc => ?_))
      refine ⟨permF, ?_⟩
      refine s_v rfl (v_indexH rfl rfl ha2 (j := i) rfl hiq) ?_
      refine s_xt rfl rfl ?_
      refine o_storeS rfl rfl rfl ha2 (i := i) (by omega) (by simpa using hiq) ?_
      refine s_end rfl ?_
      (refine x_seq (x_region ?_); refine r_op (o_assign rfl rfl ?_); refine r_nil ?_)
      refine x_ret rfl [DiskR b { d.step with fs := d.fs.set i (x.abs.cut p) }] ⟨rfl, rfl⟩ ?_
      have el : (x.now.2.2.take p).length = p := by simp; omega
      have e2 : (x.chg ++ [CX.mk true p (none, 0, [])]).length = x.chg.length + 1 := by simp
      have hl := hset ⟨x.safe, a3, c3, x.chg ++ [CX.mk true p (none, 0, [])], (a', c', x.now.2.2.take p)⟩ (by simp [FX.abs, Fl.cut, CX.abs])
      have hls : (safesV q.fs)[i]? = some (sv x.safe) := by
        rw [show safesV q.fs = q.fs.map fun x => sv x.safe from rfl, List.getElem?_map, List.getElem?_eq_getElem hiq, hx]; rfl
      rw [show (safesV q.fs).set i (sv x.safe) = safesV q.fs by
        rw [← List.getElem?_eq_some_iff.1 hls |>.2]; exact set_self _ _ _] at hl
      dsimp only [hdr, sv] at hl
      rw [el, e2] at hl
      refine Ent.trans ?_ (hl.trans Sub.h)
      obtain ⟨Θ, hΘ⟩ : ∃ Θ, Row b 0 [.slice q.la q.fs.length q.lc, .slice q.sa q.fs.length q.sc, .slice q.na q.fs.length q.nc, .int .i64 left', .int .i64 bad', .bool q.armed, .bool d.step.off, .bool hurt'] ::
        Sl 1 q.la q.fs.length q.lc ((nowsV q.fs).set i (.slice a' p c')) :: Sl 1 q.sa q.fs.length q.sc (safesV q.fs) :: Sl 1 q.na q.fs.length q.nc ((hdrsV q.fs).set i (.slice a3 (x.chg.length + 1) c3)) :: Hole (fun _ x => FileC x) q.fs i :: Γ = Θ := ⟨_, rfl⟩
      refine (Ent.nilSl 1 _).trans ?_
      refine (Sub.h (Δ := Sl 3 a3 (x.chg.length + 1) c3 (x.chg.flatMap CX.cells ++ [.bool true, .int .i64 p, .slice none 0 0]) :: Sl 1 none 0 0 [] :: Inn (x.chg.map CX.s) :: sp x.safe :: Sl 1 a' p c' ((x.now.2.2.take p).map bv) :: Row b 0 [.slice q.la q.fs.length q.lc, .slice q.sa q.fs.length q.sc, .slice q.na q.fs.length q.nc, .int .i64 left', .int .i64 bad', .bool q.armed, .bool d.step.off, .bool hurt'] ::
        Sl 1 q.la q.fs.length q.lc ((nowsV q.fs).set i (.slice a' p c')) :: Sl 1 q.sa q.fs.length q.sc (safesV q.fs) :: Sl 1 q.na q.fs.length q.nc ((hdrsV q.fs).set i (.slice a3 (x.chg.length + 1) c3)) :: Hole (fun _ x => FileC x) q.fs i :: Γ)).trans ?_
      rw [hΘ]
      refine (Ent.chg_snoc (bs := []) (c1 := 0) (a1 := none) _).trans ?_
      have e4 : Sl 1 a' p c' ((x.now.2.2.take p).map bv) = sp (a', c', x.now.2.2.take p) := by simp [sp, el]
      rw [e4]
      refine (Sub.h (Δ := sp x.safe :: sp (a', c', x.now.2.2.take p) :: Sl 3 a3 (x.chg ++ [CX.mk true p (none, 0, [])]).length c3 ((x.chg ++ [CX.mk true p (none, 0, [])]).flatMap CX.cells) :: Inn ((x.chg ++ [CX.mk true p (none, 0, [])]).map CX.s) :: Θ)).trans ?_
      refine (Ent.fileC_in ⟨x.safe, a3, c3, x.chg ++ [CX.mk true p (none, 0, [])], (a', c', x.now.2.2.take p)⟩ Θ).trans ?_
      rw [← hΘ]
      exact Sub.h
    · have ed : d.cut i n = (d.step, 1) := by
        unfold Dk.cut; rw [if_neg (by simpa using h), if_pos (by rw [hnow]; omega)]
      rw [ed, decide_eq_false hn]
      (refine r_op (o_not rfl rfl ?_); refine r_nil ?_; refine x_true rfl ?_; refine x_seq (x_region ?_); refine r_op (o_assign rfl rfl ?_); refine r_nil ?_)
      exact x_ret rfl [DiskR b d.step] ⟨rfl, rfl⟩ ((Ent.diskR_flags q hq (step_fs d) hfl Γ).trans Sub.h)
  · have ed : d.cut f n = (d.step, d.counts f) := by unfold Dk.cut; rw [if_pos h]
    rw [ed]
    (refine r_op (o_assign rfl rfl ?_); refine r_nil ?_; refine x_seq ?_; refine x_seq (x_region ?_); refine r_op (o_move rfl rfl ?_); refine r_op (o_neq_t rfl rfl (by omega) rfl ?_); refine r_nil ?_; refine x_true rfl ?_; refine x_seq (x_region ?_); refine r_op (o_move rfl rfl ?_); refine r_op (o_assign rfl rfl ?_); refine r_nil ?_)
    exact x_ret rfl [DiskR b d.step] ⟨rfl, rfl⟩ ((Ent.diskR_flags q hq (step_fs d) hfl Γ).trans Sub.h)
end Go.Proofs.Ythneebbmodkjiaa
