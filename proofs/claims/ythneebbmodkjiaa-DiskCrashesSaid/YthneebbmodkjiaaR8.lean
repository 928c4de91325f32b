/- Part of a proof over the seat Ythneebbmodkjiaa: module R8. Its claim's last module says what is proved. -/
import Derived.Test.YthneebbmodkjiaaR7
namespace Go.Proofs.Ythneebbmodkjiaa
open Go.Proofs

theorem Ent.pc_snoc (fs : List FX) (x : FX) (Γ : List HP) : Ent (PC fs :: FileC x :: Γ) (PC (fs ++ [x]) :: Γ) := by
  refine (Ent.sep_out _ _).trans ?_
  have e : Arr (fun _ x => FileC x) 0 (fs ++ [x]) = Arr (fun _ x => FileC x) 0 fs ++ [FileC x] := by
    rw [Arr.append]; rfl
  have := Ent.sep_in (Arr (fun _ x => FileC x) 0 (fs ++ [x])) Γ
  rw [e, List.append_assoc] at this
  show Ent _ (Sep (Arr (fun _ x => FileC x) 0 (fs ++ [x])) :: Γ)
  rw [e]
  exact this
theorem PC.zero (Γ : List HP) : Ent Γ (PC [] :: Γ) := (Emp.intro Γ).trans (Ent.one (fun _ h => h) Γ)
theorem Ent.fileC_new {b : List UInt8} {a1 a2 : Option Addr} {c1 c2 : Nat} (Γ : List HP) : Ent (sp (a1, c1, b) :: sp (a2, c2, b) :: Γ) (FileC ⟨(a2, c2, b), none, 0, [], (a1, c1, b)⟩ :: Γ) := by
  refine (Ent.perm (.swap _ _ _)).trans ?_
  refine (((Ent.inn_nil Γ).cons _).cons _).trans ?_
  refine (((Ent.nilSl 3 _).cons _).cons _).trans ?_
  exact Ent.fileC_in ⟨(a2, c2, b), none, 0, [], (a1, c1, b)⟩ Γ
theorem newD_fs {l : List (List UInt8)} (h : may l = true) : (newD l).fs = (List.range 8).map fun i => newFl (l.getD i []) := by
  unfold may at h
  simp only [Bool.and_eq_true, Bool.or_eq_true, beq_iff_eq] at h
  rcases h.1 with h0 | h8
  · have : l = [] := List.length_eq_zero_iff.1 h0
    subst this
    rfl
  · unfold newD newP
    rw [h8]
    simp only [Nat.sub_self, List.replicate_zero, List.append_nil]
    rw [List.take_of_length_le (by omega)]
    apply List.ext_getElem
    · simp [h8]
    · intro i h1 h2
      simp [List.getD_eq_getElem?_getD] at h1 ⊢
      rw [List.getElem?_eq_getElem h1]; rfl
set_option maxHeartbeats 1600000 in
theorem new9_spec {A : HP} {a : Option Addr} {cap : Nat} {q : List BS} (R : RdC A a q) (hm : may (cont q) = true) :
    Spec Try.prog 44 [.slice a q.length cap] [A] (fun v B => ∃ b, v = dp b ∧ B = [A, DiskR b (newD (cont q))]) := by
  have hm' := hm
  unfold may at hm'
  simp only [Bool.and_eq_true, Bool.or_eq_true, beq_iff_eq, List.all_eq_true, decide_eq_true_eq] at hm'
  obtain ⟨hq, hqs⟩ := hm'
  replace hq : q.length = 0 ∨ q.length = 8 := by simpa [cont] using hq
  refine Spec.of_ex Try.func44 rfl Try.ntmps44 rfl fun E cs Γ => ?_
  (simp only [argRho, List.cons_append, List.nil_append])
  (refine x_seq (x_region ?_); refine r_op (o_assign rfl rfl ?_); refine r_nil ?_; refine x_seq (x_region ?_))
  (refine r_op ?_)
  refine o_build rfl rfl rfl ?_
  (refine r_op ?_)
  refine o_boxA rfl rfl (fun b => ?_)
  (refine r_op (o_assign rfl rfl ?_); refine r_nil ?_; refine x_seq ?_; refine x_seq (x_region ?_); refine r_op (o_assign rfl rfl ?_); refine r_nil ?_; refine x_block ?_)
  refine x_loop (α := Nat × List FX × (Option Addr × Nat) × (Option Addr × Nat) × (Option Addr × Nat)) (fun z => z.1 ≤ 8 ∧ z.2.1.length = z.1 ∧ fabs z.2.1 = (List.range z.1).map fun i => newFl ((cont q).getD i []))
    (fun z => [(0, .slice a q.length cap), (3, dp b), (4, .int .i64 z.1)])
    (fun z => Row b 0 [.slice z.2.2.1.1 z.2.1.length z.2.2.1.2, .slice z.2.2.2.1.1 z.2.1.length z.2.2.2.1.2, .slice z.2.2.2.2.1 z.2.1.length z.2.2.2.2.2, .int .i64 0, .int .i64 0, .bool false, .bool false, .bool false] ::
      Sl 1 z.2.2.1.1 z.2.1.length z.2.2.1.2 (nowsV z.2.1) :: Sl 1 z.2.2.2.1.1 z.2.1.length z.2.2.2.1.2 (safesV z.2.1) :: Sl 1 z.2.2.2.2.1 z.2.1.length z.2.2.2.2.2 (hdrsV z.2.1) :: PC z.2.1 :: A :: Γ)
    (fun z => 8 - z.1) (0, [], (none, 0), (none, 0), (none, 0)) ⟨Nat.zero_le _, rfl, rfl⟩ ⟨rfl, rfl, rfl, trivial⟩ (by
      refine (Ent.nilSl 1 _).trans ((Ent.nilSl 1 _).trans ((Ent.nilSl 1 _).trans ((PC.zero _).trans ?_)))
      simp only [List.length_nil, List.map_nil]
      exact Sub.h) ?_
  rintro ⟨f, fs, ⟨la, lc⟩, ⟨sa, sc⟩, ⟨na, nc⟩⟩ ⟨hf, hfl, hfs⟩ back
  dsimp only at hf hfl hfs back ⊢
  (refine x_seq ?_; refine x_seq (x_region ?_); refine r_op (o_move rfl rfl ?_))
  (refine r_op ?_)
  refine o_lss rfl rfl rfl (fun h => ?_) (fun h => ?_)
  · (refine r_nil ?_)
    (refine x_true rfl ?_); (refine x_skip ?_); (refine x_seq ?_); (refine x_block ?_); (refine x_seq ?_); (refine x_region ?_)
    (refine r_op (o_assign rfl rfl ?_); refine r_nil ?_)
    have hf8 : fs.length < 8 := by omega
    refine x_cut (α := BS) (fun z => z.2.2 = (cont q).getD f [] ∧ Reads A 1 z.1 z.2.2.length (z.2.2.map bv) ∧ z.2.2.length ≤ 131072) (fun z => [(5, .slice z.1 z.2.2.length z.2.1), (0, .slice a q.length cap), (3, dp b), (4, .int .i64 f)])
      (fun z => Row b 0 [.slice la fs.length lc, .slice sa fs.length sc, .slice na fs.length nc, .int .i64 0, .int .i64 0, .bool false, .bool false, .bool false] :: Sl 1 la fs.length lc (nowsV fs) :: Sl 1 sa fs.length sc (safesV fs) :: Sl 1 na fs.length nc (hdrsV fs) :: PC fs :: A :: Γ) ?_ ?_
    · rintro ⟨a0, c0, bs⟩ ⟨hbs, Rb, hbl⟩
      dsimp only at hbs Rb hbl ⊢
      (refine x_seq ?_)
      refine x_script 11 [(0,false),(1,false),(2,false),(3,false),(4,false),(5,false),(6,true),(7,true),(8,true),(9,false),(10,false),(11,true)] [Row b 0 [.slice la fs.length lc, .slice sa fs.length sc, .slice na fs.length nc, .int .i64 0, .int .i64 0, .bool false, .bool false, .bool false]] mixed (by kernel_rfl) permF ?_
      (refine s_v rfl (v_move rfl) ?_; refine s_v rfl (v_move rfl) ?_; refine s_v rfl (v_nilCheck rfl) ?_; refine s_v rfl (v_fieldAddr rfl) ?_; refine s_v rfl (v_load rfl rfl rfl) ?_; refine s_v rfl (v_move rfl) ?_)
      refine s_x rfl (o_call rfl (copyBytes_spec Rb (by omega)) rfl ?_)
      rintro v B ⟨a1, c1, rfl, rfl⟩
      refine ⟨permF, ?_⟩
      (simp only [List.cons_append, List.nil_append])
      refine s_x rfl (o_buildSlice rfl (by rfl) (by rfl) (by rfl) (by rfl) rfl (fun a2 => ?_))
      refine ⟨permF, ?_⟩
      refine s_x rfl (o_appendT rfl rfl (by rfl) (by rfl) (by rfl) (by omega) rfl (fun la2 lc2 hc => ?_))
      refine ⟨permF, ?_⟩
      (refine s_v rfl (v_nilCheck rfl) ?_; refine s_v rfl (v_fieldAddr rfl) ?_)
      refine s_xt rfl rfl ?_
      refine o_storeI (i := 0) rfl rfl rfl (by omega) rfl ?_
      dsimp only [List.set]
      refine s_end rfl ?_
      (refine x_seq ?_)
      refine x_script 11 [(0,false),(1,false),(2,false),(3,false),(4,false),(5,false),(6,true),(7,true),(8,true),(9,false),(10,false),(11,true)] [Row b 0 [.slice la2 (fs.length + 1) lc2, .slice sa fs.length sc, .slice na fs.length nc, .int .i64 0, .int .i64 0, .bool false, .bool false, .bool false]] mixed (by kernel_rfl) permF ?_
      (refine s_v rfl (v_move rfl) ?_; refine s_v rfl (v_move rfl) ?_; refine s_v rfl (v_nilCheck rfl) ?_; refine s_v rfl (v_fieldAddr rfl) ?_; refine s_v rfl (v_load rfl rfl rfl) ?_; refine s_v rfl (v_move rfl) ?_)
      refine s_x rfl (o_call rfl (copyBytes_spec Rb (by omega)) rfl ?_)
      rintro v B ⟨a3, c3, rfl, rfl⟩
      refine ⟨permF, ?_⟩
      (simp only [List.cons_append, List.nil_append])
      refine s_x rfl (o_buildSlice rfl (by rfl) (by rfl) (by rfl) (by rfl) rfl (fun a4 => ?_))
      refine ⟨permF, ?_⟩
      refine s_x rfl (o_appendT rfl rfl (by rfl) (by rfl) (by rfl) (by omega) rfl (fun sa2 sc2 hc => ?_))
      refine ⟨permF, ?_⟩
      (refine s_v rfl (v_nilCheck rfl) ?_; refine s_v rfl (v_fieldAddr rfl) ?_)
      refine s_xt rfl rfl ?_
      refine o_storeI (i := 1) rfl rfl rfl (by omega) rfl ?_
      dsimp only [List.set]
      refine s_end rfl ?_
      (refine x_region ?_; refine r_op (o_move rfl rfl ?_); refine r_op (o_move rfl rfl ?_); refine r_op (o_nilCheck rfl rfl ?_); refine r_op (o_fieldAddr rfl rfl ?_); refine r_op (o_load rfl rfl rfl rfl ?_))
      (refine r_op ?_)
      refine o_buildSlice rfl (by rfl) (by rfl) (by rfl) (by rfl) rfl (fun a5 => ?_)
      (refine r_op ?_)
      refine o_appendT rfl rfl (by rfl) (by rfl) (by rfl) (by omega) rfl (fun na2 nc2 hc => ?_)
      (refine r_op (o_nilCheck rfl rfl ?_); refine r_op (o_fieldAddr rfl rfl ?_); refine r_do (o_store rfl rfl rfl rfl (by simp) ?_); try dsimp only [Nat.reduceSub, Nat.reduceAdd, List.set]; refine r_nil ?_; refine x_inBlock ?_; refine x_region ?_; refine r_op (o_move rfl rfl ?_); refine r_op (o_add rfl rfl (add_i64 (by omega)) rfl ?_); refine r_op (o_assign rfl rfl ?_); refine r_nil ?_)
      obtain ⟨y, hy⟩ : ∃ y : FX, y = ⟨(a3, c3, bs), none, 0, [], (a1, c1, bs)⟩ := ⟨_, rfl⟩
      have e1 : nowsV fs ++ [.slice a1 bs.length c1] = nowsV (fs ++ [y]) := by rw [hy]; simp [nowsV]
      have e2 : safesV fs ++ [.slice a3 bs.length c3] = safesV (fs ++ [y]) := by rw [hy]; simp [safesV]
      have e3 : hdrsV fs ++ [.slice none 0 0] = hdrsV (fs ++ [y]) := by rw [hy]; simp [hdrsV, hdr]
      have e4 : (fs ++ [y]).length = fs.length + 1 := by simp
      have hb := back (f + 1, fs ++ [y], (la2, lc2), (sa2, sc2), (na2, nc2)) ⟨by dsimp only; omega, by dsimp only; omega, by
        unfold fabs at hfs ⊢
        rw [List.map_append, hfs, List.range_succ, List.map_append]
        simp only [List.map_cons, List.map_nil]
        rw [← hbs, hy]; rfl⟩ (by dsimp only; omega)
      dsimp only at hb
      rw [e4, ← e1, ← e2, ← e3] at hb
      refine x_weak hb (by (repeat' (first | exact trivial | refine ⟨rfl, ?_⟩))) ?_
      refine (Sub.h (Δ := sp (a1, c1, bs) :: sp (a3, c3, bs) :: PC fs :: Row b 0 [.slice la2 (fs.length + 1) lc2, .slice sa2 (fs.length + 1) sc2, .slice na2 (fs.length + 1) nc2, .int .i64 0, .int .i64 0, .bool false, .bool false, .bool false] ::
        Sl 1 la2 (fs.length + 1) lc2 (nowsV fs ++ [.slice a1 bs.length c1]) :: Sl 1 sa2 (fs.length + 1) sc2 (safesV fs ++ [.slice a3 bs.length c3]) :: Sl 1 na2 (fs.length + 1) nc2 (hdrsV fs ++ [.slice none 0 0]) :: A :: Γ)).trans ?_
      refine Ent.fileC_new _ |>.trans ?_
      rw [← hy]
      refine (Ent.perm (.swap _ _ _)).trans ((Ent.pc_snoc fs y _).trans Sub.h)
    · intro td back2
      rcases hq with h0 | h8
      · have hnil : q = [] := List.length_eq_zero_iff.1 h0
        have hcq : (cont q).getD f [] = [] := by rw [hnil]; rfl
        (refine x_seq (x_region ?_); refine r_op (o_move rfl rfl ?_); refine r_op (o_lenS rfl rfl ?_); refine r_op (o_gtr_f rfl rfl (by omega) rfl ?_); refine r_nil ?_; refine x_false rfl ?_; refine x_skip ?_)
        refine x_weak (back2 (none, 0, []) ⟨by rw [hcq], ⟨rfl, fun _ _ _ _ => .inl rfl⟩, Nat.zero_le _⟩) (by (repeat' (first | exact trivial | refine ⟨rfl, ?_⟩))) Sub.h
      · have hfq : f < q.length := by omega
        have hg : (cont q).getD f [] = q[f].2.2 := by simp [cont, hfq]
        have hbl := hqs q[f].2.2 (List.mem_map_of_mem (List.getElem_mem hfq))
        (refine x_seq (x_region ?_); refine r_op (o_move rfl rfl ?_); refine r_op (o_lenS rfl rfl ?_); refine r_op (o_gtr_t rfl rfl (by omega) rfl ?_); refine r_nil ?_; refine x_true rfl ?_; refine x_region ?_; refine r_op (o_move rfl rfl ?_); refine r_op (o_move rfl rfl ?_))
        (refine r_op ?_)
        refine o_indexR rfl rfl R.1 (j := f) rfl hfq rfl (fun b1 off ha => ?_)
        (refine r_op ?_)
        refine o_loadR rfl R.1 ha (i := f) (by omega) (mget sv hfq) rfl ?_
        (refine r_op (o_assign rfl rfl ?_); refine r_nil ?_)
        refine x_weak (back2 q[f] ⟨hg.symm, R.get hfq, hbl⟩) (by (repeat' (first | exact trivial | refine ⟨rfl, ?_⟩))) Sub.h
  · obtain rfl : f = 8 := by omega
    (refine r_nil ?_; refine x_false rfl ?_; refine x_exit rfl ?_; refine x_seq (x_region ?_); refine r_op (o_move rfl rfl ?_); refine r_op (o_assign rfl rfl ?_); refine r_nil ?_)
    refine x_ret rfl [A, DiskR b (newD (cont q))] ⟨b, rfl, rfl⟩ ?_
    have := Ent.diskR (b := b) (d := newD (cont q)) ⟨la, lc, sa, sc, na, nc, 0, 0, false, false, fs⟩ ⟨by rw [hfs, newD_fs hm], hfl, Nat.zero_le _, Nat.zero_le _, .inr ⟨by unfold newD newP; simp, by unfold newD newP; simp, by unfold newD newP; simp, by unfold newD newP; simp⟩⟩ (A :: Γ)
    exact this.trans Sub.h
end Go.Proofs.Ythneebbmodkjiaa
