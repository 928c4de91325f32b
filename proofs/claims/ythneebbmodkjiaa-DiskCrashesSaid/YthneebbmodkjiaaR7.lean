/- Part of a proof over the seat Ythneebbmodkjiaa: module R7. Its claim's last module says what is proved. -/
import Derived.Test.YthneebbmodkjiaaR6
namespace Go.Proofs.Ythneebbmodkjiaa
open Go.Proofs

theorem PC.rd (fs : List FX) (i : Nat) (h : i < fs.length) : RdF (PC fs) fs[i] := by
  obtain ⟨r1, r2, r3⟩ := FileC.rd fs[i]
  have he := Ent.focusC fs i h []
  exact ⟨r1.of_ent _ he, r2.of_ent _ he, fun c hc => (r3 c hc).of_ent _ he⟩
theorem Ent.sl_take {s : Nat} {a : Option Addr} {len cap p : Nat} {xs : List Value} (hp : p ≤ len) (Γ : List HP) : Ent (Sl s a len cap xs :: Γ) (Sl s a p cap (xs.take (p * s)) :: Γ) := by
  refine Ent.one (fun h H => ?_) Γ
  rcases H with ⟨h1, h2, h3, h4, h5⟩ | ⟨b, off, junk, h1, h2, h3, h4, h5⟩
  · subst h2
    obtain rfl : p = 0 := by omega
    exact .inl ⟨h1, rfl, h3, by rw [h4]; simp, h5⟩
  · have hps : p * s ≤ len * s := Nat.mul_le_mul_right s hp
    refine .inr ⟨b, off, xs.drop (p * s) ++ junk, h1, by simp; omega, ?_, by omega, ?_⟩
    · rw [← List.append_assoc, List.take_append_drop]; exact h3
    · rw [← List.append_assoc, List.take_append_drop]; exact h5
theorem pk_drop (ps : List Int) (i : Nat) : (pk (ps.drop i)).2 = ps.drop (i + 1) ∧ (pk (ps.drop i)).1 = if h : i < ps.length then (if ps[i] < 0 then 1 else ps[i]) else 1 := by
  by_cases h : i < ps.length
  · rw [dif_pos h, List.drop_eq_getElem_cons h]; exact ⟨rfl, rfl⟩
  · rw [dif_neg h, List.drop_eq_nil_of_le (by omega), List.drop_eq_nil_of_le (by omega)]; exact ⟨rfl, rfl⟩
theorem keepAll_drop {fs : List Fl} {f : Nat} (h : f < fs.length) (ps : List Int) : keepAll (fs.drop f) ps = (keep fs[f].safe fs[f].chg ps).1 :: keepAll (fs.drop (f + 1)) (keep fs[f].safe fs[f].chg ps).2 := by
  rw [List.drop_eq_getElem_cons h]; rfl
set_option maxHeartbeats 1600000 in
theorem crash9_spec {A : HP} {a : Option Addr} {cap : Nat} {ps : List Int} (b : Nat) (d : Dk) (R : Reads A 1 a ps.length (ps.map iv)) (_hl : ps.length ≤ 2 ^ 63 - 1) (hps : ∀ p ∈ ps, p ≤ 9223372036854775807) (hd : d.fit) :
    Spec Try.prog 54 [dp b, .slice a ps.length cap] [DiskR b d, A] (fun v B => ∃ (a' : Option Addr) (cap' : Nat) (q : List BS), v = .slice a' q.length cap' ∧ cont q = keepAll d.fs ps ∧ B = [DiskR b d.crash, A, CellsX a' cap' q]) := by
  refine Spec.of_ex Try.func54 rfl Try.ntmps54 rfl fun E cs Γ => ?_
  (simp only [argRho, Nat.reduceAdd, List.cons_append, List.nil_append])
  refine x_open (fun E w s => s.diskR) fun ⟨q, hq⟩ => ?_
  dsimp only
  have hq8 := hq.len
  have RS := Sl.reads 1 q.sa q.fs.length q.sc (safesV q.fs) (by simp)
  have RH := Sl.reads 1 q.na q.fs.length q.nc (hdrsV q.fs) (by simp)
  refine x_open (α := PLift (∀ x ∈ q.fs, ∀ c ∈ x.chg, c.s.2.2.length ≤ c.s.2.1)) (Γ' := fun _ => _) (fun E w s => ⟨⟨St.pc_cap s.drop.drop.drop.drop⟩, s⟩) fun ⟨hcaps⟩ => ?_
  have hfl8 : d.fs.length = 8 := by rw [← hq.fs]; simpa [fabs] using hq.len
  (refine x_seq (x_region ?_); refine r_op (o_assign rfl rfl ?_); refine r_nil ?_; refine x_seq (x_region ?_); refine r_op (o_assign rfl rfl ?_); refine r_nil ?_; refine x_seq (x_region ?_); refine r_op (o_assign rfl rfl ?_); refine r_nil ?_; refine x_seq ?_; refine x_seq (x_region ?_); refine r_op (o_assign rfl rfl ?_); refine r_nil ?_; refine x_block ?_)
  refine x_loop (α := Nat × Nat × List BS × Option Addr × Nat) (fun z => z.1 ≤ 8 ∧ z.2.1 ≤ z.1 * 2 ^ 40 ∧ z.2.2.1.length = z.1 ∧ keepAll d.fs ps = cont z.2.2.1 ++ keepAll (d.fs.drop z.1) (ps.drop z.2.1))
    (fun z => [(0, dp b), (1, .slice a ps.length cap), (5, .int .i64 z.2.1), (6, .slice z.2.2.2.1 z.2.2.1.length z.2.2.2.2), (7, .int .i64 z.1)])
    (fun z => Row b 0 (q.cells d.off) :: Sl 1 q.la q.fs.length q.lc (nowsV q.fs) :: Sl 1 q.sa q.fs.length q.sc (safesV q.fs) :: Sl 1 q.na q.fs.length q.nc (hdrsV q.fs) :: PC q.fs :: Sl 1 z.2.2.2.1 z.2.2.1.length z.2.2.2.2 (z.2.2.1.map sv) :: Inn z.2.2.1 :: A :: Γ)
    (fun z => 8 - z.1) (0, 0, [], none, 0) ⟨Nat.zero_le _, Nat.zero_le _, rfl, rfl⟩ ⟨rfl, rfl, rfl, rfl, rfl, trivial⟩ (by refine (Ent.inn_nil _).trans ((Ent.nilSl 1 _).trans ?_); simp only [List.map_nil, List.length_nil]; exact Sub.h) ?_
  rintro ⟨f, at', qo, ao, co⟩ ⟨hf, hat, hqo, hk⟩ back
  dsimp only at hf hat hqo hk back ⊢
  (refine x_seq ?_; refine x_seq (x_region ?_); refine r_op (o_move rfl rfl ?_))
  (refine r_op ?_)
  refine o_lss rfl rfl rfl (fun h => ?_) (fun h => ?_)
  · have hfq : f < q.fs.length := by omega
    have RX := PC.rd q.fs f hfq
    have hfd : d.fs[f]'(by omega) = q.fs[f].abs := by
      have := congrArg (fun l => l[f]?) hq.fs
      simp [fabs, hfq] at this
      have e2 := List.getElem?_eq_some_iff.1 this.symm
      exact e2.2
    have hfit := hd (d.fs[f]'(by omega)) (List.getElem_mem _)
    rw [hfd] at hfit
    rw [keepAll_drop (by omega), hfd] at hk
    have hcp := hcaps q.fs[f] (List.getElem_mem _)
    have hls : (safesV q.fs)[f]? = some (sv q.fs[f].safe) := mget (fun x : FX => sv x.safe) hfq
    have hlh : (hdrsV q.fs)[f]? = some (.slice q.fs[f].ca q.fs[f].chg.length q.fs[f].cc) := mget hdr hfq
    obtain ⟨x, hx⟩ : ∃ x, q.fs[f] = x := ⟨_, rfl⟩
    rw [hx] at RX hfit hk hcp hls hlh
    obtain ⟨f1, f2, f3⟩ := hfit
    replace f1 : x.safe.2.2.length ≤ 2 ^ 39 := f1
    replace f3 : x.chg.length ≤ 2 ^ 40 := by simpa [FX.abs] using f3
    (refine r_nil ?_; refine x_true rfl ?_; refine x_skip ?_; refine x_seq ?_; refine x_block ?_; refine x_seq (x_region ?_); refine r_op (o_move rfl rfl ?_); refine r_op (o_nilCheck rfl rfl ?_); refine r_op (o_fieldAddr rfl rfl ?_); refine r_op (o_load rfl rfl rfl rfl ?_); refine r_op (o_move rfl rfl ?_))
    (refine r_op ?_)
    refine o_indexR rfl rfl RS (j := f) rfl hfq rfl (fun b1 off ha => ?_)
    (refine r_op ?_)
    refine o_loadR rfl RS ha (i := f) (by omega) hls rfl ?_
    (refine r_op ?_)
    refine o_call rfl (copyBytes_spec RX.safe (by omega)) rfl ?_
    rintro v B ⟨a1, c1, rfl, rfl⟩
    (simp only [List.cons_append, List.nil_append])
    (refine r_op (o_assign rfl rfl ?_); refine r_nil ?_; refine x_seq ?_; refine x_seq (x_region ?_); refine r_op (o_assign rfl rfl ?_); refine r_nil ?_)
    obtain ⟨cs', hcs'⟩ : ∃ cs', x.chg.map CX.abs = cs' := ⟨_, rfl⟩
    have hcl : cs'.length = x.chg.length := by rw [← hcs']; simp
    replace f2 : ∀ c ∈ cs', c.at' + c.b.length ≤ 2 ^ 39 := by rw [← hcs']; exact f2
    replace hk : keepAll d.fs ps = cont qo ++ (keep x.safe.2.2 cs' (ps.drop at')).1 :: keepAll (d.fs.drop (f + 1)) (keep x.safe.2.2 cs' (ps.drop at')).2 := by rw [hk, ← hcs']; rfl
    have RC := RX.chg
    refine x_cutK (α := BS) (fun z => (z.2.2, ps.drop (at' + x.chg.length)) = keep x.safe.2.2 cs' (ps.drop at')) (fun z => [(0, dp b), (1, .slice a ps.length cap), (5, .int .i64 (at' + x.chg.length : Nat)), (6, .slice ao qo.length co), (7, .int .i64 f), (8, sv z)])
      (fun z => sp z :: Row b 0 (q.cells d.off) :: Sl 1 q.la q.fs.length q.lc (nowsV q.fs) :: Sl 1 q.sa q.fs.length q.sc (safesV q.fs) :: Sl 1 q.na q.fs.length q.nc (hdrsV q.fs) :: PC q.fs :: Sl 1 ao qo.length co (qo.map sv) :: Inn qo :: A :: Γ) ?_ ?_
    · rintro z hz
      (refine x_region ?_; refine r_op (o_move rfl rfl ?_); refine r_op (o_move rfl rfl ?_))
      (refine r_op ?_)
      refine o_buildSlice rfl (by rfl) (by rfl) (by rfl) (by rfl) rfl (fun a2 => ?_)
      (refine r_op ?_)
      refine o_appendT rfl rfl (by rfl) (by rfl) (by rfl) (by omega) rfl (fun a3 c3 hc => ?_)
      refine r_mem (Γ' := sp z :: Inn qo :: Row b 0 (q.cells d.off) :: Sl 1 q.la q.fs.length q.lc (nowsV q.fs) :: Sl 1 q.sa q.fs.length q.sc (safesV q.fs) :: Sl 1 q.na q.fs.length q.nc (hdrsV q.fs) :: PC q.fs :: Sl 1 a3 (qo.length + 1) c3 (qo.map sv ++ [sv z]) :: A :: Γ) Sub.h ?_
      refine r_mem (Ent.inn_snoc z qo _) ?_
      (refine r_op (o_assign rfl rfl ?_); refine r_nil ?_; refine x_inBlock ?_; refine x_region ?_; refine r_op (o_move rfl rfl ?_); refine r_op (o_add rfl rfl (add_i64 (by omega)) rfl ?_); refine r_op (o_assign rfl rfl ?_); refine r_nil ?_)
      have e1 : qo.map sv ++ [sv z] = (qo ++ [z]).map sv := by simp
      have e2 : (qo ++ [z]).length = qo.length + 1 := by simp
      have hb := back (f + 1, at' + x.chg.length, qo ++ [z], a3, c3) ⟨by omega, by dsimp only; omega, by dsimp only; omega, by
        rw [hk, ← hz]; simp [cont]⟩ (by dsimp only; omega)
      dsimp only at hb
      rw [e2] at hb
      rw [e1]
      refine x_weak (hb) (by (repeat' (first | exact trivial | refine ⟨rfl, ?_⟩))) Sub.h
    · intro td back2
      (refine x_block ?_)
      refine x_loop (α := Nat × BS) (fun z => z.1 ≤ x.chg.length ∧ z.2.2.2.length ≤ 2 ^ 39 ∧ keep z.2.2.2 (cs'.drop z.1) (ps.drop (at' + z.1)) = keep x.safe.2.2 cs' (ps.drop at'))
        (fun z => [(0, dp b), (1, .slice a ps.length cap), (5, .int .i64 (at' + z.1 : Nat)), (6, .slice ao qo.length co), (7, .int .i64 f), (8, sv z.2), (9, .int .i64 z.1)])
        (fun z => sp z.2 :: Row b 0 (q.cells d.off) :: Sl 1 q.la q.fs.length q.lc (nowsV q.fs) :: Sl 1 q.sa q.fs.length q.sc (safesV q.fs) :: Sl 1 q.na q.fs.length q.nc (hdrsV q.fs) :: PC q.fs :: Sl 1 ao qo.length co (qo.map sv) :: Inn qo :: A :: Γ)
        (fun z => x.chg.length - z.1) (0, (a1, c1, x.safe.2.2)) ⟨Nat.zero_le _, f1, rfl⟩ ⟨rfl, rfl, rfl, rfl, rfl, rfl, rfl, trivial⟩ Sub.h ?_
      rintro ⟨j, a5, c5, l⟩ ⟨hj, hll, hkj⟩ back3
      dsimp only at hj hll hkj back3 ⊢
      (refine x_seq ?_; refine x_seq (x_region ?_); refine r_op (o_move rfl rfl ?_); refine r_op (o_move rfl rfl ?_); refine r_op (o_nilCheck rfl rfl ?_); refine r_op (o_fieldAddr rfl rfl ?_); refine r_op (o_load rfl rfl rfl rfl ?_); refine r_op (o_move rfl rfl ?_))
      (refine r_op ?_)
      refine o_indexR rfl rfl RH (j := f) rfl hfq rfl (fun b1 off ha => ?_)
      (refine r_op ?_)
      refine o_loadR rfl RH ha (i := f) (by omega) hlh rfl ?_
      (refine r_op (o_lenS rfl rfl ?_))
      (refine r_op ?_)
      refine o_lss rfl rfl rfl (fun h2 => ?_) (fun h2 => ?_)
      · have hj1 : j < x.chg.length := by omega
        have hjc : j < cs'.length := by omega
        obtain ⟨c, hc⟩ : ∃ c, x.chg[j] = c := ⟨_, rfl⟩
        have hcj : cs'[j] = c.abs := by simp only [← hcs', List.getElem_map, hc]
        have hfc := f2 cs'[j] (List.getElem_mem _)
        rw [hcj] at hfc
        replace hfc : c.at' + c.s.2.2.length ≤ 2 ^ 39 := hfc
        have hcc := hcp c (hc ▸ List.getElem_mem hj1)
        have RB := RX.bs c (hc ▸ List.getElem_mem hj1)
        rw [List.drop_eq_getElem_cons hjc, hcj] at hkj
        obtain ⟨k1, k2⟩ := pk_drop ps (at' + j)
        have kge := pk_ge (ps.drop (at' + j))
        have kle := pk_le ps (at' + j) hps
        obtain ⟨P, hP⟩ : ∃ P, (pk (ps.drop (at' + j))).1 = P := ⟨_, rfl⟩
        have hkj' : keep (keep1 l c.abs P) (cs'.drop (j + 1)) (ps.drop (at' + (j + 1))) = keep x.safe.2.2 cs' (ps.drop at') := by
          rw [← hkj, ← hP]
          show _ = keep (keep1 l c.abs (pk (ps.drop (at' + j))).1) (cs'.drop (j + 1)) (pk (ps.drop (at' + j))).2
          rw [k1]; rfl
        have hlen := keep1_len l c.abs P (2 ^ 39) hll hfc
        rw [hP] at k2 kge kle
        (refine r_nil ?_; refine x_true rfl ?_; refine x_skip ?_; refine x_seq ?_; refine x_block ?_; refine x_seq (x_region ?_); refine r_op (o_move rfl rfl ?_); refine r_op (o_nilCheck rfl rfl ?_); refine r_op (o_fieldAddr rfl rfl ?_); refine r_op (o_load rfl rfl rfl rfl ?_); refine r_op (o_move rfl rfl ?_))
        (refine r_op ?_)
        refine o_indexR rfl rfl RH (j := f) rfl hfq rfl (fun b1 off ha => ?_)
        (refine r_op ?_)
        refine o_loadR rfl RH ha (i := f) (by omega) hlh rfl ?_
        (refine r_op (o_move rfl rfl ?_))
        (refine r_op ?_)
        refine o_indexR rfl rfl RC (j := j) rfl hj1 rfl (fun b2 off2 ha2 => ?_)
        (refine r_op ?_)
        refine o_loadAR rfl RC ha2 (i := j * 3) (us := c.cells) (by omega) rfl (fun jj v hv => ?_) rfl ?_
        · have hjj : jj < 3 := (List.getElem?_eq_some_iff.1 hv).1
          rw [fget CX.cl hj1 jj hjj, hc, hv]
        (refine r_op ?_)
        refine o_alloc rfl (fun pc => ?_)
        (refine r_do ?_)
        refine o_storeA rfl rfl rfl rfl rfl (Nat.le_refl 3) ?_
        obtain ⟨Θ, hΘ⟩ : ∃ Θ, sp (a5, c5, l) :: Row b 0 (q.cells d.off) :: Sl 1 q.la q.fs.length q.lc (nowsV q.fs) :: Sl 1 q.sa q.fs.length q.sc (safesV q.fs) :: Sl 1 q.na q.fs.length q.nc (hdrsV q.fs) :: PC q.fs :: Sl 1 ao qo.length co (qo.map sv) :: Inn qo :: A :: Γ = Θ := ⟨_, rfl⟩
        rw [hΘ]
        refine r_mem (Γ' := Row pc 0 c.cells :: Θ) (Ent.row_eq rfl _) ?_
        rw [← hΘ]
        (refine r_nil ?_)
        (refine x_seq ?_)
        (refine x_region ?_)
        (refine r_op (o_assign rfl rfl ?_); refine r_nil ?_)
        have hΘb := Ent.drop (Row pc 0 c.cells) Θ
        rw [← hΘ] at hΘb
        refine x_cut (α := Unit) (fun _ => True) (fun _ => [(11, .int .i64 P), (0, dp b), (1, .slice a ps.length cap), (5, .int .i64 (at' + j : Nat)), (6, .slice ao qo.length co), (7, .int .i64 f), (8, .slice a5 l.length c5), (9, .int .i64 j), (10, dp pc)])
          (fun _ => Row pc 0 c.cells :: sp (a5, c5, l) :: Row b 0 (q.cells d.off) :: Sl 1 q.la q.fs.length q.lc (nowsV q.fs) :: Sl 1 q.sa q.fs.length q.sc (safesV q.fs) :: Sl 1 q.na q.fs.length q.nc (hdrsV q.fs) :: PC q.fs :: Sl 1 ao qo.length co (qo.map sv) :: Inn qo :: A :: Γ) ?_ ?_
        · rintro - -
          have hat2 : at' + j ≤ 2 ^ 44 := by omega
          (refine x_seq (x_region ?_); refine r_op (o_move rfl rfl ?_))
          (refine r_op ?_)
          refine o_add rfl rfl (add_i64 (by omega)) rfl ?_
          rw [show ((at' + j : Nat) : Int) + 1 = ((at' + (j + 1) : Nat) : Int) by omega]
          (refine r_op (o_assign rfl rfl ?_); refine r_nil ?_; refine x_seq ?_; refine x_seq (x_region ?_); refine r_op (o_fieldAddr rfl rfl ?_); refine r_op (o_load rfl rfl rfl rfl ?_); refine r_nil ?_)
          cases hcut : c.cut
          · obtain ⟨N, hN⟩ : ∃ N : Nat, (if P > 1 then min c.s.2.2.length (P - 2).toNat else if P = 1 then 0 else c.s.2.2.length) = N := ⟨_, rfl⟩
            have hNl : N ≤ c.s.2.2.length := by rw [← hN]; split; omega; split <;> omega
            have hk1 : keep1 l c.abs P = if N = 0 then l else over l c.at' (c.s.2.2.take N) := by
              unfold keep1
              rw [show c.abs.cut = false from hcut, show c.abs.b = c.s.2.2 from rfl, show c.abs.at' = c.at' from rfl]
              by_cases h1 : P = 1
              · have hN0 : N = 0 := by rw [← hN, h1]; rfl
                rw [if_pos h1, hN0]; rfl
              · rw [if_neg h1, if_neg (by simp)]
                rw [if_neg h1] at hN
                rw [hN]
            rw [hk1] at hlen hkj'
            (refine x_false rfl ?_)
            (refine x_skip ?_)
            (refine x_seq ?_)
            (refine x_region ?_)
            (refine r_op (o_fieldAddr rfl rfl ?_); refine r_op (o_load rfl rfl rfl rfl ?_); refine r_op (o_lenS rfl rfl ?_); refine r_op (o_assign rfl rfl ?_); refine r_nil ?_)
            refine x_cut (α := Unit) (fun _ => True) (fun _ => [(12, .int .i64 N), (0, dp b), (1, .slice a ps.length cap), (5, .int .i64 (at' + (j + 1) : Nat)), (6, .slice ao qo.length co), (7, .int .i64 f), (8, .slice a5 l.length c5), (9, .int .i64 j), (10, dp pc)])
              (fun _ => Row pc 0 c.cells :: sp (a5, c5, l) :: Row b 0 (q.cells d.off) :: Sl 1 q.la q.fs.length q.lc (nowsV q.fs) :: Sl 1 q.sa q.fs.length q.sc (safesV q.fs) :: Sl 1 q.na q.fs.length q.nc (hdrsV q.fs) :: PC q.fs :: Sl 1 ao qo.length co (qo.map sv) :: Inn qo :: A :: Γ) ?_ ?_
            · rintro - -
              by_cases h3 : N = 0
              · rw [if_pos h3] at hlen hkj'
                (refine x_seq (x_region ?_); refine r_op (o_move rfl rfl ?_); refine r_op (o_gtr_f rfl rfl (by omega) rfl ?_); refine r_nil ?_; refine x_false rfl ?_; refine x_skip ?_; refine x_inBlock ?_; refine x_region ?_; refine r_op (o_move rfl rfl ?_); refine r_op (o_add rfl rfl (add_i64 (by omega)) rfl ?_); refine r_op (o_assign rfl rfl ?_); refine r_nil ?_)
                refine x_weak (back3 (j + 1, (a5, c5, l)) ⟨by omega, hlen, hkj'⟩ (by dsimp only; omega)) (by (repeat' (first | exact trivial | refine ⟨rfl, ?_⟩))) Sub.h
              · rw [if_neg h3] at hlen hkj'
                (refine x_seq (x_region ?_); refine r_op (o_move rfl rfl ?_); refine r_op (o_gtr_t rfl rfl (by omega) rfl ?_); refine r_nil ?_; refine x_true rfl ?_)
                have RL : Reads (sp (a5, c5, l)) 1 a5 l.length (l.map bv) := Sl.reads 1 a5 l.length c5 _ (by simp)
                have RBN := RB.firstN N hNl
                rw [Nat.mul_one, ← List.map_take] at RBN
                have eN : (c.s.2.2.take N).length = N := by simp; omega
                have SO := over9_spec (cap := c5) (cap2 := c.s.2.1) (p := c.at') (xs := c.s.2.2.take N) RL (by rw [eN]; exact RBN) (by omega) (by rw [eN]; omega)
                rw [eN] at SO
                refine x_script 8 [(0,false),(1,false),(2,false),(3,false),(4,false),(5,false),(6,false),(7,true),(8,false)] [Row pc 0 c.cells] mixed (by kernel_rfl) permF ?_
                (refine s_v rfl (v_move rfl) ?_; refine s_v rfl (v_fieldAddr rfl) ?_; refine s_v rfl (v_load rfl rfl rfl) ?_; refine s_v rfl (v_fieldAddr rfl) ?_; refine s_v rfl (v_load rfl rfl rfl) ?_; refine s_v rfl (v_move rfl) ?_)
                refine s_v rfl (v_sliceHi (cap := c.s.2.1) rfl rfl (jh := N) rfl (by omega)) ?_
                refine s_x rfl (o_call rfl SO rfl ?_)
                rintro v B ⟨a7, c7, rfl, rfl⟩
                refine ⟨permF, ?_⟩
                (simp only [List.cons_append, List.nil_append])
                (refine s_v rfl (v_assign rfl) ?_)
                refine s_end rfl ?_
                (refine x_inBlock ?_; refine x_region ?_; refine r_op (o_move rfl rfl ?_); refine r_op (o_add rfl rfl (add_i64 (by omega)) rfl ?_); refine r_op (o_assign rfl rfl ?_); refine r_nil ?_)
                have hb := back3 (j + 1, (a7, c7, over l c.at' (c.s.2.2.take N))) ⟨by omega, hlen, hkj'⟩ (by dsimp only; omega)
                dsimp only at hb
                refine x_weak (hb) (by (repeat' (first | exact trivial | refine ⟨rfl, ?_⟩))) Sub.h
            · intro td back5
              by_cases h3 : 0 < P
              · (refine x_seq (x_region ?_); refine r_op (o_move rfl rfl ?_); refine r_op (o_gtr_t rfl rfl (by omega) rfl ?_); refine r_nil ?_; refine x_true rfl ?_; refine x_region ?_; refine r_op (o_move rfl rfl ?_); refine r_op (o_move rfl rfl ?_); refine r_op (o_sub rfl rfl (sub_i64 (by omega)) rfl ?_); refine r_op (o_max rfl rfl rfl ?_); refine r_op (o_min rfl rfl rfl ?_); refine r_op (o_assign rfl rfl ?_); refine r_nil ?_)
                rw [show min (c.s.2.2.length : Int) (max 0 (P - 2)) = (N : Int) by rw [← hN]; split; omega; split <;> omega]
                skip
                refine x_weak (back5 () trivial) (by (repeat' (first | exact trivial | refine ⟨rfl, ?_⟩))) Sub.h
              · have hN1 : N = c.s.2.2.length := by rw [← hN, if_neg (by omega), if_neg (by omega)]
                rw [← hN1]
                (refine x_seq (x_region ?_); refine r_op (o_move rfl rfl ?_); refine r_op (o_gtr_f rfl rfl (by omega) rfl ?_); refine r_nil ?_; refine x_false rfl ?_; refine x_skip ?_)
                refine x_weak (back5 () trivial) (by (repeat' (first | exact trivial | refine ⟨rfl, ?_⟩))) Sub.h
          · have hk1 : keep1 l c.abs P = if P = 0 ∧ c.at' < l.length then l.take c.at' else l := by
              unfold keep1
              rw [show c.abs.cut = true from hcut, show c.abs.at' = c.at' from rfl]
              by_cases h1 : P = 1
              · rw [if_pos h1, if_neg (by omega)]
              · rw [if_neg h1]; rfl
            rw [hk1] at hlen hkj'
            by_cases h3 : P = 0
            · by_cases h4 : c.at' < l.length
              · rw [if_pos ⟨h3, h4⟩] at hlen hkj'
                (refine x_true rfl ?_; refine x_seq ?_; refine x_seq (x_region ?_); refine r_op (o_move rfl rfl ?_); refine r_op (o_eql_t rfl rfl (by omega) rfl ?_); refine r_op (o_move rfl rfl ?_); refine r_guard rfl (o_move rfl rfl ?_); refine r_guard rfl (o_lenS rfl rfl ?_); refine r_guard rfl (o_fieldAddr rfl rfl ?_); refine r_guard rfl (o_load rfl rfl rfl rfl ?_); refine r_guard rfl (o_gtr_t rfl rfl (by omega) rfl ?_); refine r_op (o_pick_t rfl rfl rfl ?_); refine r_nil ?_; refine x_true rfl ?_; refine x_region ?_; refine r_op (o_move rfl rfl ?_); refine r_op (o_fieldAddr rfl rfl ?_); refine r_op (o_load rfl rfl rfl rfl ?_))
                refine r_sl a5 fun _ hcap5 => ?_
                replace hcap5 : l.length ≤ c5 := hcap5
                (refine r_op ?_)
                refine o_sliceHi (cap := c5) rfl rfl (jh := c.at') rfl (Nat.le_trans (Nat.le_of_lt h4) hcap5) rfl ?_
                have elt : (l.take c.at').length = c.at' := by simp; omega
                have hst := Ent.sl_take (s := 1) (a := a5) (cap := c5) (xs := l.map bv) (Nat.le_of_lt h4) (Row b 0 (q.cells d.off) :: Sl 1 q.la q.fs.length q.lc (nowsV q.fs) :: Sl 1 q.sa q.fs.length q.sc (safesV q.fs) :: Sl 1 q.na q.fs.length q.nc (hdrsV q.fs) :: PC q.fs :: Sl 1 ao qo.length co (qo.map sv) :: Inn qo :: A :: Γ)
                rw [Nat.mul_one, ← List.map_take] at hst
                refine r_mem ((Ent.drop _ _).trans hst) ?_
                (refine r_op (o_assign rfl rfl ?_); refine r_nil ?_; refine x_exit rfl ?_; refine x_region ?_; refine r_op (o_move rfl rfl ?_); refine r_op (o_add rfl rfl (add_i64 (by omega)) rfl ?_); refine r_op (o_assign rfl rfl ?_); refine r_nil ?_)
                have hb := back3 (j + 1, (a5, c5, l.take c.at')) ⟨by omega, hlen, hkj'⟩ (by dsimp only; omega)
                dsimp only [sp, sv] at hb
                rw [elt] at hb
                refine x_weak (hb) (by (repeat' (first | exact trivial | refine ⟨rfl, ?_⟩))) Sub.h
              · rw [if_neg (by omega)] at hlen hkj'
                (refine x_true rfl ?_; refine x_seq ?_; refine x_seq (x_region ?_); refine r_op (o_move rfl rfl ?_); refine r_op (o_eql_t rfl rfl (by omega) rfl ?_); refine r_op (o_move rfl rfl ?_); refine r_guard rfl (o_move rfl rfl ?_); refine r_guard rfl (o_lenS rfl rfl ?_); refine r_guard rfl (o_fieldAddr rfl rfl ?_); refine r_guard rfl (o_load rfl rfl rfl rfl ?_); refine r_guard rfl (o_gtr_f rfl rfl (by omega) rfl ?_); refine r_op (o_pick_t rfl rfl rfl ?_); refine r_nil ?_; refine x_false rfl ?_; refine x_skip ?_; refine x_exit rfl ?_; refine x_region ?_; refine r_op (o_move rfl rfl ?_); refine r_op (o_add rfl rfl (add_i64 (by omega)) rfl ?_); refine r_op (o_assign rfl rfl ?_); refine r_nil ?_)
                refine x_weak (back3 (j + 1, (a5, c5, l)) ⟨by omega, hlen, hkj'⟩ (by dsimp only; omega)) (by (repeat' (first | exact trivial | refine ⟨rfl, ?_⟩))) Sub.h
            · rw [if_neg (by omega)] at hlen hkj'
              (refine x_true rfl ?_; refine x_seq ?_; refine x_seq (x_region ?_); refine r_op (o_move rfl rfl ?_); refine r_op (o_eql_f rfl rfl (by omega) rfl ?_); refine r_op (o_move rfl rfl ?_); refine r_skip rfl rfl rfl ?_; refine r_skip rfl rfl rfl ?_; refine r_skip rfl rfl rfl ?_; refine r_skip rfl rfl rfl ?_; refine r_skip rfl rfl rfl ?_; refine r_op (o_pick_f rfl rfl rfl ?_); refine r_nil ?_; refine x_false rfl ?_; refine x_skip ?_; refine x_exit rfl ?_; refine x_region ?_; refine r_op (o_move rfl rfl ?_); refine r_op (o_add rfl rfl (add_i64 (by omega)) rfl ?_); refine r_op (o_assign rfl rfl ?_); refine r_nil ?_)
              refine x_weak (back3 (j + 1, (a5, c5, l)) ⟨by omega, hlen, hkj'⟩ (by dsimp only; omega)) (by (repeat' (first | exact trivial | refine ⟨rfl, ?_⟩))) Sub.h
        · intro td back4
          by_cases hlt : at' + j < ps.length
          · rw [dif_pos hlt] at k2
            have hpg : (ps.map iv)[at' + j]? = some (.int .i64 ps[at' + j]) := mget iv hlt
            (refine x_seq (x_region ?_); refine r_op (o_move rfl rfl ?_); refine r_op (o_move rfl rfl ?_); refine r_op (o_lenS rfl rfl ?_); refine r_op (o_lss_t rfl rfl (by omega) rfl ?_); refine r_op (o_move rfl rfl ?_); refine r_guard rfl (o_move rfl rfl ?_); refine r_guard rfl (o_move rfl rfl ?_))
            (refine r_guard rfl ?_)
            refine o_indexR rfl rfl R (j := at' + j) rfl hlt rfl (fun b3 off3 ha3 => ?_)
            (refine r_guard rfl ?_)
            refine o_loadR rfl R ha3 (i := at' + j) (by omega) hpg rfl ?_
            by_cases hneg : ps[at' + j] < 0
            · rw [if_pos hneg] at k2
              rw [k2] at back4
              (refine r_guard rfl (o_geq_f rfl rfl (by omega) rfl ?_); refine r_op (o_pick_t rfl rfl rfl ?_); refine r_nil ?_; refine x_false rfl ?_; refine x_skip ?_)
              refine x_weak (back4 () trivial) (by (repeat' (first | exact trivial | refine ⟨rfl, ?_⟩))) Sub.h
            · rw [if_neg hneg] at k2
              (refine r_guard rfl (o_geq_t rfl rfl (by omega) rfl ?_); refine r_op (o_pick_t rfl rfl rfl ?_); refine r_nil ?_; refine x_true rfl ?_; refine x_region ?_; refine r_op (o_move rfl rfl ?_); refine r_op (o_move rfl rfl ?_))
              (refine r_op ?_)
              refine o_indexR rfl rfl R (j := at' + j) rfl hlt rfl (fun b4 off4 ha4 => ?_)
              (refine r_op ?_)
              refine o_loadR rfl R ha4 (i := at' + j) (by omega) hpg rfl ?_
              rw [← k2]
              (refine r_op (o_assign rfl rfl ?_); refine r_nil ?_)
              refine x_weak (back4 () trivial) (by (repeat' (first | exact trivial | refine ⟨rfl, ?_⟩))) Sub.h
          · rw [dif_neg hlt] at k2
            rw [k2] at back4
            (refine x_seq (x_region ?_); refine r_op (o_move rfl rfl ?_); refine r_op (o_move rfl rfl ?_); refine r_op (o_lenS rfl rfl ?_); refine r_op (o_lss_f rfl rfl (by omega) rfl ?_); refine r_op (o_move rfl rfl ?_); refine r_skip rfl rfl rfl ?_; refine r_skip rfl rfl rfl ?_; refine r_skip rfl rfl rfl ?_; refine r_skip rfl rfl rfl ?_; refine r_skip rfl rfl rfl ?_; refine r_op (o_pick_f rfl rfl rfl ?_); refine r_nil ?_; refine x_false rfl ?_; refine x_skip ?_)
            refine x_weak (back4 () trivial) (by (repeat' (first | exact trivial | refine ⟨rfl, ?_⟩))) Sub.h
      · obtain rfl : j = x.chg.length := by omega
        rw [List.drop_eq_nil_of_le (by omega)] at hkj
        (refine r_nil ?_; refine x_false rfl ?_; refine x_exit rfl ?_)
        refine x_weak (back2 (a5, c5, l) (by rw [← hkj]; rfl)) (by (repeat' (first | exact trivial | refine ⟨rfl, ?_⟩))) Sub.h
  · obtain rfl : f = 8 := by omega
    rw [List.drop_eq_nil_of_le (by omega)] at hk
    (refine r_nil ?_; refine x_false rfl ?_; refine x_exit rfl ?_; refine x_seq (x_region ?_); refine r_op (o_move rfl rfl ?_); refine r_op (o_nilCheck rfl rfl ?_); refine r_op (o_fieldAddr rfl rfl ?_); refine r_do (o_store rfl rfl rfl rfl (by simp) ?_); try dsimp only [Nat.reduceSub, Nat.reduceAdd, List.set]; refine r_nil ?_; refine x_seq (x_region ?_); refine r_op (o_move rfl rfl ?_); refine r_op (o_assign rfl rfl ?_); refine r_nil ?_)
    refine x_ret rfl [DiskR b d.crash, A, CellsX ao co qo] ⟨ao, co, qo, rfl, by rw [hk]; simp [keepAll], rfl⟩ ?_
    have hdr' := Ent.diskR (b := b) (d := d.crash) q ⟨hq.fs, hq.len, hq.fl.1, hq.fl.2.1, .inl rfl⟩ (Sl 1 ao qo.length co (qo.map sv) :: Inn qo :: A :: Γ)
    rw [show d.crash.off = true from rfl] at hdr'
    refine (Sub.h (Δ := Row b 0 (q.cells true) :: Sl 1 q.la q.fs.length q.lc (nowsV q.fs) :: Sl 1 q.sa q.fs.length q.sc (safesV q.fs) :: Sl 1 q.na q.fs.length q.nc (hdrsV q.fs) :: PC q.fs :: Sl 1 ao qo.length co (qo.map sv) :: Inn qo :: A :: Γ)).trans ?_
    refine hdr'.trans ?_
    exact ((Ent.cells_in ao co qo (A :: Γ)).cons _).trans Sub.h
end Go.Proofs.Ythneebbmodkjiaa
