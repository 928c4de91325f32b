/- Part of a proof over the seat Ythneebbmodkjiaa: module K8. Its claim's last module says what is proved. -/
import Derived.Test.YthneebbmodkjiaaK7
namespace Go.Proofs.Ythneebbmodkjiaa
open Go.Proofs

/-! ### Scripts of the rack's chapter -/
structure SR where
  f : Int
  la : Option Addr
  lc : Nat
  l : List BX
abbrev SR.cells (p : SR) : List Value := [.int .i64 p.f, .slice p.la p.l.length p.lc]
def SR.val (p : SR) : Value := .agg p.cells.toArray
structure SR.Rd (A : HP) (p : SR) : Prop where
  l : RdB A p.la p.l
  lb : p.l.length ≤ 2 ^ 47
  sb : ∀ x ∈ p.l, x.s.length ≤ 2 ^ 47 ∧ x.ps.length ≤ 2 ^ 47
structure SR.Fi (p : SR) : Prop where
  f : N64 p.f
  l : ∀ x ∈ p.l, N64 x.k ∧ N64 x.n ∧ ∀ z ∈ x.ps, N64 z
/-- Where nothing lies. -/
abbrev wrefs : List (Int × Int) := [(-1, 0), (4, 0), (0, 0), (3, 1), (3, -1)]
theorem ref_cell {l : List (Int × Int)} {i : Nat} (h : i < l.length) {y : Int × Int} (hy : l[i] = y) (j : Nat) (v : Value) (hv : (refC y)[j]? = some v) : (l.flatMap refC)[i * 2 + j]? = some v := by
  have hj : j < 2 := (List.getElem?_eq_some_iff.1 hv).1
  rw [fget (f := refC) (s := 2) (fun _ => rfl) h j hj, hy, hv]
abbrev ess1 : List (List En) := ess0.set 3 (putAt [] (ff []) (zt 1008))
theorem wrefs_none : ∀ y ∈ wrefs, rnone ess1 y := by
  intro y hy
  simp only [List.mem_cons, List.not_mem_nil, or_false] at hy
  rcases hy with rfl | rfl | rfl | rfl | rfl
  · exact .inl rfl
  · exact .inl rfl
  · exact .inr ⟨rfl, fun es he => .inr (by obtain rfl : [] = es := Option.some.inj he; rfl)⟩
  · exact .inr ⟨rfl, fun es he => .inr (by obtain rfl : [some (zt 1008)] = es := Option.some.inj he; rfl)⟩
  · exact .inr ⟨rfl, fun es he => .inl (by decide)⟩
set_option maxHeartbeats 3200000 in
theorem wrongs_spec {A : HP} {p : SR} (R : SR.Rd A p) : Spec Try.prog 22 [p.val] [A] (fun v B => v = .bool true ∧ B = [A]) := by
  refine Spec.of_ex Try.func22 rfl Try.ntmps22 rfl fun E cs Γ => ?_
  (simp only [argRho, List.cons_append, List.nil_append])
  (refine x_seq ?_); (refine x_region ?_)
  (refine r_op ?_)
  refine o_boxA (vs := p.cells) rfl rfl (fun b0 => ?_)
  have lb := R.lb
  (refine r_op (o_assign rfl rfl ?_); refine r_nil ?_; refine x_seq (x_region ?_))
  (refine r_op ?_)
  refine o_call rfl ropenNil_spec rfl ?_
  rintro v B ⟨rfl, rfl⟩
  (simp only [List.nil_append])
  (refine r_op (o_move rfl rfl ?_); refine r_op (o_extract rfl rfl rfl ?_); refine r_op (o_extract rfl rfl rfl ?_); refine r_op (o_assign rfl rfl ?_); refine r_op (o_assign rfl rfl ?_); refine r_nil ?_; refine x_seq (x_region ?_))
  (refine r_op ?_)
  refine o_call rfl disk0_spec rfl ?_
  rintro v B ⟨b1, rfl, rfl⟩
  (simp only [List.cons_append, List.nil_append])
  (refine r_op ?_)
  refine o_call rfl (ropenBad_spec (dp b1) 5 (by omega) []) rfl ?_
  rintro v B ⟨rfl, rfl⟩
  (simp only [List.nil_append])
  (refine r_op (o_move rfl rfl ?_); refine r_op (o_extract rfl rfl rfl ?_); refine r_op (o_extract rfl rfl rfl ?_); refine r_op (o_assign rfl rfl ?_); refine r_op (o_assign rfl rfl ?_); refine r_nil ?_; refine x_seq (x_region ?_))
  (refine r_op ?_)
  refine o_call rfl disk0_spec rfl ?_
  rintro v B ⟨b2, rfl, rfl⟩
  (simp only [List.cons_append, List.nil_append])
  (refine r_op ?_)
  refine o_call rfl (ropenBad_spec (dp b2) (-1) (by omega) []) rfl ?_
  rintro v B ⟨rfl, rfl⟩
  (simp only [List.nil_append])
  (refine r_op (o_move rfl rfl ?_); refine r_op (o_extract rfl rfl rfl ?_); refine r_op (o_extract rfl rfl rfl ?_); refine r_op (o_assign rfl rfl ?_); refine r_op (o_assign rfl rfl ?_); refine r_nil ?_; refine x_seq (x_region ?_))
  (refine r_op ?_)
  refine o_call rfl disk0_spec rfl ?_
  rintro v B ⟨b, rfl, rfl⟩
  (simp only [List.cons_append, List.nil_append])
  (refine r_op ?_)
  refine o_call rfl (ropen0_spec b 4 (by decide)) rfl ?_
  rintro v B ⟨r, bs, rfl, rfl, hc, hR⟩
  (simp only [List.cons_append, List.nil_append])
  (refine r_op (o_move rfl rfl ?_); refine r_op (o_extract rfl rfl rfl ?_); refine r_op (o_extract rfl rfl rfl ?_); refine r_op (o_assign rfl rfl ?_); refine r_op (o_assign rfl rfl ?_); refine r_nil ?_; refine x_seq ?_; refine x_seq (x_region ?_); refine r_op (o_move rfl rfl ?_))
  (refine r_op ?_)
  refine o_call rfl (num11_spec 1) rfl ?_
  rintro v B ⟨rfl, rfl⟩
  (simp only [List.nil_append])
  (refine r_op (o_neq_f rfl rfl (by omega) rfl ?_); refine r_op (o_move rfl rfl ?_); refine r_guard rfl (o_move rfl rfl ?_))
  (refine r_guard rfl ?_)
  refine o_peq (.inr rfl) rfl rfl (.inr rfl) rfl ?_
  (refine r_op (o_pick_f rfl rfl rfl ?_); refine r_op (o_move rfl rfl ?_); refine r_guard rfl (o_move rfl rfl ?_))
  (refine r_guard rfl ?_)
  refine o_call rfl (num11_spec 1) rfl ?_
  rintro v B ⟨rfl, rfl⟩
  (simp only [List.nil_append])
  (refine r_guard rfl (o_neq_f rfl rfl (by omega) rfl ?_); refine r_op (o_pick_f rfl rfl rfl ?_); refine r_op (o_move rfl rfl ?_); refine r_guard rfl (o_move rfl rfl ?_))
  (refine r_guard rfl ?_)
  refine o_peq (.inr rfl) rfl rfl (.inr rfl) rfl ?_
  (refine r_op (o_pick_f rfl rfl rfl ?_); refine r_op (o_move rfl rfl ?_); refine r_guard rfl (o_move rfl rfl ?_))
  (refine r_guard rfl ?_)
  refine o_call rfl (num11_spec 1) rfl ?_
  rintro v B ⟨rfl, rfl⟩
  (simp only [List.nil_append])
  (refine r_guard rfl (o_neq_f rfl rfl (by omega) rfl ?_); refine r_op (o_pick_f rfl rfl rfl ?_); refine r_op (o_move rfl rfl ?_); refine r_guard rfl (o_move rfl rfl ?_))
  (refine r_guard rfl ?_)
  refine o_peq (.inr rfl) rfl rfl (.inr rfl) rfl ?_
  (refine r_op (o_pick_f rfl rfl rfl ?_); refine r_op (o_move rfl rfl ?_); refine r_guard rfl (o_move rfl rfl ?_))
  (refine r_guard rfl ?_)
  refine o_call rfl (num11_spec 0) rfl ?_
  rintro v B ⟨rfl, rfl⟩
  (simp only [List.nil_append])
  (refine r_guard rfl (o_neq_f rfl rfl (by omega) rfl ?_); refine r_op (o_pick_f rfl rfl rfl ?_); refine r_op (o_move rfl rfl ?_); refine r_guard rfl (o_move rfl rfl ?_))
  (refine r_guard rfl ?_)
  refine o_peq (.inl rfl) rfl rfl (.inr rfl) rfl ?_
  (refine r_op (o_pick_f rfl rfl rfl ?_); refine r_nil ?_; refine x_false rfl ?_; refine x_skip ?_; refine x_seq (x_region ?_); refine r_op (o_move rfl rfl ?_))
  (refine r_op ?_)
  refine o_make rfl rfl (m := 1009) rfl rfl (by rfl) (by decide) (by decide) rfl (fun a7 => ?_)
  rw [zt_bv]
  (refine r_op ?_)
  refine o_toStr rfl (zt_reads a7 1009) rfl ?_
  (refine r_op ?_)
  refine o_call rfl (rputL_spec r b hc hR (t := zt 1009) (by rw [List.length_replicate]; rfl) (by rw [List.length_replicate]; decide)) rfl ?_
  rintro v B ⟨rfl, rfl⟩
  (simp only [List.cons_append, List.nil_append])
  (refine r_op (o_move rfl rfl ?_); refine r_op (o_extract rfl rfl rfl ?_); refine r_op (o_extract rfl rfl rfl ?_))
  (refine r_op ?_)
  refine o_alloc rfl (fun p11 => ?_)
  (refine r_do ?_)
  refine o_storeA (us := refC (0, 0)) rfl rfl rfl rfl rfl (Nat.le_refl 2) ?_
  (refine r_op (o_assign rfl rfl ?_); refine r_nil ?_; refine x_seq (x_region ?_); refine r_op (o_move rfl rfl ?_))
  (refine r_op ?_)
  refine o_make rfl rfl (m := 1008) rfl rfl (by rfl) (by decide) (by decide) rfl (fun a8 => ?_)
  rw [zt_bv]
  (refine r_op ?_)
  refine o_toStr rfl (zt_reads a8 1008) rfl ?_
  (refine r_op ?_)
  refine o_call rfl (rputC_spec r b hc hR (k := 3) (es := []) (t := zt 1008) rfl (by rw [List.length_replicate]; rfl) (by rw [List.length_replicate]; decide) (by decide)) rfl ?_
  rintro v B ⟨bs2, rfl, rfl, hc2, hR2⟩
  (simp only [List.cons_append, List.nil_append])
  (refine r_op (o_move rfl rfl ?_); refine r_op (o_extract rfl rfl rfl ?_); refine r_op (o_extract rfl rfl rfl ?_))
  (refine r_op ?_)
  refine o_alloc rfl (fun p13 => ?_)
  (refine r_do ?_)
  refine o_storeA (us := refC (3, 0)) rfl rfl rfl rfl rfl (Nat.le_refl 2) ?_
  refine r_mem (Ent.row_eq (us := refC (3, 0)) rfl _) ?_
  (refine r_op (o_assign rfl rfl ?_); refine r_nil ?_; refine x_seq (x_region ?_))
  (refine r_op ?_)
  refine o_build (cs := refC (-1, 0)) rfl (by rfl) rfl ?_
  (refine r_op ?_)
  refine o_build (cs := refC (4, 0)) rfl (by rfl) rfl ?_
  (refine r_op ?_)
  refine o_build (cs := refC (0, 0)) rfl (by rfl) rfl ?_
  (refine r_op ?_)
  refine o_build (cs := refC (3, 1)) rfl (by rfl) rfl ?_
  (refine r_op ?_)
  refine o_build (cs := refC (3, -1)) rfl (by rfl) rfl ?_
  (refine r_op ?_)
  refine o_buildSlice (cs := wrefs.flatMap refC) rfl (by rfl) (by rfl) (by rfl) (by rfl) rfl (fun a9 => ?_)
  (refine r_op (o_assign rfl rfl ?_); refine r_nil ?_; refine x_seq ?_; refine x_seq (x_region ?_); refine r_op (o_assign rfl rfl ?_); refine r_nil ?_; refine x_block ?_)
  have RW := Sl.reads 2 a9 5 5 (wrefs.flatMap refC) rfl
  refine x_loop (α := Nat) (fun i => i ≤ 5) (fun i => [(1, dp b0), (9, dp r), (12, .int .i64 2), (13, dp p13), (14, .int .i64 0), (15, .slice a9 5 5), (16, .int .i64 i)])
    (fun _ => Sl 2 a9 5 5 (wrefs.flatMap refC) :: Row p13 0 (refC (3, 0)) :: RackI r b (ssOf 4 ess1) :: DiskI b (newD bs2) :: A :: Row b0 0 p.cells :: Γ) (fun i => 5 - i) 0 (Nat.zero_le _) ⟨rfl, rfl, rfl, rfl, rfl, rfl, rfl, trivial⟩ Sub.h ?_
  intro i hi back
  (refine x_seq ?_; refine x_seq (x_region ?_); refine r_op (o_move rfl rfl ?_); refine r_op (o_move rfl rfl ?_); refine r_op (o_lenS rfl rfl ?_))
  (refine r_op ?_)
  refine o_lss rfl rfl rfl (fun h => ?_) (fun h => ?_)
  · have hi5 : i < wrefs.length := by show i < 5; omega
    obtain ⟨y, hy⟩ : ∃ y, wrefs[i] = y := ⟨_, rfl⟩
    have hyn := wrefs_none y (hy ▸ List.getElem_mem hi5)
    have hg := rgetN hR2 hyn
    (refine r_nil ?_; refine x_true rfl ?_; refine x_skip ?_; refine x_seq ?_; refine x_block ?_; refine x_seq (x_region ?_); refine r_op (o_move rfl rfl ?_); refine r_op (o_move rfl rfl ?_); refine r_op (o_move rfl rfl ?_))
    (refine r_op ?_)
    refine o_indexR rfl rfl RW (j := i) rfl hi5 rfl (fun b3 off ha => ?_)
    (refine r_op ?_)
    refine o_loadAR rfl RW ha (i := i * 2) (us := refC y) (by omega) rfl (ref_cell hi5 hy) rfl ?_
    (refine r_op ?_)
    refine o_call rfl (rget_spec r b (ssOf 4 ess1) y (fun s hs => by have := (hR2.mem s hs).2; omega)) rfl ?_
    rintro v B ⟨rfl, rfl⟩
    rw [hg]
    (simp only [List.cons_append, List.nil_append])
    (refine r_op (o_move rfl rfl ?_); refine r_op (o_extract rfl rfl rfl ?_); refine r_op (o_extract rfl rfl rfl ?_); refine r_op (o_assign rfl rfl ?_); refine r_op (o_assign rfl rfl ?_); refine r_nil ?_; refine x_seq (x_region ?_); refine r_op (o_move rfl rfl ?_))
    (refine r_op ?_)
    refine o_call rfl (num11_spec 3) rfl ?_
    rintro v B ⟨rfl, rfl⟩
    (simp only [List.nil_append])
    (refine r_op (o_neq_f rfl rfl (by omega) rfl ?_); refine r_op (o_move rfl rfl ?_); refine r_guard rfl (o_move rfl rfl ?_))
    (refine r_guard rfl ?_)
    refine o_sneq_f rfl rfl rfl rfl ?_
    (refine r_op (o_pick_f rfl rfl rfl ?_); refine r_op (o_move rfl rfl ?_); refine r_guard rfl (o_move rfl rfl ?_); refine r_guard rfl (o_move rfl rfl ?_); refine r_guard rfl (o_move rfl rfl ?_))
    (refine r_guard rfl ?_)
    refine o_indexR rfl rfl RW (j := i) rfl hi5 rfl (fun b3 off ha => ?_)
    (refine r_guard rfl ?_)
    refine o_loadAR rfl RW ha (i := i * 2) (us := refC y) (by omega) rfl (ref_cell hi5 hy) rfl ?_
    (refine r_guard rfl ?_)
    refine o_call rfl (rdelN_spec r b hc2 hR2 hyn) rfl ?_
    rintro v B ⟨rfl, rfl⟩
    (simp only [List.cons_append, List.nil_append])
    (refine r_guard rfl ?_)
    refine o_call rfl (num11_spec 3) rfl ?_
    rintro v B ⟨rfl, rfl⟩
    (simp only [List.nil_append])
    (refine r_guard rfl (o_neq_f rfl rfl (by omega) rfl ?_); refine r_op (o_pick_f rfl rfl rfl ?_); refine r_nil ?_; refine x_false rfl ?_; refine x_skip ?_; refine x_inBlock ?_; refine x_region ?_; refine r_op (o_move rfl rfl ?_); refine r_op (o_add rfl rfl (add_i64 (by omega)) rfl ?_); refine r_op (o_assign rfl rfl ?_); refine r_nil ?_)
    refine x_weak (back (i + 1) (by omega) (by omega)) (by (repeat' (first | exact trivial | refine ⟨rfl, ?_⟩))) Sub.h
  · (refine r_nil ?_; refine x_false rfl ?_; refine x_exit rfl ?_; refine x_seq (x_region ?_); refine r_op (o_move rfl rfl ?_))
    (refine r_op ?_)
    refine o_call rfl (num11_spec 2) rfl ?_
    rintro v B ⟨rfl, rfl⟩
    (simp only [List.nil_append])
    (refine r_op (o_eql_t rfl rfl (by omega) rfl ?_); refine r_op (o_move rfl rfl ?_); refine r_guard rfl (o_move rfl rfl ?_))
    (refine r_guard rfl ?_)
    refine o_call rfl (num11_spec 0) rfl ?_
    rintro v B ⟨rfl, rfl⟩
    (simp only [List.nil_append])
    (refine r_guard rfl (o_eql_t rfl rfl (by omega) rfl ?_); refine r_op (o_pick_t rfl rfl rfl ?_); refine r_op (o_move rfl rfl ?_))
    (refine r_guard rfl ?_)
    refine o_loadA (us := refC (3, 0)) rfl rfl rfl rfl rfl ?_
    (refine r_guard rfl ?_)
    refine o_build (cs := refC (3, 0)) rfl (by rfl) rfl ?_
    (refine r_guard rfl ?_)
    refine o_eqRef (at' := (3, 0)) rfl rfl rfl ?_
    (refine r_op (o_pick_t rfl rfl rfl ?_); refine r_op (o_move rfl rfl ?_); refine r_guard rfl (o_move rfl rfl ?_))
    (refine r_guard rfl ?_)
    refine o_call rfl (rbytesC_spec r b hR2) rfl ?_
    rintro v B ⟨rfl, rfl⟩
    rw [show rbytes (rlF 0 ess1) = 1024 from rfl]
    (simp only [List.cons_append, List.nil_append])
    (refine r_guard rfl (o_eql_t rfl rfl (by omega) rfl ?_); refine r_op (o_pick_t rfl rfl rfl ?_); refine r_op (o_move rfl rfl ?_); refine r_guard rfl (o_fieldAddr rfl rfl ?_); refine r_guard rfl (o_load rfl rfl rfl rfl ?_); refine r_guard rfl (o_lenS rfl rfl ?_); refine r_guard rfl (o_geq_t rfl rfl (by omega) rfl ?_); refine r_op (o_pick_t rfl rfl rfl ?_); refine r_op (o_move rfl rfl ?_))
    (refine r_guard rfl ?_)
    refine o_call rfl wakes11_spec rfl ?_
    rintro v B ⟨rfl, rfl⟩
    (simp only [List.nil_append])
    (refine r_op (o_pick_t rfl rfl rfl ?_); refine r_op (o_assign rfl rfl ?_); refine r_nil ?_)
    exact x_ret rfl [A] ⟨rfl, rfl⟩ Sub.h
end Go.Proofs.Ythneebbmodkjiaa
