/- Part of a proof over the seat Ythneebbmodkjiaa: module D15. Its claim's last module says what is proved. -/
import Derived.Test.YthneebbmodkjiaaD14
namespace Go.Proofs.Ythneebbmodkjiaa
open Go.Proofs

def pcFresh (i : Nat) : List UInt8 := List.replicate i 1 ++ List.replicate (128 - i) 0
theorem pcFresh_length {i : Nat} (h : i ≤ 128) : (pcFresh i).length = 128 := by simp [pcFresh]; omega
theorem pcFresh_set {i : Nat} (h : i < 128) : ((pcFresh i).map bv).set i (.int .u8 1) = (pcFresh (i + 1)).map bv := by
  unfold pcFresh
  rw [show (Value.int IntKind.u8 1) = bv 1 from rfl, ← List.map_set, List.set_append_right _ _ (by simp), List.length_replicate, Nat.sub_self, show 128 - i = 128 - (i + 1) + 1 by omega, List.replicate_succ, List.set_cons_zero]
  congr 1
  rw [show List.replicate (i + 1) (1 : UInt8) = List.replicate i 1 ++ [1] from List.replicate_succ']; simp
theorem pcFresh_all : pcFresh 128 = List.replicate 128 1 := by simp [pcFresh]
abbrev pcB (k : Nat) : List Int := [pcBit k 0, pcBit k 1, pcBit k 2]
theorem pcB_get (k i : Nat) (h : i < (pcB k).length) : (pcB k)[i] = pcBit k i := by
  match i, h with
  | 0, _ => rfl
  | 1, _ => rfl
  | 2, _ => rfl
theorem pcPicks_le : (List.range 40).all (fun k => (pcPicks k).all fun p => decide (p ≤ 9223372036854775807)) = true := by decide +kernel
theorem keepAll_length : ∀ (fs : List Fl) (ps : List Int), (keepAll fs ps).length = fs.length := by
  intro fs
  induction fs with
  | nil => intro ps; rfl
  | cons x fs ih => intro ps; simp [keepAll, ih]
set_option maxHeartbeats 4000000 in
theorem diskPieces_spec {A : HP} {p : SV} (_ : SV.Rd A p) : Spec Try.prog 3 [p.val] [A] (fun v B => v = .bool true ∧ B = [A]) := by
  refine Spec.of_ex Try.func3 rfl Try.ntmps3 rfl fun E cs Γ => ?_
  (simp only [argRho, List.cons_append, List.nil_append])
  (refine x_seq ?_); (refine x_region ?_)
  (refine r_op ?_)
  refine o_boxA (vs := p.cells) rfl rfl (fun px => ?_)
  (refine r_op (o_assign rfl rfl ?_); refine r_nil ?_; refine x_seq ?_; refine x_seq (x_region ?_); refine r_op (o_assign rfl rfl ?_); refine r_nil ?_; refine x_block ?_)
  refine x_loop (α := Nat) (fun k => k ≤ 40) (fun k => [(1, dp px), (3, .int .i64 k)]) (fun k => Row px 0 p.cells :: A :: Γ)
    (fun k => 40 - k) 0 (Nat.zero_le _) ⟨rfl, rfl, trivial⟩ Sub.h ?_
  intro k hk back
  (refine x_seq ?_; refine x_seq (x_region ?_); refine r_op (o_move rfl rfl ?_))
  (refine r_op ?_)
  refine o_lss rfl rfl rfl (fun h => ?_) (fun h => ?_)
  · have hk1 : k < 40 := by omega
    have hok : pcOk k = true := List.all_eq_true.1 pcOk_all k (List.mem_range.2 hk1)
    unfold pcOk at hok
    simp only [Bool.and_eq_true, beq_iff_eq] at hok
    obtain ⟨⟨hw3, hlen⟩, hall⟩ := hok
    obtain ⟨out, hout⟩ : ∃ l, pcOut k = l := ⟨_, rfl⟩
    rw [hout] at hlen hall
    have ok0 : (newD []).okn 0 := okn_new [] rfl
    have ok1 : pcD1.okn 1 := okn_write ok0 3 0 (List.replicate 192 0)
    have ok2 : pcD2.okn 2 := okn_sync ok1 3
    have ok3 : (pcD3 k).okn 3 := okn_write ok2 3 (pcFrom k) (List.replicate 128 1)
    (refine r_nil ?_; refine x_true rfl ?_; refine x_skip ?_; refine x_seq ?_; refine x_block ?_; refine x_seq (x_region ?_); refine r_op (o_move rfl rfl ?_); refine r_op (o_mul rfl rfl (in_i64 (by omega)) rfl ?_); refine r_op (o_rem rfl rfl (by omega) (by omega) rfl ?_); refine r_op (o_assign rfl rfl ?_); refine r_nil ?_; refine x_seq (x_region ?_))
    (refine r_op ?_)
    refine o_call rfl new0_spec rfl ?_
    rintro v B ⟨b, rfl, rfl⟩
    (simp only [List.cons_append, List.nil_append])
    (refine r_op (o_move rfl rfl ?_); refine r_op (o_extract rfl rfl rfl ?_); refine r_op (o_extract rfl rfl rfl ?_); refine r_op (o_assign rfl rfl ?_); refine r_op (o_assign rfl rfl ?_); refine r_nil ?_; refine x_seq (x_region ?_))
    (refine r_op ?_)
    refine o_make rfl rfl (m := 192) rfl rfl (by rfl) (by decide) (by decide) rfl (fun a7 => ?_)
    (refine r_op (o_assign rfl rfl ?_); refine r_nil ?_; refine x_seq (x_region ?_))
    (refine r_op ?_)
    refine o_make rfl rfl (m := 128) rfl rfl (by rfl) (by decide) (by decide) rfl (fun a8 => ?_)
    (refine r_op (o_assign rfl rfl ?_); refine r_nil ?_; refine x_seq ?_; refine x_seq (x_region ?_); refine r_op (o_assign rfl rfl ?_); refine r_nil ?_; refine x_block ?_)
    have ez : ∀ m : Nat, zs [Value.int IntKind.u8 0] m = (List.replicate m (0 : UInt8)).map bv := fun m => by rw [zs_one]; simp [bv]
    have ez8 : zs [Value.int IntKind.u8 0] 128 = (pcFresh 0).map bv := by rw [ez]; simp [pcFresh]
    rw [ez8, ez]
    refine x_loop (α := Nat) (fun i => i ≤ 128) (fun i => [(1, dp px), (3, .int .i64 k), (4, .int .i64 ((k : Int) * 5 % 70)), (5, dp b), (6, .int .i64 0), (7, .slice a7 192 192), (8, .slice a8 128 128), (9, .int .i64 i)])
      (fun i => Sl 1 a8 128 128 ((pcFresh i).map bv) :: Sl 1 a7 192 192 ((List.replicate 192 (0 : UInt8)).map bv) :: DiskI b (newD []) :: Row px 0 p.cells :: A :: Γ)
      (fun i => 128 - i) 0 (Nat.zero_le _) ⟨rfl, rfl, rfl, rfl, rfl, rfl, rfl, rfl, trivial⟩ Sub.h ?_
    intro i hi back2
    have R8 := Sl.reads 1 a8 128 128 ((pcFresh i).map bv) (by simp [pcFresh_length hi])
    (refine x_seq ?_; refine x_seq (x_region ?_); refine r_op (o_move rfl rfl ?_); refine r_op (o_move rfl rfl ?_); refine r_op (o_lenS rfl rfl ?_))
    (refine r_op ?_)
    refine o_lss rfl rfl rfl (fun h2 => ?_) (fun h2 => ?_)
    · have hi1 : i < 128 := by omega
      (refine r_nil ?_; refine x_true rfl ?_; refine x_skip ?_; refine x_seq ?_; refine x_block ?_; refine x_region ?_; refine r_op (o_move rfl rfl ?_); refine r_op (o_move rfl rfl ?_))
      (refine r_op ?_)
      refine o_indexR rfl rfl R8 (j := i) rfl hi1 rfl (fun b1 off ha => ?_)
      (refine r_do ?_)
      refine o_storeS rfl rfl rfl ha (i := i) (by omega) (by simp [pcFresh_length hi]; omega) ?_
      rw [pcFresh_set hi1]
      (refine r_nil ?_; refine x_inBlock ?_; refine x_region ?_; refine r_op (o_move rfl rfl ?_); refine r_op (o_add rfl rfl (add_i64 (by omega)) rfl ?_); refine r_op (o_assign rfl rfl ?_); refine r_nil ?_)
      refine x_weak (back2 (i + 1) (by omega) (by omega)) (by (repeat' (first | exact trivial | refine ⟨rfl, ?_⟩))) Sub.h
    · obtain rfl : i = 128 := by omega
      have R7 : Reads (Sl 1 a7 192 192 ((List.replicate 192 (0 : UInt8)).map bv)) 1 a7 (List.replicate 192 (0 : UInt8)).length ((List.replicate 192 (0 : UInt8)).map bv) := by
        rw [List.length_replicate]; exact Sl.reads 1 a7 192 192 _ (by rw [List.length_map, List.length_replicate])
      rw [pcFresh_all] at R8 ⊢
      have R8' : Reads (Sl 1 a8 128 128 ((List.replicate 128 (1 : UInt8)).map bv)) 1 a8 (List.replicate 128 (1 : UInt8)).length ((List.replicate 128 (1 : UInt8)).map bv) := by
        rw [List.length_replicate]; exact R8
      have S1 := write_spec (cap := 192) b (newD []) 3 0 R7 (by rw [List.length_replicate]; exact Nat.le_refl _) (ok0.small (by decide))
      have S2 := write_spec (cap := 128) b pcD2 3 (pcFrom k) R8' (by rw [List.length_replicate]; exact Nat.le_refl _) (ok2.small (by decide))
      rw [pcW1, show ((newD []).write 3 0 (List.replicate 192 0)).1 = pcD1 from rfl, List.length_replicate] at S1
      rw [hw3, show (pcD2.write 3 (pcFrom k) (List.replicate 128 1)).1 = pcD3 k from rfl, List.length_replicate] at S2
      (refine r_nil ?_; refine x_false rfl ?_; refine x_exit rfl ?_; refine x_seq ?_; refine x_seq (x_region ?_); refine r_op (o_move rfl rfl ?_))
      (refine r_op ?_)
      refine o_call rfl (num9_spec 0) rfl ?_
      rintro v B ⟨rfl, rfl⟩
      (simp only [List.nil_append])
      (refine r_op (o_neq_f rfl rfl (by omega) rfl ?_); refine r_op (o_move rfl rfl ?_); refine r_guard rfl (o_move rfl rfl ?_))
      (refine r_guard rfl ?_)
      refine o_peq (.inl rfl) rfl rfl (.inr rfl) rfl ?_
      (refine r_op (o_pick_f rfl rfl rfl ?_); refine r_op (o_move rfl rfl ?_); refine r_guard rfl (o_move rfl rfl ?_); refine r_guard rfl (o_move rfl rfl ?_))
      (refine r_guard rfl ?_)
      refine o_call rfl S1 rfl ?_
      rintro v B ⟨rfl, rfl⟩
      (simp only [List.cons_append, List.nil_append])
      (refine r_guard rfl ?_)
      refine o_call rfl (num9_spec 0) rfl ?_
      rintro v B ⟨rfl, rfl⟩
      (simp only [List.nil_append])
      (refine r_guard rfl (o_neq_f rfl rfl (by omega) rfl ?_); refine r_op (o_pick_f rfl rfl rfl ?_); refine r_op (o_move rfl rfl ?_); refine r_guard rfl (o_move rfl rfl ?_))
      (refine r_guard rfl ?_)
      refine o_call rfl (sync_spec b pcD1 3 (ok1.small (by decide))) rfl ?_
      rintro v B ⟨rfl, rfl⟩
      (simp only [List.cons_append, List.nil_append])
      rw [pcW2, show (pcD1.sync 3).1 = pcD2 from rfl]
      (refine r_guard rfl ?_)
      refine o_call rfl (num9_spec 0) rfl ?_
      rintro v B ⟨rfl, rfl⟩
      (simp only [List.nil_append])
      (refine r_guard rfl (o_neq_f rfl rfl (by omega) rfl ?_); refine r_op (o_pick_f rfl rfl rfl ?_); refine r_op (o_move rfl rfl ?_); refine r_guard rfl (o_move rfl rfl ?_); refine r_guard rfl (o_move rfl rfl ?_); refine r_guard rfl (o_rem rfl rfl (by omega) (by omega) rfl ?_); refine r_guard rfl (o_move rfl rfl ?_))
      have ef : ((k : Int) * 5 % 70) % 64 = ((pcFrom k : Nat) : Int) := by unfold pcFrom; push_cast; rfl
      rw [ef]
      skip
      (refine r_guard rfl ?_)
      refine o_call rfl S2 rfl ?_
      rintro v B ⟨rfl, rfl⟩
      (simp only [List.cons_append, List.nil_append])
      (refine r_guard rfl ?_)
      refine o_call rfl (num9_spec 0) rfl ?_
      rintro v B ⟨rfl, rfl⟩
      (simp only [List.nil_append])
      (refine r_guard rfl (o_neq_f rfl rfl (by omega) rfl ?_); refine r_op (o_pick_f rfl rfl rfl ?_); refine r_nil ?_; refine x_false rfl ?_; refine x_skip ?_; refine x_seq (x_region ?_); refine r_op (o_assign rfl rfl ?_); refine r_nil ?_; refine x_seq ?_; refine x_seq (x_region ?_); refine r_op (o_assign rfl rfl ?_); refine r_nil ?_; refine x_block ?_)
      refine x_loop (α := Nat × Option Addr × Nat) (fun q => q.1 ≤ 3) (fun q => [(1, dp px), (3, .int .i64 k), (4, .int .i64 ((k : Int) * 5 % 70)), (5, dp b), (8, .slice a8 128 128), (10, .slice q.2.1 q.1 q.2.2), (11, .int .i64 q.1)])
        (fun q => Sl 1 q.2.1 q.1 q.2.2 (((pcB k).take q.1).map iv) :: DiskI b (pcD3 k) :: Sl 1 a8 128 128 ((List.replicate 128 (1 : UInt8)).map bv) :: Row px 0 p.cells :: A :: Γ)
        (fun q => 3 - q.1) (0, none, 0) (Nat.zero_le _) ⟨rfl, rfl, rfl, rfl, rfl, rfl, rfl, trivial⟩ ((Ent.nilSl 1 _).trans (Sub.h (Δ := Sl 1 none 0 0 [] :: DiskI b (pcD3 k) :: Sl 1 a8 128 128 ((List.replicate 128 (1 : UInt8)).map bv) :: Row px 0 p.cells :: A :: Γ))) ?_
      rintro ⟨i, a10, c10⟩ hi back3
      dsimp only at hi back3 ⊢
      (refine x_seq ?_; refine x_seq (x_region ?_); refine r_op (o_move rfl rfl ?_))
      (refine r_op ?_)
      refine o_lss rfl rfl rfl (fun h3 => ?_) (fun h3 => ?_)
      · have hi3 : i < (pcB k).length := by simp; omega
        (refine r_nil ?_; refine x_true rfl ?_; refine x_skip ?_; refine x_seq ?_; refine x_block ?_; refine x_region ?_; refine r_op (o_move rfl rfl ?_); refine r_op (o_move rfl rfl ?_); refine r_op (o_move rfl rfl ?_))
        (refine r_op ?_)
        refine o_shr rfl rfl ⟨by omega, by simp [IntKind.bits]; omega⟩ rfl ?_
        (refine r_op ?_)
        refine o_bits (r := .int .i64 (pcBit k i)) (.inl rfl) rfl rfl (fun w => rfl) rfl ?_
        (refine r_op ?_)
        refine o_buildSlice rfl (by rfl) (by rfl) (by rfl) (by rfl) rfl (fun a2 => ?_)
        (refine r_op ?_)
        refine o_appendT rfl rfl (by rfl) (by rfl) (by rfl) (by omega) rfl (fun a3 c3 hc => ?_)
        rw [← pcB_get k i hi3, show Value.int IntKind.i64 (pcB k)[i] = iv (pcB k)[i] from rfl, take_snoc iv (pcB k) i hi3]
        (refine r_op (o_assign rfl rfl ?_); refine r_nil ?_; refine x_inBlock ?_; refine x_region ?_; refine r_op (o_move rfl rfl ?_); refine r_op (o_add rfl rfl (add_i64 (by omega)) rfl ?_); refine r_op (o_assign rfl rfl ?_); refine r_nil ?_)
        refine x_weak (back3 (i + 1, a3, c3) (by dsimp only; omega) (by dsimp only; omega)) (by (repeat' (first | exact trivial | refine ⟨rfl, ?_⟩))) Sub.h
      · obtain rfl : i = 3 := by omega
        have R10 := Sl.reads 1 a10 3 c10 (((pcB k).take 3).map iv) (by simp)
        (refine r_nil ?_; refine x_false rfl ?_; refine x_exit rfl ?_; refine x_seq (x_region ?_); refine r_op (o_move rfl rfl ?_); refine r_op (o_move rfl rfl ?_); refine r_op (o_rem rfl rfl (by omega) (by omega) rfl ?_); refine r_op (o_move rfl rfl ?_); refine r_op (o_rem rfl rfl (by omega) (by omega) rfl ?_); refine r_op (o_add rfl rfl (add_i64 (by omega)) rfl ?_))
        (refine r_op ?_)
        refine o_indexR rfl rfl R10 (j := k % 3) (by omega) (by omega) rfl (fun b1 off ha => ?_)
        (refine r_do ?_)
        refine o_storeS rfl rfl rfl ha (i := k % 3) (by omega) (by simp; omega) ?_
        have e9 : (((pcB k).take 3).map iv).set (k % 3) (.int .i64 (2 + (k : Int) % 9)) = (pcPicks k).map iv := by
          unfold pcPicks
          rw [List.map_set]; rfl
        rw [e9]
        have hpl : (pcPicks k).length = 3 := by simp [pcPicks]
        have R11 : Reads (Sl 1 a10 3 c10 ((pcPicks k).map iv)) 1 a10 (pcPicks k).length ((pcPicks k).map iv) := by rw [hpl]; exact Sl.reads 1 a10 3 c10 _ (by simp [hpl])
        have hple : ∀ p ∈ pcPicks k, p ≤ 9223372036854775807 := fun p hp => by
          have := List.all_eq_true.1 pcPicks_le k (List.mem_range.2 hk1)
          have := List.all_eq_true.1 this p hp
          simpa using this
        have SC := crash_spec (cap := c10) b (pcD3 k) R11 (by rw [hpl]; decide) hple (ok3.fit (by decide))
        rw [hpl] at SC
        (refine r_nil ?_; refine x_seq (x_region ?_); refine r_op (o_move rfl rfl ?_); refine r_op (o_move rfl rfl ?_))
        (refine r_op ?_)
        refine o_call rfl SC rfl ?_
        rintro v B ⟨a12, c12, q, rfl, hq, rfl⟩
        (simp only [List.cons_append, List.nil_append])
        have hql : q.length = 8 := by
          have := congrArg List.length hq
          rw [keepAll_length] at this
          have h8 : (pcD3 k).fs.length = 8 := ok3.1
          simpa [cont, h8] using this
        have hq3 : q[3].2.2 = out := by
          rw [← hout]
          unfold pcOut
          rw [← hq]
          simp [cont, hql]
        have R12 := CellsX.rd a12 c12 q
        have R13 := R12.get (i := 3) (by omega)
        rw [hq3] at R13
        have hol : out.length = 192 := hlen
        have hsv : sv q[3] = .slice q[3].1 192 q[3].2.1 := by rw [sv, hq3, hol]
        rw [hol] at R13
        (refine r_op (o_assign rfl rfl ?_); refine r_nil ?_; refine x_seq ?_; refine x_seq (x_region ?_); refine r_op (o_move rfl rfl ?_); refine r_op (o_lenS rfl rfl ?_); refine r_op (o_neq_f rfl rfl (by omega) rfl ?_); refine r_op (o_move rfl rfl ?_); refine r_guard rfl (o_move rfl rfl ?_))
        (refine r_guard rfl ?_)
        refine o_indexR rfl rfl R12.1 (j := 3) rfl (by omega) rfl (fun b1 off ha => ?_)
        (refine r_guard rfl ?_)
        refine o_loadR rfl R12.1 ha (i := 3) (by omega) (mget sv (by omega)) rfl ?_
        rw [hsv]
        (refine r_guard rfl (o_lenS rfl rfl ?_); refine r_guard rfl (o_neq_f rfl rfl (by omega) rfl ?_); refine r_op (o_pick_f rfl rfl rfl ?_); refine r_nil ?_; refine x_false rfl ?_; refine x_skip ?_; refine x_seq (x_region ?_); refine r_op (o_move rfl rfl ?_); refine r_op (o_rem rfl rfl (by omega) (by omega) rfl ?_); refine r_op (o_assign rfl rfl ?_); refine r_nil ?_; refine x_seq (x_region ?_); refine r_op (o_assign rfl rfl ?_); refine r_nil ?_; refine x_block ?_)
        rw [ef]
        skip
        refine x_loop (α := Nat) (fun i => i ≤ 192) (fun i => [(1, dp px), (3, .int .i64 k), (8, .slice a8 128 128), (10, .slice a10 3 c10), (12, .slice a12 q.length c12), (13, .int .i64 (pcFrom k)), (14, .int .i64 i)])
          (fun i => CellsX a12 c12 q :: Sl 1 a10 3 c10 ((pcPicks k).map iv) :: Row px 0 p.cells :: A :: Γ)
          (fun i => 192 - i) 0 (Nat.zero_le _) ⟨rfl, rfl, rfl, rfl, rfl, rfl, rfl, trivial⟩ Sub.h ?_
        intro i hi back4
        (refine x_seq ?_; refine x_seq (x_region ?_); refine r_op (o_move rfl rfl ?_))
        (refine r_op ?_)
        refine o_lss rfl rfl rfl (fun h4 => ?_) (fun h4 => ?_)
        · have hi4 : i < 192 := by omega
          have hki : (out.getD i 0 == 1) = pcKept k i := by simpa using List.all_eq_true.1 hall i (List.mem_range.2 hi4)
          have hj3 : i / 64 < (pcPicks k).length := by omega
          obtain ⟨P, hP⟩ : ∃ P, (pcPicks k).getD (i / 64) 0 = P := ⟨_, rfl⟩
          have hPg : ((pcPicks k).map iv)[i / 64]? = some (iv P) := by
            rw [← hP, List.getD_eq_getElem?_getD, List.getElem?_eq_getElem hj3]; simp [hj3]
          (refine r_nil ?_); (refine x_true rfl ?_); (refine x_skip ?_); (refine x_seq ?_)
          (refine x_block ?_)
          obtain ⟨inB, hin⟩ : ∃ inB, decide (pcFrom k ≤ i ∧ i < pcFrom k + 128) = inB := ⟨_, rfl⟩
          have R10 : Reads (Sl 1 a10 3 c10 ((pcPicks k).map iv)) 1 a10 3 ((pcPicks k).map iv) := Sl.reads 1 a10 3 c10 _ (by simp [hpl])
          refine x_cut (α := Unit) (fun _ => True) (fun _ => [(15, .bool inB), (1, dp px), (3, .int .i64 k), (8, .slice a8 128 128), (10, .slice a10 3 c10), (12, .slice a12 q.length c12), (13, .int .i64 (pcFrom k)), (14, .int .i64 i)]) (fun _ => CellsX a12 c12 q :: Sl 1 a10 3 c10 ((pcPicks k).map iv) :: Row px 0 p.cells :: A :: Γ) ?_ ?_
          · rintro - -
            (refine x_seq ?_); (refine x_region ?_)
            (refine r_op (o_move rfl rfl ?_); refine r_op (o_move rfl rfl ?_); refine r_op (o_move rfl rfl ?_); refine r_op (o_rem rfl rfl (by omega) (by omega) rfl ?_); refine r_op (o_sub rfl rfl (sub_i64 (by omega)) rfl ?_); refine r_op (o_max rfl rfl rfl ?_); refine r_op (o_assign rfl rfl ?_); refine r_nil ?_)
            refine x_cut (α := Unit) (fun _ => True) (fun _ => [(17, .bool (pcKept k i)), (1, dp px), (3, .int .i64 k), (8, .slice a8 128 128), (10, .slice a10 3 c10), (12, .slice a12 q.length c12), (13, .int .i64 (pcFrom k)), (14, .int .i64 i)]) (fun _ => CellsX a12 c12 q :: Sl 1 a10 3 c10 ((pcPicks k).map iv) :: Row px 0 p.cells :: A :: Γ) ?_ ?_
            · rintro - -
              (refine x_seq (x_region ?_); refine r_op (o_move rfl rfl ?_))
              (refine r_op ?_)
              refine o_indexR rfl rfl R12.1 (j := 3) rfl (by omega) rfl (fun b1 off ha => ?_)
              (refine r_op ?_)
              refine o_loadR rfl R12.1 ha (i := 3) (by omega) (mget sv (by omega)) rfl ?_
              rw [hsv]
              (refine r_op (o_move rfl rfl ?_))
              (refine r_op ?_)
              refine o_indexR rfl rfl R13 (j := i) rfl (by omega) rfl (fun b2 off2 ha2 => ?_)
              (refine r_op ?_)
              refine o_loadR rfl R13 ha2 (i := i) (by omega) (bget (by omega)) rfl ?_
              have hgd : out.getD i 0 = out[i] := by rw [List.getD_eq_getElem?_getD, List.getElem?_eq_getElem (by omega)]; rfl
              rw [hgd] at hki
              (refine r_op ?_)
              refine o_eql rfl rfl rfl (fun h5 => ?_) (fun h5 => ?_)
              · have hx1 : out[i] = 1 := bv_inj h5
                have hkt : pcKept k i = true := by rw [← hki, hx1]; rfl
                rw [hkt]
                (refine r_op (o_move rfl rfl ?_))
                (refine r_op ?_)
                refine o_beq (.inr rfl) rfl rfl rfl ?_
                (refine r_nil ?_; refine x_false rfl ?_; refine x_skip ?_; refine x_inBlock ?_; refine x_region ?_; refine r_op (o_move rfl rfl ?_); refine r_op (o_add rfl rfl (add_i64 (by omega)) rfl ?_); refine r_op (o_assign rfl rfl ?_); refine r_nil ?_)
                refine x_weak (back4 (i + 1) (by omega) (by omega)) (by (repeat' (first | exact trivial | refine ⟨rfl, ?_⟩))) Sub.h
              · have hkt : pcKept k i = false := by
                  rw [← hki]
                  cases hc : (out[i] == 1) with
                  | false => rfl
                  | true => exact absurd (by rw [eq_of_beq hc]; rfl) h5
                rw [hkt]
                (refine r_op (o_move rfl rfl ?_))
                (refine r_op ?_)
                refine o_beq (.inr rfl) rfl rfl rfl ?_
                (refine r_nil ?_; refine x_false rfl ?_; refine x_skip ?_; refine x_inBlock ?_; refine x_region ?_; refine r_op (o_move rfl rfl ?_); refine r_op (o_add rfl rfl (add_i64 (by omega)) rfl ?_); refine r_op (o_assign rfl rfl ?_); refine r_nil ?_)
                refine x_weak (back4 (i + 1) (by omega) (by omega)) (by (repeat' (first | exact trivial | refine ⟨rfl, ?_⟩))) Sub.h
            · intro td back5
              (refine x_region ?_)
              cases inB
              · have hkf : pcKept k i = false := by unfold pcKept; rw [hin]; rfl
                rw [hkf] at back5
                (refine r_op (o_move rfl rfl ?_); refine r_op (o_move rfl rfl ?_); refine r_skip rfl rfl rfl ?_; refine r_skip rfl rfl rfl ?_; refine r_skip rfl rfl rfl ?_; refine r_skip rfl rfl rfl ?_; refine r_skip rfl rfl rfl ?_; refine r_skip rfl rfl rfl ?_; refine r_op (o_pick_f rfl rfl rfl ?_); refine r_op (o_move rfl rfl ?_); refine r_guard rfl (o_move rfl rfl ?_); refine r_guard rfl (o_move rfl rfl ?_); refine r_skip rfl rfl rfl ?_; refine r_skip rfl rfl rfl ?_; refine r_skip rfl rfl rfl ?_; refine r_skip rfl rfl rfl ?_; refine r_skip rfl rfl rfl ?_; refine r_skip rfl rfl rfl ?_; refine r_guard rfl (o_pick_f rfl rfl rfl ?_); refine r_guard rfl (o_move rfl rfl ?_); refine r_skip rfl rfl rfl ?_; refine r_skip rfl rfl rfl ?_; refine r_skip rfl rfl rfl ?_; refine r_skip rfl rfl rfl ?_; refine r_skip rfl rfl rfl ?_; refine r_skip rfl rfl rfl ?_; refine r_skip rfl rfl rfl ?_; refine r_skip rfl rfl rfl ?_; refine r_skip rfl rfl rfl ?_; refine r_skip rfl rfl rfl ?_; refine r_guard rfl (o_pick_f rfl rfl rfl ?_); refine r_op (o_pick_f rfl rfl rfl ?_); refine r_op (o_assign rfl rfl ?_); refine r_nil ?_)
                refine x_weak (back5 () trivial) (by (repeat' (first | exact trivial | refine ⟨rfl, ?_⟩))) Sub.h
              · have hkp : pcKept k i = (decide (P = 0) || (decide (2 ≤ P) && decide ((i : Int) - max (pcFrom k : Int) ((i : Int) - ((i % 64 : Nat) : Int)) < P - 2))) := by
                  unfold pcKept; rw [hin, hP]; simp
                have hPle : P ≤ 9223372036854775807 := by
                  have : P ∈ pcPicks k := by
                    rw [← hP, List.getD_eq_getElem?_getD, List.getElem?_eq_getElem hj3]; exact List.getElem_mem hj3
                  exact hple P this
                (refine r_op (o_move rfl rfl ?_); refine r_op (o_move rfl rfl ?_); refine r_guard rfl (o_move rfl rfl ?_); refine r_guard rfl (o_move rfl rfl ?_); refine r_guard rfl (o_quo rfl rfl (by omega) (by omega) (in_i64 (by omega)) rfl ?_))
                (refine r_guard rfl ?_)
                refine o_indexR rfl rfl R10 (j := i / 64) (by omega) (by omega) rfl (fun b1 off ha => ?_)
                (refine r_guard rfl ?_)
                refine o_loadR rfl R10 ha (i := i / 64) (by omega) hPg rfl ?_
                by_cases hp0 : P = 0
                · have hkt : pcKept k i = true := by rw [hkp]; simp [hp0]
                  rw [hkt] at back5
                  (refine r_guard rfl (o_eql_t rfl rfl (by omega) rfl ?_); refine r_op (o_pick_t rfl rfl rfl ?_); refine r_op (o_move rfl rfl ?_); refine r_skip rfl rfl rfl ?_; refine r_skip rfl rfl rfl ?_; refine r_skip' rfl rfl ?_; refine r_skip' rfl rfl ?_; refine r_skip' rfl rfl ?_; refine r_skip' rfl rfl ?_; refine r_skip' rfl rfl ?_; refine r_skip' rfl rfl ?_; refine r_skip rfl rfl rfl ?_; refine r_skip rfl rfl rfl ?_; refine r_skip' rfl rfl ?_; refine r_skip' rfl rfl ?_; refine r_skip' rfl rfl ?_; refine r_skip' rfl rfl ?_; refine r_skip' rfl rfl ?_; refine r_skip' rfl rfl ?_; refine r_skip' rfl rfl ?_; refine r_skip' rfl rfl ?_; refine r_skip' rfl rfl ?_; refine r_skip' rfl rfl ?_; refine r_skip rfl rfl rfl ?_; refine r_op (o_pick_t rfl rfl rfl ?_); refine r_op (o_assign rfl rfl ?_); refine r_nil ?_)
                  refine x_weak (back5 () trivial) (by (repeat' (first | exact trivial | refine ⟨rfl, ?_⟩))) Sub.h
                · (refine r_guard rfl (o_eql_f rfl rfl (by omega) rfl ?_); refine r_op (o_pick_t rfl rfl rfl ?_); refine r_op (o_move rfl rfl ?_); refine r_guard rfl (o_move rfl rfl ?_); refine r_guard rfl (o_move rfl rfl ?_); refine r_guard rfl (o_move rfl rfl ?_); refine r_guard rfl (o_move rfl rfl ?_); refine r_guard rfl (o_quo rfl rfl (by omega) (by omega) (in_i64 (by omega)) rfl ?_))
                  (refine r_guard rfl ?_)
                  refine o_indexR rfl rfl R10 (j := i / 64) (by omega) (by omega) rfl (fun b1 off ha => ?_)
                  (refine r_guard rfl ?_)
                  refine o_loadR rfl R10 ha (i := i / 64) (by omega) hPg rfl ?_
                  by_cases hp2 : 2 ≤ P
                  · (refine r_guard rfl (o_geq_t rfl rfl (by omega) rfl ?_); refine r_guard rfl (o_pick_t rfl rfl rfl ?_); refine r_guard rfl (o_move rfl rfl ?_); refine r_guard rfl (o_move rfl rfl ?_); refine r_guard rfl (o_move rfl rfl ?_); refine r_guard rfl (o_sub rfl rfl (sub_i64 (by omega)) rfl ?_); refine r_guard rfl (o_move rfl rfl ?_); refine r_guard rfl (o_move rfl rfl ?_); refine r_guard rfl (o_quo rfl rfl (by omega) (by omega) (in_i64 (by omega)) rfl ?_))
                    (refine r_guard rfl ?_)
                    refine o_indexR rfl rfl R10 (j := i / 64) (by omega) (by omega) rfl (fun b1 off ha => ?_)
                    (refine r_guard rfl ?_)
                    refine o_loadR rfl R10 ha (i := i / 64) (by omega) hPg rfl ?_
                    by_cases hp3 : (i : Int) - max (pcFrom k : Int) ((i : Int) - (i : Int) % 64) < P - 2
                    · have hkt : pcKept k i = true := by
                        rw [hkp, show decide ((i : Int) - max (pcFrom k : Int) ((i : Int) - ((i % 64 : Nat) : Int)) < P - 2) = true from decide_eq_true (by omega), decide_eq_true hp2]; simp
                      rw [hkt] at back5
                      (refine r_guard rfl (o_sub rfl rfl (sub_i64 (by omega)) rfl ?_); refine r_guard rfl (o_lss_t rfl rfl (by omega) rfl ?_); refine r_guard rfl (o_pick_t rfl rfl rfl ?_); refine r_op (o_pick_f rfl rfl rfl ?_); refine r_op (o_assign rfl rfl ?_); refine r_nil ?_)
                      refine x_weak (back5 () trivial) (by (repeat' (first | exact trivial | refine ⟨rfl, ?_⟩))) Sub.h
                    · have hkt : pcKept k i = false := by
                        rw [hkp, show decide ((i : Int) - max (pcFrom k : Int) ((i : Int) - ((i % 64 : Nat) : Int)) < P - 2) = false from decide_eq_false (by omega), decide_eq_false hp0]; simp
                      rw [hkt] at back5
                      (refine r_guard rfl (o_sub rfl rfl (sub_i64 (by omega)) rfl ?_); refine r_guard rfl (o_lss_f rfl rfl (by omega) rfl ?_); refine r_guard rfl (o_pick_t rfl rfl rfl ?_); refine r_op (o_pick_f rfl rfl rfl ?_); refine r_op (o_assign rfl rfl ?_); refine r_nil ?_)
                      refine x_weak (back5 () trivial) (by (repeat' (first | exact trivial | refine ⟨rfl, ?_⟩))) Sub.h
                  · have hkt : pcKept k i = false := by
                      rw [hkp, decide_eq_false hp0, decide_eq_false hp2]; rfl
                    rw [hkt] at back5
                    (refine r_guard rfl (o_geq_f rfl rfl (by omega) rfl ?_); refine r_guard rfl (o_pick_t rfl rfl rfl ?_); refine r_guard rfl (o_move rfl rfl ?_); refine r_skip rfl rfl rfl ?_; refine r_skip rfl rfl rfl ?_; refine r_skip rfl rfl rfl ?_; refine r_skip rfl rfl rfl ?_; refine r_skip rfl rfl rfl ?_; refine r_skip rfl rfl rfl ?_; refine r_skip rfl rfl rfl ?_; refine r_skip rfl rfl rfl ?_; refine r_skip rfl rfl rfl ?_; refine r_skip rfl rfl rfl ?_; refine r_guard rfl (o_pick_f rfl rfl rfl ?_); refine r_op (o_pick_f rfl rfl rfl ?_); refine r_op (o_assign rfl rfl ?_); refine r_nil ?_)
                    refine x_weak (back5 () trivial) (by (repeat' (first | exact trivial | refine ⟨rfl, ?_⟩))) Sub.h
          · intro td back5
            (refine x_region ?_)
            by_cases c1 : pcFrom k ≤ i
            · by_cases c2 : i < pcFrom k + 128
              · have : inB = true := by rw [← hin]; exact decide_eq_true ⟨c1, c2⟩
                subst this
                (refine r_op (o_move rfl rfl ?_); refine r_op (o_move rfl rfl ?_); refine r_op (o_geq_t rfl rfl (by omega) rfl ?_); refine r_op (o_move rfl rfl ?_); refine r_guard rfl (o_move rfl rfl ?_); refine r_guard rfl (o_move rfl rfl ?_); refine r_guard rfl (o_move rfl rfl ?_); refine r_guard rfl (o_lenS rfl rfl ?_); refine r_guard rfl (o_add rfl rfl (add_i64 (by omega)) rfl ?_); refine r_guard rfl (o_lss_t rfl rfl (by omega) rfl ?_); refine r_op (o_pick_t rfl rfl rfl ?_); refine r_op (o_assign rfl rfl ?_); refine r_nil ?_)
                refine x_weak (back5 () trivial) (by (repeat' (first | exact trivial | refine ⟨rfl, ?_⟩))) Sub.h
              · have : inB = false := by rw [← hin]; exact decide_eq_false (fun h => c2 h.2)
                subst this
                (refine r_op (o_move rfl rfl ?_); refine r_op (o_move rfl rfl ?_); refine r_op (o_geq_t rfl rfl (by omega) rfl ?_); refine r_op (o_move rfl rfl ?_); refine r_guard rfl (o_move rfl rfl ?_); refine r_guard rfl (o_move rfl rfl ?_); refine r_guard rfl (o_move rfl rfl ?_); refine r_guard rfl (o_lenS rfl rfl ?_); refine r_guard rfl (o_add rfl rfl (add_i64 (by omega)) rfl ?_); refine r_guard rfl (o_lss_f rfl rfl (by omega) rfl ?_); refine r_op (o_pick_t rfl rfl rfl ?_); refine r_op (o_assign rfl rfl ?_); refine r_nil ?_)
                refine x_weak (back5 () trivial) (by (repeat' (first | exact trivial | refine ⟨rfl, ?_⟩))) Sub.h
            · have : inB = false := by rw [← hin]; exact decide_eq_false (fun h => c1 h.1)
              subst this
              (refine r_op (o_move rfl rfl ?_); refine r_op (o_move rfl rfl ?_); refine r_op (o_geq_f rfl rfl (by omega) rfl ?_); refine r_op (o_move rfl rfl ?_); refine r_skip rfl rfl rfl ?_; refine r_skip rfl rfl rfl ?_; refine r_skip rfl rfl rfl ?_; refine r_skip rfl rfl rfl ?_; refine r_skip rfl rfl rfl ?_; refine r_skip rfl rfl rfl ?_; refine r_op (o_pick_f rfl rfl rfl ?_); refine r_op (o_assign rfl rfl ?_); refine r_nil ?_)
              refine x_weak (back5 () trivial) (by (repeat' (first | exact trivial | refine ⟨rfl, ?_⟩))) Sub.h
        · obtain rfl : i = 192 := by omega
          (refine r_nil ?_; refine x_false rfl ?_; refine x_exit rfl ?_; refine x_inBlock ?_; refine x_region ?_; refine r_op (o_move rfl rfl ?_); refine r_op (o_add rfl rfl (add_i64 (by omega)) rfl ?_); refine r_op (o_assign rfl rfl ?_); refine r_nil ?_)
          refine x_weak (back (k + 1) (by omega) (by omega)) (by (repeat' (first | exact trivial | refine ⟨rfl, ?_⟩))) Sub.h
  · (refine r_nil ?_; refine x_false rfl ?_; refine x_exit rfl ?_; refine x_seq (x_region ?_); refine r_op (o_fieldAddr rfl rfl ?_); refine r_op (o_load rfl rfl rfl rfl ?_); refine r_op (o_lenS rfl rfl ?_))
    (refine r_op ?_)
    (refine o_geq_t rfl rfl (by omega) rfl ?_)
    (refine r_op (o_move rfl rfl ?_))
    (refine r_guard rfl ?_)
    refine o_call rfl wakes_spec rfl ?_
    rintro v B ⟨rfl, rfl⟩
    (simp only [List.nil_append])
    (refine r_op (o_pick_t rfl rfl rfl ?_); refine r_op (o_assign rfl rfl ?_); refine r_nil ?_)
    exact x_ret rfl [A] ⟨rfl, rfl⟩ Sub.h
end Go.Proofs.Ythneebbmodkjiaa
