/- Part of a proof over the seat Ythneebbmodkjiaa: module D18. Its claim's last module says what is proved. -/
import Derived.Test.YthneebbmodkjiaaD17
namespace Go.Proofs.Ythneebbmodkjiaa
open Go.Proofs

def hoRow (m i : Nat) : List UInt8 := List.replicate i 7 ++ List.replicate (m - i) 0
theorem hoRow_length {m i : Nat} (h : i ≤ m) : (hoRow m i).length = m := by simp [hoRow]; omega
theorem hoRow_set {m i : Nat} (h : i < m) : ((hoRow m i).map bv).set i (.int .u8 7) = (hoRow m (i + 1)).map bv := by
  unfold hoRow
  rw [show (Value.int IntKind.u8 7) = bv 7 from rfl, ← List.map_set, List.set_append_right _ _ (by simp), List.length_replicate, Nat.sub_self, show m - i = m - (i + 1) + 1 by omega, List.replicate_succ, List.set_cons_zero]
  congr 1
  rw [show List.replicate (i + 1) (7 : UInt8) = List.replicate i 7 ++ [7] from List.replicate_succ']; simp
theorem hoRow_all (m : Nat) : hoRow m m = List.replicate m 7 := by simp [hoRow]

theorem keepAll_length' : ∀ (fs : List Fl) (ps : List Int), (keepAll fs ps).length = fs.length := by
  intro fs
  induction fs with
  | nil => intro ps; rfl
  | cons x fs ih => intro ps; simp [keepAll, ih]
set_option maxHeartbeats 4000000 in
theorem diskHoles_spec {A : HP} {p : SV} (R : SV.Rd A p) : Spec Try.prog 5 [p.val] [A] (fun v B => v = .bool true ∧ B = [A]) := by
  refine Spec.of_ex Try.func5 rfl Try.ntmps5 rfl fun E cs Γ => ?_
  (simp only [argRho, List.cons_append, List.nil_append])
  (refine x_seq ?_); (refine x_region ?_)
  (refine r_op ?_)
  refine o_boxA (vs := p.cells) rfl rfl (fun px => ?_)
  (refine r_op (o_assign rfl rfl ?_); refine r_nil ?_; refine x_seq ?_; refine x_seq (x_region ?_); refine r_op (o_assign rfl rfl ?_); refine r_nil ?_; refine x_block ?_)
  refine x_loop (α := Nat) (fun k => 1 ≤ k ∧ k ≤ 6) (fun k => [(1, dp px), (3, .int .i64 k)]) (fun k => Row px 0 p.cells :: A :: Γ)
    (fun k => 6 - k) 1 ⟨by decide, by decide⟩ ⟨rfl, rfl, trivial⟩ Sub.h ?_
  rintro n ⟨hn1, hk⟩ back
  (refine x_seq ?_; refine x_seq (x_region ?_); refine r_op (o_move rfl rfl ?_))
  (refine r_op ?_)
  refine o_leq rfl rfl rfl (fun h => ?_) (fun h => ?_)
  · have hk1 : n < 6 := by omega
    have hok := List.all_eq_true.1 ho_all n (List.mem_range.2 hk1)
    rw [Bool.or_eq_true] at hok
    replace hok := hok.resolve_left (by simp; omega)
    unfold hoOk at hok
    simp only [Bool.and_eq_true, decide_eq_true_eq] at hok
    obtain ⟨⟨⟨⟨⟨⟨⟨⟨⟨⟨g1, g2⟩, g3⟩, g4⟩, g5⟩, g6⟩, g7⟩, g8⟩, g9⟩, g10⟩, g11⟩ := hok
    have ok0 : (newD []).okn 0 := okn_new [] rfl
    obtain ⟨d1, hd1⟩ : ∃ d, ((newD []).write 6 0 (List.replicate (n * 64) 7)).1 = d := ⟨_, rfl⟩
    have ok1 : d1.okn 1 := hd1 ▸ okn_write ok0 6 0 _
    rw [hd1] at g2
    obtain ⟨d2, hd2⟩ : ∃ d, hoD n = d := ⟨_, rfl⟩
    have hd2' : (d1.write 6 (n * 64 : Nat) [101, 110, 100]).1 = d2 := by rw [← hd2, ← hd1]; rfl
    have ok2 : d2.okn 2 := hd2' ▸ okn_write ok1 6 _ _
    (refine r_nil ?_; refine x_true rfl ?_; refine x_skip ?_; refine x_seq ?_; refine x_block ?_; refine x_seq (x_region ?_))
    (refine r_op ?_)
    refine o_call rfl new0_spec rfl ?_
    rintro v B ⟨b, rfl, rfl⟩
    (simp only [List.cons_append, List.nil_append])
    (refine r_op (o_move rfl rfl ?_); refine r_op (o_extract rfl rfl rfl ?_); refine r_op (o_extract rfl rfl rfl ?_); refine r_op (o_assign rfl rfl ?_); refine r_op (o_assign rfl rfl ?_); refine r_nil ?_; refine x_seq ?_; refine x_seq (x_region ?_); refine r_op (o_move rfl rfl ?_))
    (refine r_op ?_)
    refine o_call rfl (num9_spec 0) rfl ?_
    rintro v B ⟨rfl, rfl⟩
    (simp only [List.nil_append])
    (refine r_op (o_neq_f rfl rfl (by omega) rfl ?_); refine r_op (o_move rfl rfl ?_); refine r_guard rfl (o_move rfl rfl ?_))
    (refine r_guard rfl ?_)
    refine o_peq (.inl rfl) rfl rfl (.inr rfl) rfl ?_
    (refine r_op (o_pick_f rfl rfl rfl ?_); refine r_nil ?_; refine x_false rfl ?_; refine x_skip ?_; refine x_seq (x_region ?_); refine r_op (o_move rfl rfl ?_); refine r_op (o_mul rfl rfl (in_i64 (by omega)) rfl ?_); refine r_op (o_assign rfl rfl ?_); refine r_nil ?_; refine x_seq (x_region ?_); refine r_op (o_move rfl rfl ?_))
    (refine r_op ?_)
    refine o_make rfl rfl (m := n * 64) (by omega) (by omega) (by rfl) (by omega) (by omega) rfl (fun a7 => ?_)
    (refine r_op (o_assign rfl rfl ?_); refine r_nil ?_; refine x_seq ?_; refine x_seq (x_region ?_); refine r_op (o_assign rfl rfl ?_); refine r_nil ?_; refine x_block ?_)
    have ez : zs [Value.int IntKind.u8 0] (n * 64) = (hoRow (n * 64) 0).map bv := by rw [zs_one]; simp [bv, hoRow]
    rw [ez]
    refine x_loop (α := Nat) (fun i => i ≤ n * 64) (fun i => [(1, dp px), (3, .int .i64 n), (4, dp b), (6, .int .i64 ((n : Int) * 64)), (7, .slice a7 (n * 64) (n * 64)), (8, .int .i64 i)])
      (fun i => Sl 1 a7 (n * 64) (n * 64) ((hoRow (n * 64) i).map bv) :: DiskI b (newD []) :: Row px 0 p.cells :: A :: Γ)
      (fun i => n * 64 - i) 0 (Nat.zero_le _) ⟨rfl, rfl, rfl, rfl, rfl, rfl, trivial⟩ Sub.h ?_
    intro i hi back2
    have R8 := Sl.reads 1 a7 (n * 64) (n * 64) ((hoRow (n * 64) i).map bv) (by simp [hoRow_length hi])
    (refine x_seq ?_; refine x_seq (x_region ?_); refine r_op (o_move rfl rfl ?_); refine r_op (o_move rfl rfl ?_))
    (refine r_op ?_)
    refine o_lss rfl rfl rfl (fun h2 => ?_) (fun h2 => ?_)
    · have hi1 : i < n * 64 := by omega
      (refine r_nil ?_; refine x_true rfl ?_; refine x_skip ?_; refine x_seq ?_; refine x_block ?_; refine x_region ?_; refine r_op (o_move rfl rfl ?_); refine r_op (o_move rfl rfl ?_))
      (refine r_op ?_)
      refine o_indexR rfl rfl R8 (j := i) rfl hi1 rfl (fun b1 off ha => ?_)
      (refine r_do ?_)
      refine o_storeS rfl rfl rfl ha (i := i) (by omega) (by simp [hoRow_length hi]; omega) ?_
      rw [hoRow_set hi1]
      (refine r_nil ?_; refine x_inBlock ?_; refine x_region ?_; refine r_op (o_move rfl rfl ?_); refine r_op (o_add rfl rfl (add_i64 (by omega)) rfl ?_); refine r_op (o_assign rfl rfl ?_); refine r_nil ?_)
      refine x_weak (back2 (i + 1) (by omega) (by omega)) (by (repeat' (first | exact trivial | refine ⟨rfl, ?_⟩))) Sub.h
    · obtain rfl : i = n * 64 := by omega
      rw [hoRow_all] at R8 ⊢
      have R8' : Reads (Sl 1 a7 (n * 64) (n * 64) ((List.replicate (n * 64) (7 : UInt8)).map bv)) 1 a7 (List.replicate (n * 64) (7 : UInt8)).length ((List.replicate (n * 64) (7 : UInt8)).map bv) := by
        rw [List.length_replicate]; exact R8
      have S1 := write_spec (cap := n * 64) b (newD []) 6 0 R8' (by rw [List.length_replicate]; exact Nat.le_refl _) (ok0.small (by decide))
      rw [g1, hd1, List.length_replicate] at S1
      (refine r_nil ?_; refine x_false rfl ?_; refine x_exit rfl ?_; refine x_seq ?_; refine x_seq (x_region ?_); refine r_op (o_move rfl rfl ?_); refine r_op (o_move rfl rfl ?_))
      (refine r_op ?_)
      refine o_call rfl S1 rfl ?_
      rintro v B ⟨rfl, rfl⟩
      (simp only [List.cons_append, List.nil_append])
      (refine r_op ?_)
      refine o_call rfl (num9_spec _) rfl ?_
      rintro v B ⟨rfl, rfl⟩
      (simp only [List.nil_append])
      (refine r_op (o_neq_f rfl rfl (by omega) rfl ?_); refine r_op (o_move rfl rfl ?_); refine r_guard rfl (o_move rfl rfl ?_); refine r_guard rfl (o_move rfl rfl ?_))
      (refine r_guard rfl ?_)
      refine o_buildSliceW rfl (by rfl) (by rfl) (by rfl) rfl (fun bl => ?_)
      (refine r_guard rfl ?_)
      refine o_convW (vs := [.int .u8 101, .int .u8 110, .int .u8 100]) rfl (by rfl) rfl ?_
      have RL : Reads (Sl 1 (some ⟨bl, 0, none⟩) 3 3 [.int .u8 101, .int .u8 110, .int .u8 100]) 1 (some ⟨bl, 0, none⟩) ([101, 110, 100] : List UInt8).length (([101, 110, 100] : List UInt8).map bv) := Sl.reads 1 (some ⟨bl, 0, none⟩) 3 3 [.int .u8 101, .int .u8 110, .int .u8 100] rfl
      have S2 := write_spec (bs := [101, 110, 100]) (cap := 3) b d1 6 (n * 64 : Nat) RL (by decide) (ok1.small (by decide))
      rw [g2, hd2'] at S2
      rw [show ((n : Int) * 64) = ((n * 64 : Nat) : Int) by omega]
      (refine r_guard rfl ?_)
      refine o_call rfl S2 rfl ?_
      rintro v B ⟨rfl, rfl⟩
      (simp only [List.cons_append, List.nil_append])
      (refine r_guard rfl ?_)
      refine o_call rfl (num9_spec _) rfl ?_
      rintro v B ⟨rfl, rfl⟩
      (simp only [List.nil_append])
      (refine r_guard rfl (o_neq_f rfl rfl (by omega) rfl ?_); refine r_op (o_pick_f rfl rfl rfl ?_); refine r_nil ?_; refine x_false rfl ?_; refine x_skip ?_; refine x_seq (x_region ?_); refine r_op (o_assign rfl rfl ?_); refine r_nil ?_; refine x_seq ?_; refine x_seq (x_region ?_); refine r_op (o_assign rfl rfl ?_); refine r_nil ?_; refine x_block ?_)
      refine x_loop (α := Nat × Option Addr × Nat) (fun q => q.1 ≤ n) (fun q => [(1, dp px), (3, .int .i64 n), (4, dp b), (6, .int .i64 ((n * 64 : Nat) : Int)), (9, .slice q.2.1 q.1 q.2.2), (10, .int .i64 q.1)])
        (fun q => Sl 1 q.2.1 q.1 q.2.2 ((List.replicate q.1 (1 : Int)).map iv) :: DiskI b d2 :: Row px 0 p.cells :: A :: Γ)
        (fun q => n - q.1) (0, none, 0) (Nat.zero_le _) ⟨rfl, rfl, rfl, rfl, rfl, rfl, trivial⟩ ((Ent.nilSl 1 _).trans (Sub.h (Δ := Sl 1 none 0 0 [] :: DiskI b d2 :: Row px 0 p.cells :: A :: Γ))) ?_
      rintro ⟨i, a10, c10⟩ hi back3
      dsimp only at hi back3 ⊢
      (refine x_seq ?_; refine x_seq (x_region ?_); refine r_op (o_move rfl rfl ?_); refine r_op (o_move rfl rfl ?_))
      (refine r_op ?_)
      refine o_lss rfl rfl rfl (fun h3 => ?_) (fun h3 => ?_)
      · (refine r_nil ?_; refine x_true rfl ?_; refine x_skip ?_; refine x_seq ?_; refine x_block ?_; refine x_region ?_; refine r_op (o_move rfl rfl ?_))
        (refine r_op ?_)
        refine o_buildSlice rfl (by rfl) (by rfl) (by rfl) (by rfl) rfl (fun a2 => ?_)
        (refine r_op ?_)
        refine o_appendT rfl rfl (by rfl) (by rfl) (by rfl) (by omega) rfl (fun a3 c3 hc => ?_)
        have e : (List.replicate i (1 : Int)).map iv ++ [.int .i64 1] = (List.replicate (i + 1) (1 : Int)).map iv := by rw [List.replicate_succ']; simp
        rw [e]
        (refine r_op (o_assign rfl rfl ?_); refine r_nil ?_; refine x_inBlock ?_; refine x_region ?_; refine r_op (o_move rfl rfl ?_); refine r_op (o_add rfl rfl (add_i64 (by omega)) rfl ?_); refine r_op (o_assign rfl rfl ?_); refine r_nil ?_)
        refine x_weak (back3 (i + 1, a3, c3) (by dsimp only; omega) (by dsimp only; omega)) (by (repeat' (first | exact trivial | refine ⟨rfl, ?_⟩))) Sub.h
      · obtain rfl : i = n := by omega
        (refine r_nil ?_; refine x_false rfl ?_; refine x_exit rfl ?_; refine x_seq (x_region ?_); refine r_op (o_move rfl rfl ?_); refine r_op (o_move rfl rfl ?_))
        (refine r_op ?_)
        refine o_buildSlice rfl (by rfl) (by rfl) (by rfl) (by rfl) rfl (fun a2 => ?_)
        (refine r_op ?_)
        refine o_appendT rfl rfl (by rfl) (by rfl) (by rfl) (by omega) rfl (fun a3 c3 hc => ?_)
        have e : (List.replicate i (1 : Int)).map iv ++ [.int .i64 0] = (List.replicate i (1 : Int) ++ [0]).map iv := by simp
        rw [e]
        have hpl : (List.replicate i (1 : Int) ++ [0]).length = i + 1 := by simp
        have RP : Reads (Sl 1 a3 (i + 1) c3 ((List.replicate i (1 : Int) ++ [0]).map iv)) 1 a3 (List.replicate i (1 : Int) ++ [0]).length ((List.replicate i (1 : Int) ++ [0]).map iv) := by
          rw [hpl]; exact Sl.reads 1 a3 (i + 1) c3 _ (by rw [List.length_map, hpl, Nat.mul_one])
        have SC := crash_spec (cap := c3) b d2 RP (by rw [hpl]; omega) (fun p hp => by
          rcases List.mem_append.1 hp with hp | hp
          · rw [List.eq_of_mem_replicate hp]; decide
          · rw [List.mem_singleton.1 hp]; decide) (ok2.fit (by decide))
        rw [hpl] at SC
        (refine r_op ?_)
        refine o_call rfl SC rfl ?_
        rintro v B ⟨a12, c12, q, rfl, hq, rfl⟩
        (simp only [List.cons_append, List.nil_append])
        refine r_open (α := PLift (∀ x ∈ q, x.2.2.length ≤ x.2.1)) (Γ' := fun _ => _) (fun E w s => ⟨⟨St.inn_cap ((Ent.cells_out a12 c12 q _).st s.drop.drop).drop⟩, s⟩) fun ⟨hcaps⟩ => ?_
        have hq1 : cont q = hoOut i := by rw [hq, ← hd2]; rfl
        have hql : q.length = 8 := by
          have := congrArg List.length hq
          rw [keepAll_length'] at this
          have h8 : d2.fs.length = 8 := ok2.1
          simpa [cont, h8] using this
        obtain ⟨X, hX⟩ : ∃ X, hoX i = X := ⟨_, rfl⟩
        have hq6 : q[6].2.2 = X := by
          rw [← hX]; unfold hoX; rw [← hq1]; simp [cont, hql]
        rw [hX] at g3 g4 g5 g6
        have R12 := CellsX.rd a12 c12 q
        have R13 := R12.get (i := 6) (by omega)
        rw [hq6, g3] at R13
        have hsv : sv q[6] = .slice q[6].1 (i * 64 + 3) q[6].2.1 := by rw [sv, hq6, g3]
        (refine r_op (o_assign rfl rfl ?_); refine r_nil ?_; refine x_seq ?_; refine x_seq (x_region ?_); refine r_op (o_move rfl rfl ?_); refine r_op (o_lenS rfl rfl ?_); refine r_op (o_neq_f rfl rfl (by omega) rfl ?_); refine r_op (o_move rfl rfl ?_); refine r_guard rfl (o_move rfl rfl ?_))
        (refine r_guard rfl ?_)
        refine o_indexR rfl rfl R12.1 (j := 6) rfl (by omega) rfl (fun b1 off ha => ?_)
        (refine r_guard rfl ?_)
        refine o_loadR rfl R12.1 ha (i := 6) (by omega) (mget sv (by omega)) rfl ?_
        rw [hsv]
        (refine r_guard rfl (o_lenS rfl rfl ?_); refine r_guard rfl (o_move rfl rfl ?_); refine r_guard rfl (o_add rfl rfl (add_i64 (by omega)) rfl ?_); refine r_guard rfl (o_neq_f rfl rfl (by omega) rfl ?_); refine r_op (o_pick_f rfl rfl rfl ?_); refine r_op (o_move rfl rfl ?_); refine r_guard rfl (o_move rfl rfl ?_))
        (refine r_guard rfl ?_)
        refine o_indexR rfl rfl R12.1 (j := 6) rfl (by omega) rfl (fun b1 off ha => ?_)
        (refine r_guard rfl ?_)
        refine o_loadR rfl R12.1 ha (i := 6) (by omega) (mget sv (by omega)) rfl ?_
        rw [hsv]
        (refine r_guard rfl ?_)
        refine o_indexR rfl rfl R13 (j := 0) rfl (by omega) rfl (fun b2 off2 ha2 => ?_)
        (refine r_guard rfl ?_)
        refine o_loadR rfl R13 ha2 (i := 0) (by omega) (bget (by omega)) rfl ?_
        rw [show X[0] = 0 from by rw [← g4, List.getD_eq_getElem?_getD, List.getElem?_eq_getElem (by omega)]; rfl]
        (refine r_guard rfl ?_)
        refine o_neq_f rfl rfl rfl rfl ?_
        (refine r_op (o_pick_f rfl rfl rfl ?_); refine r_op (o_move rfl rfl ?_); refine r_guard rfl (o_move rfl rfl ?_))
        (refine r_guard rfl ?_)
        refine o_indexR rfl rfl R12.1 (j := 6) rfl (by omega) rfl (fun b1 off ha => ?_)
        (refine r_guard rfl ?_)
        refine o_loadR rfl R12.1 ha (i := 6) (by omega) (mget sv (by omega)) rfl ?_
        rw [hsv]
        (refine r_guard rfl (o_move rfl rfl ?_); refine r_guard rfl (o_sub rfl rfl (sub_i64 (by omega)) rfl ?_))
        (refine r_guard rfl ?_)
        refine o_indexR rfl rfl R13 (j := i * 64 - 1) (by omega) (by omega) rfl (fun b2 off2 ha2 => ?_)
        (refine r_guard rfl ?_)
        refine o_loadR rfl R13 ha2 (i := i * 64 - 1) (by omega) (bget (by omega)) rfl ?_
        rw [show X[i * 64 - 1] = 0 from by rw [← g5, List.getD_eq_getElem?_getD, List.getElem?_eq_getElem (by omega)]; rfl]
        (refine r_guard rfl ?_)
        refine o_neq_f rfl rfl rfl rfl ?_
        (refine r_op (o_pick_f rfl rfl rfl ?_); refine r_op (o_move rfl rfl ?_); refine r_guard rfl (o_move rfl rfl ?_))
        (refine r_guard rfl ?_)
        refine o_indexR rfl rfl R12.1 (j := 6) rfl (by omega) rfl (fun b1 off ha => ?_)
        (refine r_guard rfl ?_)
        refine o_loadR rfl R12.1 ha (i := 6) (by omega) (mget sv (by omega)) rfl ?_
        rw [hsv]
        (refine r_guard rfl (o_move rfl rfl ?_))
        have hcap6 : i * 64 + 3 ≤ q[6].2.1 := by
          have := hcaps q[6] (List.getElem_mem (by omega))
          rw [hq6, g3] at this; exact this
        (refine r_guard rfl ?_)
        refine o_sliceLo rfl rfl (jl := i * 64) rfl (by omega) rfl ?_
        have R14 := R13.sub q[6].2.1 (i * 64) (i * 64 + 3) (by omega) (Nat.le_refl _) hcap6
        have e14 : ((X.map bv).drop (i * 64 * 1)).take ((i * 64 + 3 - i * 64) * 1) = ([101, 110, 100] : List UInt8).map bv := by
          rw [← List.map_drop, show i * 64 * 1 = i * 64 by omega, g6, show (i * 64 + 3 - i * 64) * 1 = 3 by omega]; rfl
        rw [e14] at R14
        (refine r_guard rfl ?_)
        refine o_toStr rfl R14 rfl ?_
        (refine r_guard rfl ?_)
        refine o_sneq_f rfl rfl (by rfl) rfl ?_
        have RC : RdC (CellsX a12 c12 q) a12 q := R12
        have SN := new_spec (cap := c12) RC (by omega)
        (refine r_op (o_pick_f rfl rfl rfl ?_); refine r_nil ?_; refine x_false rfl ?_; refine x_skip ?_; refine x_seq (x_region ?_); refine r_op (o_move rfl rfl ?_))
        (refine r_op ?_)
        refine o_call rfl SN rfl ?_
        rintro v B (⟨_, o, rfl, rfl⟩ | ⟨hbad, _⟩)
        · (simp only [List.cons_append, List.nil_append])
          rw [hq1]
          have okn0 := okn_new (hoOut i) g7
          have okn1 := okn_cut okn0 6 i
          obtain ⟨o1, ho1⟩ : ∃ d, hoO i = d := ⟨_, rfl⟩
          have ho1' : ((newD (hoOut i)).cut 6 i).1 = o1 := ho1
          have SCut := cut_spec o (newD (hoOut i)) 6 i (okn0.small (by decide))
          rw [g8, ho1'] at SCut
          rw [ho1'] at okn1
          rw [ho1] at g9 g10 g11
          (refine r_op (o_move rfl rfl ?_); refine r_op (o_extract rfl rfl rfl ?_); refine r_op (o_extract rfl rfl rfl ?_); refine r_op (o_assign rfl rfl ?_); refine r_op (o_assign rfl rfl ?_); refine r_nil ?_; refine x_seq ?_; refine x_seq (x_region ?_); refine r_op (o_move rfl rfl ?_))
          (refine r_op ?_)
          refine o_call rfl (num9_spec _) rfl ?_
          rintro v B ⟨rfl, rfl⟩
          (simp only [List.nil_append])
          (refine r_op (o_neq_f rfl rfl (by omega) rfl ?_); refine r_op (o_move rfl rfl ?_); refine r_guard rfl (o_move rfl rfl ?_))
          (refine r_guard rfl ?_)
          refine o_peq (.inl rfl) rfl rfl (.inr rfl) rfl ?_
          (refine r_op (o_pick_f rfl rfl rfl ?_); refine r_op (o_move rfl rfl ?_); refine r_guard rfl (o_move rfl rfl ?_); refine r_guard rfl (o_move rfl rfl ?_))
          (refine r_guard rfl ?_)
          refine o_call rfl SCut rfl ?_
          rintro v B ⟨rfl, rfl⟩
          (simp only [List.cons_append, List.nil_append])
          (refine r_guard rfl ?_)
          refine o_call rfl (num9_spec _) rfl ?_
          rintro v B ⟨rfl, rfl⟩
          (simp only [List.nil_append])
          (refine r_guard rfl (o_neq_f rfl rfl (by omega) rfl ?_); refine r_op (o_pick_f rfl rfl rfl ?_); refine r_nil ?_; refine x_false rfl ?_; refine x_skip ?_; refine x_seq (x_region ?_); refine r_op (o_move rfl rfl ?_))
          have SZ := size_spec o o1 6
          rw [g9] at SZ
          (refine r_op ?_)
          refine o_call rfl SZ rfl ?_
          rintro v B ⟨rfl, rfl⟩
          (simp only [List.cons_append, List.nil_append])
          (refine r_op (o_move rfl rfl ?_); refine r_op (o_extract rfl rfl rfl ?_); refine r_op (o_extract rfl rfl rfl ?_); refine r_op (o_assign rfl rfl ?_); refine r_op (o_assign rfl rfl ?_); refine r_nil ?_; refine x_seq (x_region ?_); refine r_op (o_move rfl rfl ?_))
          (refine r_op ?_)
          refine o_call rfl (crash0_spec o o1 (okn1.fit (by decide))) rfl ?_
          rintro v B ⟨a16, c16, q16, rfl, hq16, rfl⟩
          (simp only [List.cons_append, List.nil_append])
          (refine r_op (o_assign rfl rfl ?_); refine r_nil ?_; refine x_seq (x_region ?_); refine r_op (o_move rfl rfl ?_))
          (refine r_op ?_)
          refine o_buildSlice rfl (by rfl) (by rfl) (by rfl) (by rfl) rfl (fun a17 => ?_)
          have RZ : Reads (Sl 1 a17 1 1 [.int .i64 0]) 1 a17 ([0] : List Int).length (([0] : List Int).map iv) := Sl.reads 1 a17 1 1 [.int .i64 0] rfl
          have okc := (okn1.fs o1.crash rfl).fit (by decide)
          have SC2 := crash_spec (cap := 1) o o1.crash RZ (by decide) (fun p hp => by rw [List.mem_singleton.1 hp]; decide) okc
          rw [show ([0] : List Int).length = 1 from rfl] at SC2
          skip
          (refine r_op ?_)
          refine o_call rfl SC2 rfl ?_
          rintro v B ⟨a18, c18, q18, rfl, hq18, rfl⟩
          (simp only [List.cons_append, List.nil_append])
          rw [show o1.crash.fs = o1.fs from rfl] at hq18
          have h16 : q16.length = 8 := by
            have := congrArg List.length hq16
            rw [keepAll_length'] at this
            have h8 : o1.fs.length = 8 := okn1.1
            simpa [cont, h8] using this
          have h18 : q18.length = 8 := by
            have := congrArg List.length hq18
            rw [keepAll_length'] at this
            have h8 : o1.fs.length = 8 := okn1.1
            simpa [cont, h8] using this
          have h166 : (q16[6]'(by omega)).2.2.length = i * 64 + 3 := by rw [← g10, ← hq16]; simp [cont, h16]
          have h186 : (q18[6]'(by omega)).2.2.length = i := by rw [← g11, ← hq18]; simp [cont, h18]
          have R16 := CellsX.rd a16 c16 q16
          have R18 := CellsX.rd a18 c18 q18
          have hs16 : sv q16[6] = .slice q16[6].1 (i * 64 + 3) q16[6].2.1 := by rw [sv, h166]
          have hs18 : sv q18[6] = .slice q18[6].1 i q18[6].2.1 := by rw [sv, h186]
          (refine r_op (o_assign rfl rfl ?_); refine r_nil ?_; refine x_seq (x_region ?_); refine r_op (o_move rfl rfl ?_))
          (refine r_op ?_)
          refine o_call rfl (num9_spec _) rfl ?_
          rintro v B ⟨rfl, rfl⟩
          (simp only [List.nil_append])
          (refine r_op (o_neq_f rfl rfl (by omega) rfl ?_); refine r_op (o_move rfl rfl ?_); refine r_guard rfl (o_move rfl rfl ?_); refine r_guard rfl (o_move rfl rfl ?_); refine r_guard rfl (o_neq_f rfl rfl (by omega) rfl ?_); refine r_op (o_pick_f rfl rfl rfl ?_); refine r_op (o_move rfl rfl ?_); refine r_guard rfl (o_move rfl rfl ?_); refine r_guard rfl (o_lenS rfl rfl ?_); refine r_guard rfl (o_neq_f rfl rfl (by omega) rfl ?_); refine r_op (o_pick_f rfl rfl rfl ?_); refine r_op (o_move rfl rfl ?_); refine r_guard rfl (o_move rfl rfl ?_))
          (refine r_guard rfl ?_)
          refine o_indexR rfl rfl R16.1 (j := 6) rfl (by omega) rfl (fun b1 off ha => ?_)
          (refine r_guard rfl ?_)
          refine o_loadR rfl R16.1 ha (i := 6) (by omega) (mget sv (by omega)) rfl ?_
          rw [hs16]
          (refine r_guard rfl (o_lenS rfl rfl ?_); refine r_guard rfl (o_move rfl rfl ?_); refine r_guard rfl (o_add rfl rfl (add_i64 (by omega)) rfl ?_); refine r_guard rfl (o_neq_f rfl rfl (by omega) rfl ?_); refine r_op (o_pick_f rfl rfl rfl ?_); refine r_op (o_move rfl rfl ?_); refine r_guard rfl (o_move rfl rfl ?_); refine r_guard rfl (o_lenS rfl rfl ?_); refine r_guard rfl (o_neq_f rfl rfl (by omega) rfl ?_); refine r_op (o_pick_f rfl rfl rfl ?_); refine r_op (o_move rfl rfl ?_); refine r_guard rfl (o_move rfl rfl ?_))
          (refine r_guard rfl ?_)
          refine o_indexR rfl rfl R18.1 (j := 6) rfl (by omega) rfl (fun b1 off ha => ?_)
          (refine r_guard rfl ?_)
          refine o_loadR rfl R18.1 ha (i := 6) (by omega) (mget sv (by omega)) rfl ?_
          rw [hs18]
          (refine r_guard rfl (o_lenS rfl rfl ?_); refine r_guard rfl (o_move rfl rfl ?_); refine r_guard rfl (o_neq_f rfl rfl (by omega) rfl ?_); refine r_op (o_pick_f rfl rfl rfl ?_); refine r_nil ?_; refine x_false rfl ?_; refine x_skip ?_; refine x_inBlock ?_; refine x_region ?_; refine r_op (o_move rfl rfl ?_); refine r_op (o_add rfl rfl (add_i64 (by omega)) rfl ?_); refine r_op (o_assign rfl rfl ?_); refine r_nil ?_)
          refine x_weak (back (i + 1) ⟨by omega, by omega⟩ (by omega)) (by (repeat' (first | exact trivial | refine ⟨rfl, ?_⟩))) Sub.h
        · rw [hq1, g7] at hbad; cases hbad
  · (refine r_nil ?_; refine x_false rfl ?_; refine x_exit rfl ?_; refine x_seq (x_region ?_))
    (refine r_op ?_)
    refine o_call rfl (refMay_spec (A := A) (q := []) (cap := 0) (a := none) ?_ (by decide)) rfl ?_
    · exact ⟨⟨by simp, fun _ _ _ _ => .inl rfl⟩, fun x hx => by cases hx⟩
    rintro v B ⟨rfl, rfl⟩
    (simp only [List.cons_append, List.nil_append])
    rw [show may (cont []) = true from rfl]
    (refine r_op (o_move rfl rfl ?_); refine r_guard rfl (o_fieldAddr rfl rfl ?_); refine r_guard rfl (o_load rfl rfl rfl rfl ?_); refine r_guard rfl (o_lenS rfl rfl ?_))
    have hlb := R.lb
    (refine r_guard rfl ?_)
    refine o_call rfl (within_spec p.l.length 3 (by decide)) rfl ?_
    rintro v B ⟨⟨r, rfl, r0, r3, _⟩, rfl⟩
    (simp only [List.nil_append])
    (refine r_guard rfl (o_lss_t rfl rfl (by omega) rfl ?_); refine r_op (o_pick_t rfl rfl rfl ?_); refine r_op (o_move rfl rfl ?_))
    (refine r_guard rfl ?_)
    refine o_call rfl wakes_spec rfl ?_
    rintro v B ⟨rfl, rfl⟩
    (simp only [List.nil_append])
    (refine r_op (o_pick_t rfl rfl rfl ?_); refine r_op (o_assign rfl rfl ?_); refine r_nil ?_)
    exact x_ret rfl [A] ⟨rfl, rfl⟩ Sub.h
end Go.Proofs.Ythneebbmodkjiaa
