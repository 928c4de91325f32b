/- Part of a proof over the seat Ythneebbmodkjiaa: module D16. Its claim's last module says what is proved. -/
import Derived.Test.YthneebbmodkjiaaD13
namespace Go.Proofs.Ythneebbmodkjiaa
open Go.Proofs

/-! ### DiskFails -/
def ffB (i : Nat) : UInt8 := UInt8.ofNat (97 + i)
/-- The two disks and what is wanted, behind so many rounds. -/
def ffS (n : Nat) : Nat → Dk × Dk × List UInt8
  | 0 => ((newD []).hurt n, (newD []).power n, [])
  | i + 1 => (((ffS n i).1.write 1 ((ffS n i).1.size 1).1 [ffB (i + 1)]).1, ((ffS n i).2.1.write 1 0 [ffB (i + 1)]).1,
      if ((ffS n i).1.write 1 ((ffS n i).1.size 1).1 [ffB (i + 1)]).2 = 0 then (ffS n i).2.2 ++ [ffB (i + 1)] else (ffS n i).2.2)
def ffH (n i : Nat) : Int := ((ffS n i).1.write 1 ((ffS n i).1.size 1).1 [ffB (i + 1)]).2
def ffK (n i : Nat) : Int := ((ffS n i).2.1.write 1 0 [ffB (i + 1)]).2
def ffOk (n i : Nat) : Bool := decide (((ffS n i).1.size 1).2 = 0) && decide (((ffS n i).1.size 1).1 = (ffS n i).2.2.length) && (decide (ffH n i = 14) == decide (i + 1 = n)) && (decide (ffH n i = 0) || decide (ffH n i = 14)) &&
  (decide (ffK n i = 13) == decide (n ≤ i + 1)) && (decide (ffK n i = 0) || decide (ffK n i = 13)) && decide ((ffS n i).2.2.length ≤ 4)
def ffEnd (n : Nat) : Bool := decide (((ffS n 4).1.read 1 0 (ffS n 4).2.2.length).2 = 0) && decide (((ffS n 4).1.read 1 0 (ffS n 4).2.2.length).1 = (ffS n 4).2.2) && decide ((ffS n 4).2.2.length ≤ 4)
theorem ff_all : (List.range 6).all (fun n => (List.range 4).all (ffOk n) && ffEnd n) = true := by decide +kernel
theorem ff_okn (n : Nat) : ∀ i, (ffS n i).1.okn i ∧ (ffS n i).2.1.okn i := by
  intro i
  induction i with
  | zero => exact ⟨(okn_new [] rfl).fs _ rfl, (okn_new [] rfl).fs _ rfl⟩
  | succ i ih => exact ⟨okn_write ih.1 _ _ _, okn_write ih.2 _ _ _⟩

theorem ff_byte : ∀ i : Nat, i < 4 → IntKind.u8.wrap (97 + ((i : Int) + 1)) = ((ffB (i + 1)).toNat : Int) := by decide
theorem bstr_app (a b : List UInt8) : bstr a ++ bstr b = bstr (a ++ b) := by
  apply ByteArray.ext; simp [bstr]
set_option maxHeartbeats 4000000 in
theorem diskFails_spec {A : HP} {p : SV} (_ : SV.Rd A p) : Spec Try.prog 6 [p.val] [A] (fun v B => v = .bool true ∧ B = [A]) := by
  refine Spec.of_ex Try.func6 rfl Try.ntmps6 rfl fun E cs Γ => ?_
  (simp only [argRho, List.cons_append, List.nil_append])
  (refine x_seq ?_); (refine x_region ?_)
  (refine r_op ?_)
  refine o_boxA (vs := p.cells) rfl rfl (fun px => ?_)
  (refine r_op (o_assign rfl rfl ?_); refine r_nil ?_; refine x_seq ?_; refine x_seq (x_region ?_); refine r_op (o_assign rfl rfl ?_); refine r_nil ?_; refine x_block ?_)
  refine x_loop (α := Nat) (fun k => k ≤ 6) (fun k => [(1, dp px), (3, .int .i64 k)]) (fun k => Row px 0 p.cells :: A :: Γ)
    (fun k => 6 - k) 0 (Nat.zero_le _) ⟨rfl, rfl, trivial⟩ Sub.h ?_
  intro n hk back
  (refine x_seq ?_; refine x_seq (x_region ?_); refine r_op (o_move rfl rfl ?_))
  (refine r_op ?_)
  refine o_leq rfl rfl rfl (fun h => ?_) (fun h => ?_)
  · have hk1 : n < 6 := by omega
    have hall := List.all_eq_true.1 ff_all n (List.mem_range.2 hk1)
    rw [Bool.and_eq_true] at hall
    obtain ⟨hall, hend⟩ := hall
    (refine r_nil ?_; refine x_true rfl ?_; refine x_skip ?_; refine x_seq ?_; refine x_block ?_; refine x_seq (x_region ?_))
    (refine r_op ?_)
    refine o_call rfl new0_spec rfl ?_
    rintro v B ⟨b, rfl, rfl⟩
    (simp only [List.cons_append, List.nil_append])
    (refine r_op (o_move rfl rfl ?_); refine r_op (o_extract rfl rfl rfl ?_); refine r_op (o_extract rfl rfl rfl ?_); refine r_op (o_assign rfl rfl ?_); refine r_op (o_assign rfl rfl ?_); refine r_nil ?_; refine x_seq (x_region ?_))
    (refine r_op ?_)
    refine o_call rfl new0_spec rfl ?_
    rintro v B ⟨o, rfl, rfl⟩
    (simp only [List.cons_append, List.nil_append])
    (refine r_op (o_move rfl rfl ?_); refine r_op (o_extract rfl rfl rfl ?_); refine r_op (o_extract rfl rfl rfl ?_); refine r_op (o_assign rfl rfl ?_); refine r_op (o_assign rfl rfl ?_); refine r_nil ?_; refine x_seq ?_; refine x_seq (x_region ?_); refine r_op (o_move rfl rfl ?_))
    (refine r_op ?_)
    refine o_call rfl (num9_spec 0) rfl ?_
    rintro v B ⟨rfl, rfl⟩
    (simp only [List.nil_append])
    (refine r_op (o_neq_f rfl rfl (by omega) rfl ?_); refine r_op (o_move rfl rfl ?_); refine r_guard rfl (o_move rfl rfl ?_))
    (refine r_guard rfl ?_)
    refine o_call rfl (num9_spec 0) rfl ?_
    rintro v B ⟨rfl, rfl⟩
    (simp only [List.nil_append])
    (refine r_guard rfl (o_neq_f rfl rfl (by omega) rfl ?_); refine r_op (o_pick_f rfl rfl rfl ?_); refine r_op (o_move rfl rfl ?_); refine r_guard rfl (o_move rfl rfl ?_))
    (refine r_guard rfl ?_)
    refine o_peq (.inl rfl) rfl rfl (.inr rfl) rfl ?_
    (refine r_op (o_pick_f rfl rfl rfl ?_); refine r_op (o_move rfl rfl ?_); refine r_guard rfl (o_move rfl rfl ?_))
    (refine r_guard rfl ?_)
    refine o_peq (.inl rfl) rfl rfl (.inr rfl) rfl ?_
    (refine r_op (o_pick_f rfl rfl rfl ?_); refine r_nil ?_; refine x_false rfl ?_; refine x_skip ?_; refine x_seq (x_region ?_); refine r_op (o_move rfl rfl ?_); refine r_op (o_move rfl rfl ?_))
    (refine r_op ?_)
    refine o_call rfl (fail_spec b (newD []) n (by omega)) rfl ?_
    rintro v B ⟨rfl, rfl⟩
    (simp only [List.cons_append, List.nil_append])
    (refine r_nil ?_; refine x_seq (x_region ?_); refine r_op (o_move rfl rfl ?_); refine r_op (o_move rfl rfl ?_))
    (refine r_op ?_)
    refine o_call rfl (off_spec o (newD []) n (by omega)) rfl ?_
    rintro v B ⟨rfl, rfl⟩
    (simp only [List.cons_append, List.nil_append])
    (refine r_nil ?_; refine x_seq (x_region ?_); refine r_op (o_assign rfl rfl ?_); refine r_nil ?_; refine x_seq ?_; refine x_seq (x_region ?_); refine r_op (o_assign rfl rfl ?_); refine r_nil ?_; refine x_block ?_)
    refine x_loop (α := Nat) (fun i => i ≤ 4) (fun i => [(1, dp px), (3, .int .i64 n), (4, dp b), (6, dp o), (8, .string (bstr (ffS n i).2.2)), (9, .int .i64 ((i : Int) + 1))])
      (fun i => DiskI b (ffS n i).1 :: DiskI o (ffS n i).2.1 :: Row px 0 p.cells :: A :: Γ)
      (fun i => 4 - i) 0 (Nat.zero_le _) ⟨rfl, rfl, rfl, rfl, rfl, rfl, trivial⟩ (Sub.h (Δ := DiskI b ((newD []).hurt n) :: DiskI o ((newD []).power n) :: Row px 0 p.cells :: A :: Γ)) ?_
    intro i hi back2
    (refine x_seq ?_; refine x_seq (x_region ?_); refine r_op (o_move rfl rfl ?_))
    (refine r_op ?_)
    refine o_leq rfl rfl rfl (fun h2 => ?_) (fun h2 => ?_)
    · have hi4 : i < 4 := by omega
      have hok := List.all_eq_true.1 hall i (List.mem_range.2 hi4)
      unfold ffOk at hok
      simp only [Bool.and_eq_true, Bool.or_eq_true, beq_iff_eq, decide_eq_true_eq, decide_eq_decide] at hok
      obtain ⟨⟨⟨⟨⟨⟨g1, g2⟩, g3⟩, g4⟩, g5⟩, g6⟩, g7⟩ := hok
      obtain ⟨k1, k2⟩ := ff_okn n i
      have back3 := back2 (i + 1) (by omega) (by omega)
      unfold ffS at back3
      obtain ⟨x, hx⟩ : ∃ x, ffB (i + 1) = x := ⟨_, rfl⟩
      have hby := ff_byte i hi4
      rw [hx] at back3 hby
      unfold ffH at g3 g4
      unfold ffK at g5 g6
      rw [hx] at g3 g4 g5 g6
      obtain ⟨d, hd⟩ : ∃ d, (ffS n i).1 = d := ⟨_, rfl⟩
      obtain ⟨e, he⟩ : ∃ e, (ffS n i).2.1 = e := ⟨_, rfl⟩
      obtain ⟨w, hw⟩ : ∃ w, (ffS n i).2.2 = w := ⟨_, rfl⟩
      rw [hd] at g1 g2 g3 g4 k1 back3 ⊢
      rw [he] at g5 g6 k2 back3 ⊢
      rw [hw] at g2 g7 back3 ⊢
      have hws : ((bstr w).size : Int) = (w.length : Int) := by rw [bstr_size]
      (refine r_nil ?_; refine x_true rfl ?_; refine x_skip ?_; refine x_seq ?_; refine x_block ?_; refine x_seq (x_region ?_); refine r_op (o_move rfl rfl ?_); refine r_op (o_add rfl rfl (add_i64 (by omega)) rfl ?_))
      (refine r_op ?_)
      refine o_conv rfl rfl ?_
      rw [hby]
      (refine r_op ?_)
      refine o_buildSlice rfl (by rfl) (by rfl) (by rfl) (by rfl) rfl (fun a2 => ?_)
      have RB : Reads (Sl 1 a2 1 1 [.int .u8 x.toNat]) 1 a2 ([x] : List UInt8).length (([x] : List UInt8).map bv) := Sl.reads 1 a2 1 1 [.int .u8 x.toNat] rfl
      (refine r_op (o_assign rfl rfl ?_); refine r_nil ?_; refine x_seq (x_region ?_); refine r_op (o_move rfl rfl ?_))
      (refine r_op ?_)
      refine o_call rfl (size_spec b d 1) rfl ?_
      rintro v B ⟨rfl, rfl⟩
      (simp only [List.cons_append, List.nil_append])
      (refine r_op (o_move rfl rfl ?_); refine r_op (o_extract rfl rfl rfl ?_); refine r_op (o_extract rfl rfl rfl ?_); refine r_op (o_assign rfl rfl ?_); refine r_op (o_assign rfl rfl ?_); refine r_nil ?_; refine x_seq (x_region ?_); refine r_op (o_move rfl rfl ?_); refine r_op (o_move rfl rfl ?_); refine r_op (o_move rfl rfl ?_))
      (refine r_op ?_)
      refine o_call rfl (write_spec (bs := [x]) (cap := 1) b d 1 (d.size 1).1 RB (by simp) (k1.small (by omega))) rfl ?_
      rintro v B ⟨rfl, rfl⟩
      (simp only [List.cons_append, List.nil_append])
      (refine r_op ?_)
      refine o_call rfl (num9_spec _) rfl ?_
      rintro v B ⟨rfl, rfl⟩
      (simp only [List.nil_append])
      obtain ⟨hh, hhd⟩ : ∃ hh, (d.write 1 (d.size 1).1 [x]).2 = hh := ⟨_, rfl⟩
      rw [hhd] at g3 g4 back3 ⊢
      (refine r_op (o_assign rfl rfl ?_); refine r_nil ?_; refine x_seq ?_; refine x_seq (x_region ?_); refine r_op (o_move rfl rfl ?_))
      (refine r_op ?_)
      refine o_call rfl (num9_spec _) rfl ?_
      rintro v B ⟨rfl, rfl⟩
      (simp only [List.nil_append])
      rw [g1, g2]
      (refine r_op (o_neq_f rfl rfl (by omega) rfl ?_); refine r_op (o_move rfl rfl ?_); refine r_guard rfl (o_move rfl rfl ?_); refine r_guard rfl (o_move rfl rfl ?_); refine r_guard rfl (o_lenStr rfl rfl ?_); refine r_guard rfl (o_neq_f rfl rfl (by omega) rfl ?_); refine r_op (o_pick_f rfl rfl rfl ?_); refine r_op (o_move rfl rfl ?_); refine r_guard rfl (o_move rfl rfl ?_))
      rw [hws]
      skip
      rcases g4 with g4 | g4
      · rw [g4] at g3 back3 ⊢
        rw [if_pos rfl, g2] at back3
        dsimp only at back3
        have hin : ¬ i + 1 = n := fun h => by have := g3.2 h; omega
        (refine r_guard rfl (o_eql_f rfl rfl (by omega) rfl ?_); refine r_guard rfl (o_move rfl rfl ?_); refine r_guard rfl (o_move rfl rfl ?_); refine r_guard rfl (o_eql_f rfl rfl (by omega) rfl ?_))
        (refine r_guard rfl ?_)
        refine o_beq (.inr rfl) rfl rfl rfl ?_
        (refine r_op (o_pick_f rfl rfl rfl ?_); refine r_op (o_move rfl rfl ?_); refine r_guard rfl (o_move rfl rfl ?_); refine r_guard rfl (o_neq_f rfl rfl (by omega) rfl ?_); refine r_guard rfl (o_move rfl rfl ?_); refine r_skip rfl rfl rfl ?_; refine r_skip rfl rfl rfl ?_; refine r_guard rfl (o_pick_f rfl rfl rfl ?_); refine r_op (o_pick_f rfl rfl rfl ?_); refine r_nil ?_; refine x_false rfl ?_; refine x_skip ?_; refine x_seq ?_; refine x_seq (x_region ?_); refine r_op (o_move rfl rfl ?_); refine r_op (o_eql_t rfl rfl (by omega) rfl ?_); refine r_nil ?_; refine x_true rfl ?_; refine x_region ?_; refine r_op (o_move rfl rfl ?_); refine r_op (o_move rfl rfl ?_))
        (refine r_op ?_)
        refine o_toStr rfl RB rfl ?_
        (refine r_op ?_)
        refine o_concat rfl rfl (by rw [bstr_size, bstr_size]; simp; omega) rfl ?_
        rw [bstr_app]
        (refine r_op (o_assign rfl rfl ?_); refine r_nil ?_; refine x_seq (x_region ?_); refine r_op (o_move rfl rfl ?_); refine r_op (o_move rfl rfl ?_))
        (refine r_op ?_)
        refine o_call rfl (write_spec (bs := [x]) (cap := 1) o e 1 0 RB (by simp) (k2.small (by omega))) rfl ?_
        rintro v B ⟨rfl, rfl⟩
        (simp only [List.cons_append, List.nil_append])
        (refine r_op ?_)
        refine o_call rfl (num9_spec _) rfl ?_
        rintro v B ⟨rfl, rfl⟩
        (simp only [List.nil_append])
        obtain ⟨kk, hkd⟩ : ∃ kk, (e.write 1 0 [x]).2 = kk := ⟨_, rfl⟩
        rw [hkd] at g5 g6 ⊢
        rcases g6 with g6 | g6
        · rw [g6] at g5 ⊢
          have hkn : ¬ n ≤ i + 1 := fun h => by have := g5.2 h; omega
          (refine r_op (o_assign rfl rfl ?_); refine r_nil ?_; refine x_seq (x_region ?_); refine r_op (o_move rfl rfl ?_); refine r_op (o_eql_f rfl rfl (by omega) rfl ?_); refine r_op (o_move rfl rfl ?_); refine r_op (o_move rfl rfl ?_); refine r_op (o_geq_f rfl rfl (by omega) rfl ?_))
          (refine r_op ?_)
          refine o_beq (.inr rfl) rfl rfl rfl ?_
          (refine r_op (o_move rfl rfl ?_); refine r_guard rfl (o_move rfl rfl ?_); refine r_guard rfl (o_neq_f rfl rfl (by omega) rfl ?_); refine r_guard rfl (o_move rfl rfl ?_); refine r_skip rfl rfl rfl ?_; refine r_skip rfl rfl rfl ?_; refine r_guard rfl (o_pick_f rfl rfl rfl ?_); refine r_op (o_pick_f rfl rfl rfl ?_); refine r_nil ?_; refine x_false rfl ?_; refine x_skip ?_; refine x_inBlock ?_; refine x_region ?_; refine r_op (o_move rfl rfl ?_); refine r_op (o_add rfl rfl (add_i64 (by omega)) rfl ?_); refine r_op (o_assign rfl rfl ?_); refine r_nil ?_)
          refine x_weak (back3) (by (repeat' (first | exact trivial | refine ⟨rfl, ?_⟩))) Sub.h
        · rw [g6] at g5 ⊢
          have hkn : n ≤ i + 1 := g5.1 rfl
          (refine r_op (o_assign rfl rfl ?_); refine r_nil ?_; refine x_seq (x_region ?_); refine r_op (o_move rfl rfl ?_); refine r_op (o_eql_t rfl rfl (by omega) rfl ?_); refine r_op (o_move rfl rfl ?_); refine r_op (o_move rfl rfl ?_); refine r_op (o_geq_t rfl rfl (by omega) rfl ?_))
          (refine r_op ?_)
          refine o_beq (.inr rfl) rfl rfl rfl ?_
          (refine r_op (o_move rfl rfl ?_); refine r_guard rfl (o_move rfl rfl ?_); refine r_guard rfl (o_neq_t rfl rfl (by omega) rfl ?_); refine r_guard rfl (o_move rfl rfl ?_); refine r_guard rfl (o_move rfl rfl ?_); refine r_guard rfl (o_neq_f rfl rfl (by omega) rfl ?_); refine r_guard rfl (o_pick_t rfl rfl rfl ?_); refine r_op (o_pick_f rfl rfl rfl ?_); refine r_nil ?_; refine x_false rfl ?_; refine x_skip ?_; refine x_inBlock ?_; refine x_region ?_; refine r_op (o_move rfl rfl ?_); refine r_op (o_add rfl rfl (add_i64 (by omega)) rfl ?_); refine r_op (o_assign rfl rfl ?_); refine r_nil ?_)
          refine x_weak (back3) (by (repeat' (first | exact trivial | refine ⟨rfl, ?_⟩))) Sub.h
      · rw [g4] at g3 back3 ⊢
        rw [if_neg (by decide), g2] at back3
        dsimp only at back3
        have hin : i + 1 = n := g3.1 rfl
        (refine r_guard rfl (o_eql_t rfl rfl (by omega) rfl ?_); refine r_guard rfl (o_move rfl rfl ?_); refine r_guard rfl (o_move rfl rfl ?_); refine r_guard rfl (o_eql_t rfl rfl (by omega) rfl ?_))
        (refine r_guard rfl ?_)
        refine o_beq (.inr rfl) rfl rfl rfl ?_
        (refine r_op (o_pick_f rfl rfl rfl ?_); refine r_op (o_move rfl rfl ?_); refine r_guard rfl (o_move rfl rfl ?_); refine r_guard rfl (o_neq_t rfl rfl (by omega) rfl ?_); refine r_guard rfl (o_move rfl rfl ?_); refine r_guard rfl (o_move rfl rfl ?_); refine r_guard rfl (o_neq_f rfl rfl (by omega) rfl ?_); refine r_guard rfl (o_pick_t rfl rfl rfl ?_); refine r_op (o_pick_f rfl rfl rfl ?_); refine r_nil ?_; refine x_false rfl ?_; refine x_skip ?_; refine x_seq ?_; refine x_seq (x_region ?_); refine r_op (o_move rfl rfl ?_); refine r_op (o_eql_f rfl rfl (by omega) rfl ?_); refine r_nil ?_; refine x_false rfl ?_; refine x_skip ?_; refine x_seq (x_region ?_); refine r_op (o_move rfl rfl ?_); refine r_op (o_move rfl rfl ?_))
        (refine r_op ?_)
        refine o_call rfl (write_spec (bs := [x]) (cap := 1) o e 1 0 RB (by simp) (k2.small (by omega))) rfl ?_
        rintro v B ⟨rfl, rfl⟩
        (simp only [List.cons_append, List.nil_append])
        (refine r_op ?_)
        refine o_call rfl (num9_spec _) rfl ?_
        rintro v B ⟨rfl, rfl⟩
        (simp only [List.nil_append])
        obtain ⟨kk, hkd⟩ : ∃ kk, (e.write 1 0 [x]).2 = kk := ⟨_, rfl⟩
        rw [hkd] at g5 g6 ⊢
        rcases g6 with g6 | g6
        · rw [g6] at g5
          exact absurd (g5.2 (by omega)) (by decide)
        · rw [g6] at g5 ⊢
          have hkn : n ≤ i + 1 := g5.1 rfl
          (refine r_op (o_assign rfl rfl ?_); refine r_nil ?_; refine x_seq (x_region ?_); refine r_op (o_move rfl rfl ?_); refine r_op (o_eql_t rfl rfl (by omega) rfl ?_); refine r_op (o_move rfl rfl ?_); refine r_op (o_move rfl rfl ?_); refine r_op (o_geq_t rfl rfl (by omega) rfl ?_))
          (refine r_op ?_)
          refine o_beq (.inr rfl) rfl rfl rfl ?_
          (refine r_op (o_move rfl rfl ?_); refine r_guard rfl (o_move rfl rfl ?_); refine r_guard rfl (o_neq_t rfl rfl (by omega) rfl ?_); refine r_guard rfl (o_move rfl rfl ?_); refine r_guard rfl (o_move rfl rfl ?_); refine r_guard rfl (o_neq_f rfl rfl (by omega) rfl ?_); refine r_guard rfl (o_pick_t rfl rfl rfl ?_); refine r_op (o_pick_f rfl rfl rfl ?_); refine r_nil ?_; refine x_false rfl ?_; refine x_skip ?_; refine x_inBlock ?_; refine x_region ?_; refine r_op (o_move rfl rfl ?_); refine r_op (o_add rfl rfl (add_i64 (by omega)) rfl ?_); refine r_op (o_assign rfl rfl ?_); refine r_nil ?_)
          refine x_weak (back3) (by (repeat' (first | exact trivial | refine ⟨rfl, ?_⟩))) Sub.h
    · obtain rfl : i = 4 := by omega
      unfold ffEnd at hend
      simp only [Bool.and_eq_true, decide_eq_true_eq] at hend
      obtain ⟨⟨e1, e2⟩, e3⟩ := hend
      obtain ⟨k1, k2⟩ := ff_okn n 4
      obtain ⟨d, hd⟩ : ∃ d, (ffS n 4).1 = d := ⟨_, rfl⟩
      obtain ⟨w, hw⟩ : ∃ w, (ffS n 4).2.2 = w := ⟨_, rfl⟩
      rw [hd] at e1 e2 k1 ⊢
      rw [hw] at e1 e2 e3 ⊢
      (refine r_nil ?_; refine x_false rfl ?_; refine x_exit rfl ?_; refine x_seq (x_region ?_); refine r_op (o_move rfl rfl ?_); refine r_op (o_move rfl rfl ?_); refine r_op (o_lenStr rfl rfl ?_))
      rw [bstr_size]
      (refine r_op ?_)
      refine o_call rfl (read_spec b d 1 0 w.length (fun y hy => by have := (k1.2 y hy).1; omega)) rfl ?_
      rintro v B ⟨a3, c3, rfl, rfl⟩
      (simp only [List.cons_append, List.nil_append])
      rw [e1, e2]
      have R3 := Sl.reads 1 a3 w.length c3 (w.map bv) (by simp)
      (refine r_op (o_move rfl rfl ?_); refine r_op (o_extract rfl rfl rfl ?_); refine r_op (o_extract rfl rfl rfl ?_); refine r_op (o_assign rfl rfl ?_); refine r_op (o_assign rfl rfl ?_); refine r_nil ?_; refine x_seq (x_region ?_); refine r_op (o_move rfl rfl ?_))
      (refine r_op ?_)
      refine o_call rfl (num9_spec _) rfl ?_
      rintro v B ⟨rfl, rfl⟩
      (simp only [List.nil_append])
      (refine r_op (o_neq_f rfl rfl (by omega) rfl ?_); refine r_op (o_move rfl rfl ?_); refine r_guard rfl (o_move rfl rfl ?_))
      (refine r_guard rfl ?_)
      refine o_toStr rfl R3 rfl ?_
      (refine r_guard rfl (o_move rfl rfl ?_))
      (refine r_guard rfl ?_)
      refine o_sneq_f rfl rfl rfl rfl ?_
      (refine r_op (o_pick_f rfl rfl rfl ?_); refine r_nil ?_; refine x_false rfl ?_; refine x_skip ?_; refine x_inBlock ?_; refine x_region ?_; refine r_op (o_move rfl rfl ?_); refine r_op (o_add rfl rfl (add_i64 (by omega)) rfl ?_); refine r_op (o_assign rfl rfl ?_); refine r_nil ?_)
      refine x_weak (back (n + 1) (by omega) (by omega)) (by (repeat' (first | exact trivial | refine ⟨rfl, ?_⟩))) Sub.h
  · (refine r_nil ?_; refine x_false rfl ?_; refine x_exit rfl ?_; refine x_seq (x_region ?_); refine r_op (o_fieldAddr rfl rfl ?_); refine r_op (o_load rfl rfl rfl rfl ?_); refine r_op (o_lenS rfl rfl ?_))
    (refine r_op ?_)
    (refine o_geq_t rfl rfl (by omega) rfl ?_)
    (refine r_op (o_move rfl rfl ?_))
    (refine r_guard rfl ?_)
    refine o_call rfl wakes_spec rfl ?_
    rintro v B ⟨rfl, rfl⟩
    (simp only [List.nil_append])
    (refine r_op (o_pick_t rfl rfl rfl ?_); refine r_op (o_assign rfl rfl ?_); refine r_nil ?_)
    exact x_ret rfl [A] ⟨rfl, rfl⟩ Sub.h
end Go.Proofs.Ythneebbmodkjiaa
