/- Part of a proof over the seat Ythneebbmodkjiaa: module E2. Its claim's last module says what is proved. -/
import Derived.Test.YthneebbmodkjiaaE1
namespace Go.Proofs.Ythneebbmodkjiaa
open Go.Proofs

theorem slotB_lay {n : Nat} {t : Tx} (h : t.length + 16 ≤ n) :
    (let xs := (((List.replicate n (0 : UInt8)).map bv).set 1 (bv (UInt8.ofNat (t.length / 256)))).set 2 (bv (UInt8.ofNat (t.length % 256)));
     xs.take 16 ++ (t.take (min t.length (n - 16))).map bv ++ xs.drop (16 + min t.length (n - 16))) = (slotB n t).map bv := by
  obtain ⟨k, rfl⟩ : ∃ k, n = 16 + k := ⟨n - 16, by omega⟩
  have hk : t.length ≤ k := by omega
  rw [show min t.length (16 + k - 16) = t.length by omega, List.take_length]
  simp only [← List.map_set, ← List.map_take, ← List.map_drop, ← List.map_append]
  congr 1
  unfold slotB
  rw [show List.replicate (16 + k) (0 : UInt8) = [0, 0, 0] ++ List.replicate 13 0 ++ List.replicate k 0 by
    rw [show [(0 : UInt8), 0, 0] = List.replicate 3 0 from rfl, List.replicate_append_replicate, List.replicate_append_replicate]]
  rw [show 16 + k - 16 - t.length = k - t.length by omega]
  simp only [List.cons_append, List.nil_append, List.set_cons_succ, List.set_cons_zero, List.append_assoc]
  rw [show 16 + t.length = 13 + t.length + 1 + 1 + 1 by omega]
  simp only [List.drop_succ_cons]
  rw [show (16 : Nat) = 13 + 1 + 1 + 1 from rfl]
  simp only [List.take_succ_cons, List.cons_append]
  rw [List.take_left' (by simp), ← List.drop_drop, List.drop_left' (by simp), List.drop_replicate]
theorem byteHi (l : Nat) : IntKind.u8.wrap ((l : Int) / 256) = ((UInt8.ofNat (l / 256)).toNat : Int) := by
  simp [IntKind.wrap, IntKind.bits, IntKind.signed]
theorem byteLo (l : Nat) : IntKind.u8.wrap (l : Int) = ((UInt8.ofNat (l % 256)).toNat : Int) := by
  simp [IntKind.wrap, IntKind.bits, IntKind.signed]
set_option maxHeartbeats 1600000 in
theorem lay_spec {N : Nat} (ps b f n : Nat) (sl : Value) (fl : Bool) (d : Dk) (slot : Nat) (t : Tx) (hok : d.okn N) (hN : N + 20 ≤ 2 ^ 20) (hn : n ≤ 2 ^ 20) (hsl : slot ≤ 2 ^ 20) (ht : t.length + 16 ≤ n) :
    Spec Try.prog 109 [dp ps, .int .i64 slot, .string (bstr t)] [Row ps 0 (shRow b f n sl fl), DiskI b d] (fun v B => v = .int .i64 (layS d f n slot t).2 ∧ B = [Row ps 0 (shRow b f n sl fl), DiskI b (layS d f n slot t).1]) := by
  have hm := mul_le hsl hn
  refine Spec.of_ex Try.func109 rfl Try.ntmps109 rfl fun E cs Γ => ?_
  (simp only [argRho, Nat.reduceAdd, List.cons_append, List.nil_append])
  have hw := okn_write hok f (slot * n : Nat) (slotB n t)
  have hww := okn_wrs hok f (slot * n) (slotB n t)
  (refine x_seq (x_region ?_); refine r_op (o_assign rfl rfl ?_); refine r_nil ?_; refine x_seq (x_region ?_); refine r_op (o_move rfl rfl ?_); refine r_op (o_nilCheck rfl rfl ?_); refine r_op (o_fieldAddr rfl rfl ?_); refine r_op (o_load rfl rfl rfl rfl ?_))
  (refine r_op ?_)
  refine o_make rfl rfl (m := n) rfl rfl (by rfl) (by omega) (by omega) rfl (fun a7 => ?_)
  rw [show zs [Value.int IntKind.u8 0] n = (List.replicate n (0 : UInt8)).map bv by rw [zs_one]; simp [bv]]
  (refine r_op (o_assign rfl rfl ?_); refine r_nil ?_; refine x_seq (x_region ?_); refine r_op (o_move rfl rfl ?_); refine r_op (o_move rfl rfl ?_); refine r_op (o_move rfl rfl ?_); refine r_op (o_lenStr rfl rfl ?_))
  rw [bstr_size]
  (refine r_op ?_)
  refine o_shr rfl rfl ⟨by omega, by simp [IntKind.bits]⟩ rfl ?_
  rw [show ((t.length : Nat) : Int).fdiv (2 ^ (8 : Int).toNat) = (t.length : Int) / 256 by rw [Int.fdiv_eq_ediv_of_nonneg _ (by decide)]; rfl]
  (refine r_op ?_)
  refine o_conv rfl rfl ?_
  rw [byteHi, show Value.int .u8 ((UInt8.ofNat (t.length / 256)).toNat : Int) = bv (UInt8.ofNat (t.length / 256)) from rfl]
  (refine r_op (o_move rfl rfl ?_); refine r_op (o_lenStr rfl rfl ?_))
  rw [bstr_size]
  (refine r_op ?_)
  refine o_conv rfl rfl ?_
  rw [byteLo, show Value.int .u8 ((UInt8.ofNat (t.length % 256)).toNat : Int) = bv (UInt8.ofNat (t.length % 256)) from rfl]
  have RS := Sl.reads 1 a7 n n ((List.replicate n (0 : UInt8)).map bv) (by simp)
  have RS2 := Sl.reads 1 a7 n n (((List.replicate n (0 : UInt8)).map bv).set 1 (bv (UInt8.ofNat (t.length / 256)))) (by simp)
  (refine r_op ?_)
  refine o_indexR rfl rfl RS (j := 1) rfl (by omega) rfl (fun b1 off ha => ?_)
  (refine r_do ?_)
  refine o_storeS rfl rfl rfl ha (i := 1) (by omega) (by simp; omega) ?_
  (refine r_op ?_)
  refine o_indexR rfl rfl RS2 (j := 2) rfl (by omega) rfl (fun b1 off ha => ?_)
  (refine r_do ?_)
  refine o_storeS rfl rfl rfl ha (i := 2) (by omega) (by simp; omega) ?_
  (refine r_nil ?_; refine x_seq (x_region ?_); refine r_op (o_move rfl rfl ?_))
  (refine r_op ?_)
  refine o_sliceLo rfl rfl (jl := 16) rfl (by omega) rfl ?_
  (refine r_op (o_move rfl rfl ?_))
  (refine r_op ?_)
  refine o_copyStr (lo := 16) rfl rfl (by omega) rfl ?_
  have hlay := slotB_lay ht
  dsimp only at hlay
  refine r_mem (Γ' := Sl 1 a7 n n ((slotB n t).map bv) :: Row ps 0 (shRow b f n sl fl) :: DiskI b d :: Γ) (by rw [← hlay]; exact .refl _) ?_
  have hsb := slotB_length ht
  have RB : Reads (Sl 1 a7 n n ((slotB n t).map bv)) 1 a7 (slotB n t).length ((slotB n t).map bv) := by rw [hsb]; exact Sl.reads 1 a7 n n _ (by simp [hsb])
  have SW := write_spec (cap := n) b d f (slot * n : Nat) RB (by rw [hsb]; exact Nat.le_refl _) (hok.small (by omega))
  rw [hsb] at SW
  (refine r_nil ?_; refine x_seq ?_; refine x_seq ?_)
  refine x_script 17 [(0,false),(1,false),(2,false),(3,false),(4,false),(5,false),(6,false),(7,false),(8,false),(9,false),(10,false),(11,false),(12,false),(13,false),(14,false),(15,true),(16,false)] [Row ps 0 (shRow b f n sl fl)] mixed (by kernel_rfl) permF ?_
  (refine s_v rfl (v_move rfl) ?_; refine s_v rfl (v_nilCheck rfl) ?_; refine s_v rfl (v_fieldAddr rfl) ?_; refine s_v rfl (v_load rfl rfl rfl) ?_; refine s_v rfl (v_move rfl) ?_; refine s_v rfl (v_nilCheck rfl) ?_; refine s_v rfl (v_fieldAddr rfl) ?_; refine s_v rfl (v_load rfl rfl rfl) ?_; refine s_v rfl (v_move rfl) ?_; refine s_v rfl (v_move rfl) ?_; refine s_v rfl (v_nilCheck rfl) ?_; refine s_v rfl (v_fieldAddr rfl) ?_; refine s_v rfl (v_load rfl rfl rfl) ?_)
  refine s_v rfl (v_mul rfl rfl (in_i64 (by rw [← Int.natCast_mul]; omega))) ?_
  rw [← Int.natCast_mul]
  (refine s_v rfl (v_move rfl) ?_)
  refine s_x rfl (o_call rfl SW rfl ?_)
  rintro v B ⟨rfl, rfl⟩
  refine ⟨permF, ?_⟩
  (simp only [List.cons_append, List.nil_append])
  (refine s_v rfl (v_assign rfl) ?_)
  refine s_end rfl ?_
  by_cases h : (d.write f (slot * n : Nat) (slotB n t)).2 = 0
  · have e1 : wrs d f (slot * n) (slotB n t) = (d.write f (slot * n : Nat) (slotB n t)).1.sync f := by unfold wrs; rw [if_neg (by simpa using h)]
    rw [h]
    (refine x_seq (x_region ?_); refine r_op (o_move rfl rfl ?_); refine r_op (o_neq_f rfl rfl (by omega) rfl ?_); refine r_nil ?_; refine x_false rfl ?_; refine x_skip ?_; refine x_seq ?_; refine x_seq ?_)
    refine x_script 10 [(0,false),(1,false),(2,false),(3,false),(4,false),(5,false),(6,false),(7,false),(8,true),(9,false)] [Row ps 0 (shRow b f n sl fl)] mixed (by kernel_rfl) permF ?_
    (refine s_v rfl (v_move rfl) ?_; refine s_v rfl (v_nilCheck rfl) ?_; refine s_v rfl (v_fieldAddr rfl) ?_; refine s_v rfl (v_load rfl rfl rfl) ?_; refine s_v rfl (v_move rfl) ?_; refine s_v rfl (v_nilCheck rfl) ?_; refine s_v rfl (v_fieldAddr rfl) ?_; refine s_v rfl (v_load rfl rfl rfl) ?_)
    refine s_x rfl (o_call rfl (sync_spec b _ f (hw.small (by omega))) rfl ?_)
    rintro v B ⟨rfl, rfl⟩
    refine ⟨permF, ?_⟩
    (simp only [List.cons_append, List.nil_append])
    rw [← e1]
    (refine s_v rfl (v_assign rfl) ?_)
    refine s_end rfl ?_
    by_cases h2 : (wrs d f (slot * n) (slotB n t)).2 = 0
    · have e : layS d f n slot t = mark (wrs d f (slot * n) (slotB n t)).1 f n slot 1 := by unfold layS; rw [if_neg (by simpa using h2)]
      rw [h2]
      (refine x_seq (x_region ?_); refine r_op (o_move rfl rfl ?_); refine r_op (o_neq_f rfl rfl (by omega) rfl ?_); refine r_nil ?_; refine x_false rfl ?_; refine x_skip ?_; refine x_seq (x_region ?_); refine r_op (o_move rfl rfl ?_); refine r_op (o_move rfl rfl ?_))
      (refine r_op ?_)
      refine o_call rfl (mark_spec ps b f n sl fl _ slot 1 hww (by omega) hn hsl) rfl ?_
      rintro v B ⟨rfl, rfl⟩
      (simp only [List.cons_append, List.nil_append])
      (refine r_op (o_assign rfl rfl ?_); refine r_nil ?_)
      exact x_ret rfl [Row ps 0 (shRow b f n sl fl), DiskI b (layS d f n slot t).1] ⟨by rw [e]; rfl, rfl⟩ (by rw [e]; exact Sub.h)
    · have e : layS d f n slot t = wrs d f (slot * n) (slotB n t) := by unfold layS; rw [if_pos h2]
      (refine x_seq (x_region ?_); refine r_op (o_move rfl rfl ?_); refine r_op (o_neq_t rfl rfl (by omega) rfl ?_); refine r_nil ?_; refine x_true rfl ?_; refine x_seq (x_region ?_); refine r_op (o_move rfl rfl ?_); refine r_op (o_assign rfl rfl ?_); refine r_nil ?_)
      exact x_ret rfl [Row ps 0 (shRow b f n sl fl), DiskI b (layS d f n slot t).1] ⟨by rw [e]; rfl, rfl⟩ (by rw [e]; exact Sub.h)
  · have e1 : wrs d f (slot * n) (slotB n t) = d.write f (slot * n : Nat) (slotB n t) := by unfold wrs; rw [if_pos h]
    have e : layS d f n slot t = d.write f (slot * n : Nat) (slotB n t) := by unfold layS; rw [e1, if_pos h]
    (refine x_seq (x_region ?_); refine r_op (o_move rfl rfl ?_); refine r_op (o_neq_t rfl rfl (by omega) rfl ?_); refine r_nil ?_; refine x_true rfl ?_; refine x_seq (x_region ?_); refine r_op (o_move rfl rfl ?_); refine r_op (o_assign rfl rfl ?_); refine r_nil ?_)
    exact x_ret rfl [Row ps 0 (shRow b f n sl fl), DiskI b (layS d f n slot t).1] ⟨by rw [e]; rfl, rfl⟩ (by rw [e]; exact Sub.h)
end Go.Proofs.Ythneebbmodkjiaa
