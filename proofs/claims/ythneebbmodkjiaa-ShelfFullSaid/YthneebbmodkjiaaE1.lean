/- Part of a proof over the seat Ythneebbmodkjiaa: module E1. Its claim's last module says what is proved. -/
import Derived.Test.YthneebbmodkjiaaD13
namespace Go.Proofs.Ythneebbmodkjiaa
open Go.Proofs

/-! ### Slots: the plain doings -/
abbrev Tx := List UInt8
/-- A slot's bytes, its mark not laid. -/
def slotB (n : Nat) (t : Tx) : List UInt8 := [0, UInt8.ofNat (t.length / 256), UInt8.ofNat (t.length % 256)] ++ List.replicate 13 0 ++ t ++ List.replicate (n - 16 - t.length) 0
theorem slotB_length {n : Nat} {t : Tx} (h : t.length + 16 ≤ n) : (slotB n t).length = n := by simp [slotB]; omega
/-- Laid and safe. -/
def wrs (d : Dk) (f p : Nat) (b : List UInt8) : Dk × Int :=
  if (d.write f p b).2 ≠ 0 then d.write f p b else (d.write f p b).1.sync f
def mark (d : Dk) (f n slot : Nat) (m : UInt8) : Dk × Int := wrs d f (slot * n) [m]
def layS (d : Dk) (f n slot : Nat) (t : Tx) : Dk × Int :=
  if (wrs d f (slot * n) (slotB n t)).2 ≠ 0 then wrs d f (slot * n) (slotB n t) else mark (wrs d f (slot * n) (slotB n t)).1 f n slot 1
theorem okn_wrs {N : Nat} {d : Dk} (h : d.okn N) (f p : Nat) (b : List UInt8) : (wrs d f p b).1.okn (N + 2) := by
  unfold wrs
  split
  · exact (okn_write h f p b).mono (by omega)
  · exact okn_sync (okn_write h f p b) f
theorem okn_mark {N : Nat} {d : Dk} (h : d.okn N) (f n slot : Nat) (m : UInt8) : (mark d f n slot m).1.okn (N + 2) := okn_wrs h _ _ _
theorem okn_layS {N : Nat} {d : Dk} (h : d.okn N) (f n slot : Nat) (t : Tx) : (layS d f n slot t).1.okn (N + 4) := by
  unfold layS
  split
  · exact (okn_wrs h _ _ _).mono (by omega)
  · exact okn_mark (okn_wrs h _ _ _) f n slot 1

abbrev shRow (b f n : Nat) (sl : Value) (fl : Bool) : List Value := [dp b, .int .i64 f, .int .i64 n, sl, .bool fl]
theorem mul_le {a b A B : Nat} (h1 : a ≤ A) (h2 : b ≤ B) : a * b ≤ A * B := Nat.mul_le_mul h1 h2
theorem mark_spec {N : Nat} (ps b f n : Nat) (sl : Value) (fl : Bool) (d : Dk) (slot : Nat) (m : UInt8) (hok : d.okn N) (hN : N + 10 ≤ 2 ^ 20) (hn : n ≤ 2 ^ 20) (hsl : slot ≤ 2 ^ 20) :
    Spec Try.prog 111 [dp ps, .int .i64 slot, bv m] [Row ps 0 (shRow b f n sl fl), DiskI b d] (fun v B => v = .int .i64 (mark d f n slot m).2 ∧ B = [Row ps 0 (shRow b f n sl fl), DiskI b (mark d f n slot m).1]) := by
  have hm := mul_le hsl hn
  refine Spec.of_ex Try.func111 rfl Try.ntmps111 rfl fun E cs Γ => ?_
  (simp only [argRho, Nat.reduceAdd, List.cons_append, List.nil_append])
  have hw := okn_write hok f (slot * n : Nat) [m]
  (refine x_seq (x_region ?_); refine r_op (o_assign rfl rfl ?_); refine r_nil ?_; refine x_seq ?_; refine x_seq ?_)
  refine x_script 18 [(0,false),(1,false),(2,false),(3,false),(4,false),(5,false),(6,false),(7,false),(8,false),(9,false),(10,false),(11,false),(12,false),(13,false),(14,false),(15,true),(16,true),(17,false)] [Row ps 0 (shRow b f n sl fl)] mixed (by kernel_rfl) permF ?_
  (refine s_v rfl (v_move rfl) ?_; refine s_v rfl (v_nilCheck rfl) ?_; refine s_v rfl (v_fieldAddr rfl) ?_; refine s_v rfl (v_load rfl rfl rfl) ?_; refine s_v rfl (v_move rfl) ?_; refine s_v rfl (v_nilCheck rfl) ?_; refine s_v rfl (v_fieldAddr rfl) ?_; refine s_v rfl (v_load rfl rfl rfl) ?_; refine s_v rfl (v_move rfl) ?_; refine s_v rfl (v_move rfl) ?_; refine s_v rfl (v_nilCheck rfl) ?_; refine s_v rfl (v_fieldAddr rfl) ?_; refine s_v rfl (v_load rfl rfl rfl) ?_)
  refine s_v rfl (v_mul rfl rfl (in_i64 (by rw [← Int.natCast_mul]; omega))) ?_
  rw [← Int.natCast_mul]
  (refine s_v rfl (v_move rfl) ?_)
  refine s_x rfl (o_buildSlice rfl (by rfl) (by rfl) (by rfl) (by rfl) rfl (fun a2 => ?_))
  refine ⟨permF, ?_⟩
  have RB : Reads (Sl 1 a2 1 1 [bv m]) 1 a2 ([m] : List UInt8).length (([m] : List UInt8).map bv) := Sl.reads 1 a2 1 1 [bv m] rfl
  refine s_x rfl (o_call rfl (write_spec (bs := [m]) (cap := 1) b d f (slot * n : Nat) RB (by simp) (hok.small (by omega))) rfl ?_)
  rintro v B ⟨rfl, rfl⟩
  refine ⟨permF, ?_⟩
  (simp only [List.cons_append, List.nil_append])
  (refine s_v rfl (v_assign rfl) ?_)
  refine s_end rfl ?_
  by_cases h : (d.write f (slot * n : Nat) [m]).2 = 0
  · have e : mark d f n slot m = (d.write f (slot * n : Nat) [m]).1.sync f := by unfold mark wrs; rw [if_neg (by simpa using h)]
    rw [h]
    (refine x_seq (x_region ?_); refine r_op (o_move rfl rfl ?_); refine r_op (o_neq_f rfl rfl (by omega) rfl ?_); refine r_nil ?_; refine x_false rfl ?_; refine x_skip ?_; refine x_seq ?_)
    refine x_script 9 [(0,false),(1,false),(2,false),(3,false),(4,false),(5,false),(6,false),(7,false),(8,true),(9,false)] [Row ps 0 (shRow b f n sl fl)] mixed (by kernel_rfl) permF ?_
    (refine s_v rfl (v_move rfl) ?_; refine s_v rfl (v_nilCheck rfl) ?_; refine s_v rfl (v_fieldAddr rfl) ?_; refine s_v rfl (v_load rfl rfl rfl) ?_; refine s_v rfl (v_move rfl) ?_; refine s_v rfl (v_nilCheck rfl) ?_; refine s_v rfl (v_fieldAddr rfl) ?_; refine s_v rfl (v_load rfl rfl rfl) ?_)
    refine s_x rfl (o_call rfl (sync_spec b _ f (hw.small (by omega))) rfl ?_)
    rintro v B ⟨rfl, rfl⟩
    refine ⟨permF, ?_⟩
    (simp only [List.cons_append, List.nil_append])
    (refine s_v rfl (v_assign rfl) ?_)
    refine s_end rfl ?_
    skip
    exact x_ret rfl [Row ps 0 (shRow b f n sl fl), DiskI b (mark d f n slot m).1] ⟨by rw [e]; rfl, rfl⟩ (by rw [e]; exact Sub.h)
  · have e : mark d f n slot m = d.write f (slot * n : Nat) [m] := by unfold mark wrs; rw [if_pos h]
    (refine x_seq (x_region ?_); refine r_op (o_move rfl rfl ?_); refine r_op (o_neq_t rfl rfl (by omega) rfl ?_); refine r_nil ?_; refine x_true rfl ?_; refine x_seq (x_region ?_); refine r_op (o_move rfl rfl ?_); refine r_op (o_assign rfl rfl ?_); refine r_nil ?_)
    exact x_ret rfl [Row ps 0 (shRow b f n sl fl), DiskI b (mark d f n slot m).1] ⟨by rw [e]; rfl, rfl⟩ (by rw [e]; exact Sub.h)
end Go.Proofs.Ythneebbmodkjiaa
