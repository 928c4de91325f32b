/- Part of a proof over the seat Ythneebbmodkjiaa: module E1. Its claim's last module says what is proved. -/
import Derived.Test.YthneebbmodkjiaaD13
namespace Go.Proofs.Ythneebbmodkjiaa
open Go.Proofs

/-! ### Slots: the plain doings -/
abbrev Tx := List UInt8
/-- A slot's bytes, its mark not laid. -/
def slotB (n : Nat) (t : Tx) : List UInt8 := [0, UInt8.ofNat (t.length / 256), UInt8.ofNat (t.length % 256)] ++ List.replicate 13 0 ++ t ++ List.replicate (n - 16 - t.length) 0
theorem slotB_length {n : Nat} {t : Tx} (h : t.length + 16 ≤ n) : (slotB n t).length = n := by simp [slotB]; omega
/-- Laid and safe. -/
def wrs (d : Dk) (f p : Nat) (b : List UInt8) : Dk × Int :=
  if (d.write f p b).2 ≠ 0 then d.write f p b else (d.write f p b).1.sync f
def mark (d : Dk) (f n slot : Nat) (m : UInt8) : Dk × Int := wrs d f (slot * n) [m]
def layS (d : Dk) (f n slot : Nat) (t : Tx) : Dk × Int :=
  if (wrs d f (slot * n) (slotB n t)).2 ≠ 0 then wrs d f (slot * n) (slotB n t) else mark (wrs d f (slot * n) (slotB n t)).1 f n slot 1
theorem okn_wrs {N : Nat} {d : Dk} (h : d.okn N) (f p : Nat) (b : List UInt8) : (wrs d f p b).1.okn (N + 2) := by
  unfold wrs
  split
  · exact (okn_write h f p b).mono (by omega)
  · exact okn_sync (okn_write h f p b) f
theorem okn_mark {N : Nat} {d : Dk} (h : d.okn N) (f n slot : Nat) (m : UInt8) : (mark d f n slot m).1.okn (N + 2) := okn_wrs h _ _ _
theorem okn_layS {N : Nat} {d : Dk} (h : d.okn N) (f n slot : Nat) (t : Tx) : (layS d f n slot t).1.okn (N + 4) := by
  unfold layS
  split
  · exact (okn_wrs h _ _ _).mono (by omega)
  · exact okn_mark (okn_wrs h _ _ _) f n slot 1

abbrev shRow (b f n : Nat) (sl : Value) (fl : Bool) : List Value := [dp b, .int .i64 f, .int .i64 n, sl, .bool fl]
theorem mul_le {a b A B : Nat} (h1 : a ≤ A) (h2 : b ≤ B) : a * b ≤ A * B := Nat.mul_le_mul h1 h2
theorem mark_spec {N : Nat} (ps b f n : Nat) (sl : Value) (fl : Bool) (d : Dk) (slot : Nat) (m : UInt8) (hok : d.okn N) (hN : N + 10 ≤ 2 ^ 20) (hn : n ≤ 2 ^ 20) (hsl : slot ≤ 2 ^ 20) :
    Spec Try.prog 111 [dp ps, .int .i64 slot, bv m] [Row ps 0 (shRow b f n sl fl), DiskI b d] (fun v B => v = .int .i64 (mark d f n slot m).2 ∧ B = [Row ps 0 (shRow b f n sl fl), DiskI b (mark d f n slot m).1]) := by
  have hm := mul_le hsl hn
  refine Spec.of_ex Try.func111 rfl Try.ntmps111 rfl fun E cs Γ => ?_
  (simp only [argRho, Nat.reduceAdd, List.cons_append, List.nil_append])
  have hw := okn_write hok f (slot * n : Nat) [m]
  (refine x_seq (x_region ?_); refine r_op (o_assign rfl rfl ?_); refine r_nil ?_; refine x_seq ?_; refine x_seq ?_)
  refine x_script 18 [(0,false),(1,false),(2,false),(3,false),(4,false),(5,false),(6,false),(7,false),(8,false),(9,false),(10,false),(11,false),(12,false),(13,false),(14,false),(15,true),(16,true),(17,false)] [Row ps 0 (shRow b f n sl fl)] mixed (by kernel_rfl) permF ?_
  (refine s_v rfl (v_move rfl) ?_; refine s_v rfl (v_nilCheck rfl) ?_; refine s_v rfl (v_fieldAddr rfl) ?_; refine s_v rfl (v_load rfl rfl rfl) ?_; refine s_v rfl (v_move rfl) ?_; refine s_v rfl (v_nilCheck rfl) ?_; refine s_v rfl (v_fieldAddr rfl) ?_; refine s_v rfl (v_load rfl rfl rfl) ?_; refine s_v rfl (v_move rfl) ?_; refine s_v rfl (v_move rfl) ?_; refine s_v rfl (v_nilCheck rfl) ?_; refine s_v rfl (v_fieldAddr rfl) ?_; refine s_v rfl (v_load rfl rfl rfl) ?_)
  refine s_v rfl (v_mul rfl rfl (in_i64 (by rw [← Int.natCast_mul]; omega))) ?_
  rw [← Int.natCast_mul]
  (refine s_v rfl (v_move rfl) ?_)
  refine s_x rfl (o_buildSlice rfl (by rfl) (by rfl) (by rfl) (by rfl) rfl (fun a2 => ?_))
  refine ⟨permF, ?_⟩
  have RB : Reads (Sl 1 a2 1 1 [bv m]) 1 a2 ([m] : List UInt8).length (([m] : List UInt8).map bv) := Sl.reads 1 a2 1 1 [bv m] rfl
  refine s_x rfl (o_call rfl (write_spec (bs := [m]) (cap := 1) b d f (slot * n : Nat) RB (by simp) (hok.small (by omega))) rfl ?_)
  rintro v B ⟨rfl, rfl⟩
  refine ⟨permF, ?_⟩
  (simp only [List.cons_append, List.nil_append])
  (refine s_v rfl (v_assign rfl) ?_)
  refine s_end rfl ?_
  by_cases h : (d.write f (slot * n : Nat) [m]).2 = 0
  · have e : mark d f n slot m = (d.write f (slot * n : Nat) [m]).1.sync f := by unfold mark wrs; rw [if_neg (by simpa using h)]
    rw [h]
    (refine x_seq (x_region ?_); refine r_op (o_move rfl rfl ?_); refine r_op (o_neq_f rfl rfl (by omega) rfl ?_); refine r_nil ?_; refine x_false rfl ?_; refine x_skip ?_; refine x_seq ?_)
    refine x_script 9 [(0,false),(1,false),(2,false),(3,false),(4,false),(5,false),(6,false),(7,false),(8,true),(9,false)] [Row ps 0 (shRow b f n sl fl)] mixed (by kernel_rfl) permF ?_
    (refine s_v rfl (v_move rfl) ?_; refine s_v rfl (v_nilCheck rfl) ?_; refine s_v rfl (v_fieldAddr rfl) ?_; refine s_v rfl (v_load rfl rfl rfl) ?_; refine s_v rfl (v_move rfl) ?_; refine s_v rfl (v_nilCheck rfl) ?_; refine s_v rfl (v_fieldAddr rfl) ?_; refine s_v rfl (v_load rfl rfl rfl) ?_)
    refine s_x rfl (o_call rfl (sync_spec b _ f (hw.small (by omega))) rfl ?_)
    rintro v B ⟨rfl, rfl⟩
    refine ⟨permF, ?_⟩
    (simp only [List.cons_append, List.nil_append])
    (refine s_v rfl (v_assign rfl) ?_)
    refine s_end rfl ?_
    skip
    exact x_ret rfl [Row ps 0 (shRow b f n sl fl), DiskI b (mark d f n slot m).1] ⟨by rw [e]; rfl, rfl⟩ (by rw [e]; exact Sub.h)
  · have e : mark d f n slot m = d.write f (slot * n : Nat) [m] := by unfold mark wrs; rw [if_pos h]
    (refine x_seq (x_region ?_); refine r_op (o_move rfl rfl ?_); refine r_op (o_neq_t rfl rfl (by omega) rfl ?_); refine r_nil ?_; refine x_true rfl ?_; refine x_seq (x_region ?_); refine r_op (o_move rfl rfl ?_); refine r_op (o_assign rfl rfl ?_); refine r_nil ?_)
    exact x_ret rfl [Row ps 0 (shRow b f n sl fl), DiskI b (mark d f n slot m).1] ⟨by rw [e]; rfl, rfl⟩ (by rw [e]; exact Sub.h)
end Go.Proofs.Ythneebbmodkjiaa

namespace Go.Proofs.Ythneebbmodkjiaa
open Go.Proofs

theorem slotB_lay {n : Nat} {t : Tx} (h : t.length + 16 ≤ n) :
    (let xs := (((List.replicate n (0 : UInt8)).map bv).set 1 (bv (UInt8.ofNat (t.length / 256)))).set 2 (bv (UInt8.ofNat (t.length % 256)));
     xs.take 16 ++ (t.take (min t.length (n - 16))).map bv ++ xs.drop (16 + min t.length (n - 16))) = (slotB n t).map bv := by
  obtain ⟨k, rfl⟩ : ∃ k, n = 16 + k := ⟨n - 16, by omega⟩
  have hk : t.length ≤ k := by omega
  rw [show min t.length (16 + k - 16) = t.length by omega, List.take_length]
  simp only [← List.map_set, ← List.map_take, ← List.map_drop, ← List.map_append]
  congr 1
  unfold slotB
  rw [show List.replicate (16 + k) (0 : UInt8) = [0, 0, 0] ++ List.replicate 13 0 ++ List.replicate k 0 by
    rw [show [(0 : UInt8), 0, 0] = List.replicate 3 0 from rfl, List.replicate_append_replicate, List.replicate_append_replicate]]
  rw [show 16 + k - 16 - t.length = k - t.length by omega]
  simp only [List.cons_append, List.nil_append, List.set_cons_succ, List.set_cons_zero, List.append_assoc]
  rw [show 16 + t.length = 13 + t.length + 1 + 1 + 1 by omega]
  simp only [List.drop_succ_cons]
  rw [show (16 : Nat) = 13 + 1 + 1 + 1 from rfl]
  simp only [List.take_succ_cons, List.cons_append]
  rw [List.take_left' (by simp), ← List.drop_drop, List.drop_left' (by simp), List.drop_replicate]
theorem byteHi (l : Nat) : IntKind.u8.wrap ((l : Int) / 256) = ((UInt8.ofNat (l / 256)).toNat : Int) := by
  simp [IntKind.wrap, IntKind.bits, IntKind.signed]
theorem byteLo (l : Nat) : IntKind.u8.wrap (l : Int) = ((UInt8.ofNat (l % 256)).toNat : Int) := by
  simp [IntKind.wrap, IntKind.bits, IntKind.signed]
set_option maxHeartbeats 1600000 in
theorem lay_spec {N : Nat} (ps b f n : Nat) (sl : Value) (fl : Bool) (d : Dk) (slot : Nat) (t : Tx) (hok : d.okn N) (hN : N + 20 ≤ 2 ^ 20) (hn : n ≤ 2 ^ 20) (hsl : slot ≤ 2 ^ 20) (ht : t.length + 16 ≤ n) :
    Spec Try.prog 109 [dp ps, .int .i64 slot, .string (bstr t)] [Row ps 0 (shRow b f n sl fl), DiskI b d] (fun v B => v = .int .i64 (layS d f n slot t).2 ∧ B = [Row ps 0 (shRow b f n sl fl), DiskI b (layS d f n slot t).1]) := by
  have hm := mul_le hsl hn
  refine Spec.of_ex Try.func109 rfl Try.ntmps109 rfl fun E cs Γ => ?_
  (simp only [argRho, Nat.reduceAdd, List.cons_append, List.nil_append])
  have hw := okn_write hok f (slot * n : Nat) (slotB n t)
  have hww := okn_wrs hok f (slot * n) (slotB n t)
  (refine x_seq (x_region ?_); refine r_op (o_assign rfl rfl ?_); refine r_nil ?_; refine x_seq (x_region ?_); refine r_op (o_move rfl rfl ?_); refine r_op (o_nilCheck rfl rfl ?_); refine r_op (o_fieldAddr rfl rfl ?_); refine r_op (o_load rfl rfl rfl rfl ?_))
  (refine r_op ?_)
  refine o_make rfl rfl (m := n) rfl rfl (by rfl) (by omega) (by omega) rfl (fun a7 => ?_)
  rw [show zs [Value.int IntKind.u8 0] n = (List.replicate n (0 : UInt8)).map bv by rw [zs_one]; simp [bv]]
  (refine r_op (o_assign rfl rfl ?_); refine r_nil ?_; refine x_seq (x_region ?_); refine r_op (o_move rfl rfl ?_); refine r_op (o_move rfl rfl ?_); refine r_op (o_move rfl rfl ?_); refine r_op (o_lenStr rfl rfl ?_))
  rw [bstr_size]
  (refine r_op ?_)
  refine o_shr rfl rfl ⟨by omega, by simp [IntKind.bits]⟩ rfl ?_
  rw [show ((t.length : Nat) : Int).fdiv (2 ^ (8 : Int).toNat) = (t.length : Int) / 256 by rw [Int.fdiv_eq_ediv_of_nonneg _ (by decide)]; rfl]
  (refine r_op ?_)
  refine o_conv rfl rfl ?_
  rw [byteHi, show Value.int .u8 ((UInt8.ofNat (t.length / 256)).toNat : Int) = bv (UInt8.ofNat (t.length / 256)) from rfl]
  (refine r_op (o_move rfl rfl ?_); refine r_op (o_lenStr rfl rfl ?_))
  rw [bstr_size]
  (refine r_op ?_)
  refine o_conv rfl rfl ?_
  rw [byteLo, show Value.int .u8 ((UInt8.ofNat (t.length % 256)).toNat : Int) = bv (UInt8.ofNat (t.length % 256)) from rfl]
  have RS := Sl.reads 1 a7 n n ((List.replicate n (0 : UInt8)).map bv) (by simp)
  have RS2 := Sl.reads 1 a7 n n (((List.replicate n (0 : UInt8)).map bv).set 1 (bv (UInt8.ofNat (t.length / 256)))) (by simp)
  (refine r_op ?_)
  refine o_indexR rfl rfl RS (j := 1) rfl (by omega) rfl (fun b1 off ha => ?_)
  (refine r_do ?_)
  refine o_storeS rfl rfl rfl ha (i := 1) (by omega) (by simp; omega) ?_
  (refine r_op ?_)
  refine o_indexR rfl rfl RS2 (j := 2) rfl (by omega) rfl (fun b1 off ha => ?_)
  (refine r_do ?_)
  refine o_storeS rfl rfl rfl ha (i := 2) (by omega) (by simp; omega) ?_
  (refine r_nil ?_; refine x_seq (x_region ?_); refine r_op (o_move rfl rfl ?_))
  (refine r_op ?_)
  refine o_sliceLo rfl rfl (jl := 16) rfl (by omega) rfl ?_
  (refine r_op (o_move rfl rfl ?_))
  (refine r_op ?_)
  refine o_copyStr (lo := 16) rfl rfl (by omega) rfl ?_
  have hlay := slotB_lay ht
  dsimp only at hlay
  refine r_mem (Γ' := Sl 1 a7 n n ((slotB n t).map bv) :: Row ps 0 (shRow b f n sl fl) :: DiskI b d :: Γ) (by rw [← hlay]; exact .refl _) ?_
  have hsb := slotB_length ht
  have RB : Reads (Sl 1 a7 n n ((slotB n t).map bv)) 1 a7 (slotB n t).length ((slotB n t).map bv) := by rw [hsb]; exact Sl.reads 1 a7 n n _ (by simp [hsb])
  have SW := write_spec (cap := n) b d f (slot * n : Nat) RB (by rw [hsb]; exact Nat.le_refl _) (hok.small (by omega))
  rw [hsb] at SW
  (refine r_nil ?_; refine x_seq ?_; refine x_seq ?_)
  refine x_script 17 [(0,false),(1,false),(2,false),(3,false),(4,false),(5,false),(6,false),(7,false),(8,false),(9,false),(10,false),(11,false),(12,false),(13,false),(14,false),(15,true),(16,false)] [Row ps 0 (shRow b f n sl fl)] mixed (by kernel_rfl) permF ?_
  (refine s_v rfl (v_move rfl) ?_; refine s_v rfl (v_nilCheck rfl) ?_; refine s_v rfl (v_fieldAddr rfl) ?_; refine s_v rfl (v_load rfl rfl rfl) ?_; refine s_v rfl (v_move rfl) ?_; refine s_v rfl (v_nilCheck rfl) ?_; refine s_v rfl (v_fieldAddr rfl) ?_; refine s_v rfl (v_load rfl rfl rfl) ?_; refine s_v rfl (v_move rfl) ?_; refine s_v rfl (v_move rfl) ?_; refine s_v rfl (v_nilCheck rfl) ?_; refine s_v rfl (v_fieldAddr rfl) ?_; refine s_v rfl (v_load rfl rfl rfl) ?_)
  refine s_v rfl (v_mul rfl rfl (in_i64 (by rw [← Int.natCast_mul]; omega))) ?_
  rw [← Int.natCast_mul]
  (refine s_v rfl (v_move rfl) ?_)
  refine s_x rfl (o_call rfl SW rfl ?_)
  rintro v B ⟨rfl, rfl⟩
  refine ⟨permF, ?_⟩
  (simp only [List.cons_append, List.nil_append])
  (refine s_v rfl (v_assign rfl) ?_)
  refine s_end rfl ?_
  by_cases h : (d.write f (slot * n : Nat) (slotB n t)).2 = 0
  · have e1 : wrs d f (slot * n) (slotB n t) = (d.write f (slot * n : Nat) (slotB n t)).1.sync f := by unfold wrs; rw [if_neg (by simpa using h)]
    rw [h]
    (refine x_seq (x_region ?_); refine r_op (o_move rfl rfl ?_); refine r_op (o_neq_f rfl rfl (by omega) rfl ?_); refine r_nil ?_; refine x_false rfl ?_; refine x_skip ?_; refine x_seq ?_; refine x_seq ?_)
    refine x_script 10 [(0,false),(1,false),(2,false),(3,false),(4,false),(5,false),(6,false),(7,false),(8,true),(9,false)] [Row ps 0 (shRow b f n sl fl)] mixed (by kernel_rfl) permF ?_
    (refine s_v rfl (v_move rfl) ?_; refine s_v rfl (v_nilCheck rfl) ?_; refine s_v rfl (v_fieldAddr rfl) ?_; refine s_v rfl (v_load rfl rfl rfl) ?_; refine s_v rfl (v_move rfl) ?_; refine s_v rfl (v_nilCheck rfl) ?_; refine s_v rfl (v_fieldAddr rfl) ?_; refine s_v rfl (v_load rfl rfl rfl) ?_)
    refine s_x rfl (o_call rfl (sync_spec b _ f (hw.small (by omega))) rfl ?_)
    rintro v B ⟨rfl, rfl⟩
    refine ⟨permF, ?_⟩
    (simp only [List.cons_append, List.nil_append])
    rw [← e1]
    (refine s_v rfl (v_assign rfl) ?_)
    refine s_end rfl ?_
    by_cases h2 : (wrs d f (slot * n) (slotB n t)).2 = 0
    · have e : layS d f n slot t = mark (wrs d f (slot * n) (slotB n t)).1 f n slot 1 := by unfold layS; rw [if_neg (by simpa using h2)]
      rw [h2]
      (refine x_seq (x_region ?_); refine r_op (o_move rfl rfl ?_); refine r_op (o_neq_f rfl rfl (by omega) rfl ?_); refine r_nil ?_; refine x_false rfl ?_; refine x_skip ?_; refine x_seq (x_region ?_); refine r_op (o_move rfl rfl ?_); refine r_op (o_move rfl rfl ?_))
      (refine r_op ?_)
      refine o_call rfl (mark_spec ps b f n sl fl _ slot 1 hww (by omega) hn hsl) rfl ?_
      rintro v B ⟨rfl, rfl⟩
      (simp only [List.cons_append, List.nil_append])
      (refine r_op (o_assign rfl rfl ?_); refine r_nil ?_)
      exact x_ret rfl [Row ps 0 (shRow b f n sl fl), DiskI b (layS d f n slot t).1] ⟨by rw [e]; rfl, rfl⟩ (by rw [e]; exact Sub.h)
    · have e : layS d f n slot t = wrs d f (slot * n) (slotB n t) := by unfold layS; rw [if_pos h2]
      (refine x_seq (x_region ?_); refine r_op (o_move rfl rfl ?_); refine r_op (o_neq_t rfl rfl (by omega) rfl ?_); refine r_nil ?_; refine x_true rfl ?_; refine x_seq (x_region ?_); refine r_op (o_move rfl rfl ?_); refine r_op (o_assign rfl rfl ?_); refine r_nil ?_)
      exact x_ret rfl [Row ps 0 (shRow b f n sl fl), DiskI b (layS d f n slot t).1] ⟨by rw [e]; rfl, rfl⟩ (by rw [e]; exact Sub.h)
  · have e1 : wrs d f (slot * n) (slotB n t) = d.write f (slot * n : Nat) (slotB n t) := by unfold wrs; rw [if_pos h]
    have e : layS d f n slot t = d.write f (slot * n : Nat) (slotB n t) := by unfold layS; rw [e1, if_pos h]
    (refine x_seq (x_region ?_); refine r_op (o_move rfl rfl ?_); refine r_op (o_neq_t rfl rfl (by omega) rfl ?_); refine r_nil ?_; refine x_true rfl ?_; refine x_seq (x_region ?_); refine r_op (o_move rfl rfl ?_); refine r_op (o_assign rfl rfl ?_); refine r_nil ?_)
    exact x_ret rfl [Row ps 0 (shRow b f n sl fl), DiskI b (layS d f n slot t).1] ⟨by rw [e]; rfl, rfl⟩ (by rw [e]; exact Sub.h)
end Go.Proofs.Ythneebbmodkjiaa

namespace Go.Proofs.Ythneebbmodkjiaa
open Go.Proofs

/-! ### A shelf as it lies -/
abbrev En := Option Tx
def enV : En → List Value
  | none => [.bool false, .string (bstr [])]
  | some t => [.bool true, .string (bstr t)]
theorem enV_cl (e : En) : (enV e).length = 2 := by cases e <;> rfl
theorem enV_one (es : List En) : (es.flatMap enV).all Value.oneCell' = true := by
  rw [List.all_flatMap, List.all_eq_true]; intro e _; cases e <;> rfl
theorem enV_0 (e : En) : (enV e)[0]? = some (.bool e.isSome) := by cases e <;> rfl
def Tx.of (e : En) : Tx := e.getD []
theorem enV_1 (e : En) : (enV e)[1]? = some (.string (bstr (Tx.of e))) := by cases e <;> rfl
theorem enV_eq (e : En) : enV e = [.bool e.isSome, .string (bstr (Tx.of e))] := by cases e <;> rfl
structure Sh where
  f : Nat
  n : Nat
  es : List En
  failed : Bool
def ShelfI (ps b : Nat) (s : Sh) : HP := Any fun q : Option Addr × Nat => Sep [Row ps 0 (shRow b s.f s.n (.slice q.1 s.es.length q.2) s.failed), Sl 2 q.1 s.es.length q.2 (s.es.flatMap enV)]
theorem St.shelf {E : Env} {ps b : Nat} {s : Sh} {Γ : List HP} {w : World} (st : St E (ShelfI ps b s :: Γ) w) : ∃ q : Option Addr × Nat, St E (Row ps 0 (shRow b s.f s.n (.slice q.1 s.es.length q.2) s.failed) :: Sl 2 q.1 s.es.length q.2 (s.es.flatMap enV) :: Γ) w := by
  obtain ⟨q, st⟩ := st.ex
  exact ⟨q, (Ent.sep_out [_, _] Γ).st st⟩
theorem Ent.shelf {ps b : Nat} (s : Sh) {a : Option Addr} {c : Nat} (Γ : List HP) : Ent (Row ps 0 (shRow b s.f s.n (.slice a s.es.length c) s.failed) :: Sl 2 a s.es.length c (s.es.flatMap enV) :: Γ) (ShelfI ps b s :: Γ) :=
  (Ent.sep_in [_, _] Γ).trans (Ent.ex (A := fun q : Option Addr × Nat => Sep [Row ps 0 (shRow b s.f s.n (.slice q.1 s.es.length q.2) s.failed), Sl 2 q.1 s.es.length q.2 (s.es.flatMap enV)]) (a, c) Γ)
theorem sl2_reads (a : Option Addr) (c : Nat) (es : List En) : Reads (Sl 2 a es.length c (es.flatMap enV)) 2 a es.length (es.flatMap enV) := Sl.reads 2 a es.length c _ (flen enV_cl es)
theorem en_get {es : List En} {i : Nat} (h : i < es.length) (j : Nat) (hj : j < 2) : (es.flatMap enV)[i * 2 + j]? = (enV es[i])[j]? := fget enV_cl h j hj
/-- What lies in a slot. -/
def Sh.txt (s : Sh) (slot : Int) : Option Tx := if slot < 0 then none else (s.es[slot.toNat]?).join
theorem Sh.txt_in {s : Sh} {i : Nat} (h : i < s.es.length) : s.txt i = s.es[i] := by
  unfold Sh.txt; rw [if_neg (by omega)]; simp [h]
theorem Sh.txt_out {s : Sh} {i : Int} (h : i < 0 ∨ (s.es.length : Int) ≤ i) : s.txt i = none := by
  unfold Sh.txt; split
  · rfl
  · rw [List.getElem?_eq_none (by omega)]; rfl
theorem is_spec (ps b : Nat) (s : Sh) (slot : Int) (_hl : s.es.length ≤ 2 ^ 40) : Spec Try.prog 110 [dp ps, .int .i64 slot] [ShelfI ps b s] (fun v B => v = .bool (s.txt slot).isSome ∧ B = [ShelfI ps b s]) := by
  refine Spec.of_ex Try.func110 rfl Try.ntmps110 rfl fun E cs Γ => ?_
  (simp only [argRho, Nat.reduceAdd, List.cons_append, List.nil_append])
  refine x_open (fun E w st => st.shelf) fun ⟨a, c⟩ => ?_
  dsimp only
  have hback := Ent.shelf (ps := ps) (b := b) s (a := a) (c := c) Γ
  by_cases h0 : 0 ≤ slot
  · by_cases h1 : slot < s.es.length
    · obtain ⟨i, rfl⟩ : ∃ i : Nat, slot = i := ⟨slot.toNat, by omega⟩
      have hi : i < s.es.length := by omega
      have R := sl2_reads a c s.es
      (refine x_seq (x_region ?_); refine r_op (o_assign rfl rfl ?_); refine r_nil ?_; refine x_seq (x_region ?_); refine r_op (o_move rfl rfl ?_); refine r_op (o_geq_t rfl rfl (by omega) rfl ?_); refine r_op (o_move rfl rfl ?_); refine r_guard rfl (o_move rfl rfl ?_); refine r_guard rfl (o_move rfl rfl ?_); refine r_guard rfl (o_nilCheck rfl rfl ?_); refine r_guard rfl (o_fieldAddr rfl rfl ?_); refine r_guard rfl (o_load rfl rfl rfl rfl ?_); refine r_guard rfl (o_lenS rfl rfl ?_); refine r_guard rfl (o_lss_t rfl rfl (by omega) rfl ?_); refine r_op (o_pick_t rfl rfl rfl ?_); refine r_op (o_move rfl rfl ?_); refine r_guard rfl (o_move rfl rfl ?_); refine r_guard rfl (o_nilCheck rfl rfl ?_); refine r_guard rfl (o_fieldAddr rfl rfl ?_); refine r_guard rfl (o_load rfl rfl rfl rfl ?_); refine r_guard rfl (o_move rfl rfl ?_))
      (refine r_guard rfl ?_)
      refine o_indexR rfl rfl R (j := i) rfl hi rfl (fun b1 off ha => ?_)
      (refine r_guard rfl (o_fieldAddr rfl rfl ?_))
      (refine r_guard rfl ?_)
      refine o_loadR rfl R ha (i := i * 2 + 0) (by omega) ((en_get hi 0 (by decide)).trans (enV_0 _)) rfl ?_
      (refine r_op (o_pick_t rfl rfl rfl ?_); refine r_op (o_assign rfl rfl ?_); refine r_nil ?_)
      exact x_ret rfl [ShelfI ps b s] ⟨by rw [Sh.txt_in hi]; rfl, rfl⟩ (hback.trans Sub.h)
    · (refine x_seq (x_region ?_); refine r_op (o_assign rfl rfl ?_); refine r_nil ?_; refine x_seq (x_region ?_); refine r_op (o_move rfl rfl ?_); refine r_op (o_geq_t rfl rfl (by omega) rfl ?_); refine r_op (o_move rfl rfl ?_); refine r_guard rfl (o_move rfl rfl ?_); refine r_guard rfl (o_move rfl rfl ?_); refine r_guard rfl (o_nilCheck rfl rfl ?_); refine r_guard rfl (o_fieldAddr rfl rfl ?_); refine r_guard rfl (o_load rfl rfl rfl rfl ?_); refine r_guard rfl (o_lenS rfl rfl ?_); refine r_guard rfl (o_lss_f rfl rfl (by omega) rfl ?_); refine r_op (o_pick_t rfl rfl rfl ?_); refine r_op (o_move rfl rfl ?_); refine r_skip rfl rfl rfl ?_; refine r_skip rfl rfl rfl ?_; refine r_skip rfl rfl rfl ?_; refine r_skip rfl rfl rfl ?_; refine r_skip rfl rfl rfl ?_; refine r_skip rfl rfl rfl ?_; refine r_skip rfl rfl rfl ?_; refine r_skip rfl rfl rfl ?_; refine r_op (o_pick_f rfl rfl rfl ?_); refine r_op (o_assign rfl rfl ?_); refine r_nil ?_)
      exact x_ret rfl [ShelfI ps b s] ⟨by rw [Sh.txt_out (.inr (by omega))]; rfl, rfl⟩ (hback.trans Sub.h)
  · (refine x_seq (x_region ?_); refine r_op (o_assign rfl rfl ?_); refine r_nil ?_; refine x_seq (x_region ?_); refine r_op (o_move rfl rfl ?_); refine r_op (o_geq_f rfl rfl (by omega) rfl ?_); refine r_op (o_move rfl rfl ?_); refine r_skip rfl rfl rfl ?_; refine r_skip rfl rfl rfl ?_; refine r_skip rfl rfl rfl ?_; refine r_skip rfl rfl rfl ?_; refine r_skip rfl rfl rfl ?_; refine r_skip rfl rfl rfl ?_; refine r_skip rfl rfl rfl ?_; refine r_op (o_pick_f rfl rfl rfl ?_); refine r_op (o_move rfl rfl ?_); refine r_skip rfl rfl rfl ?_; refine r_skip rfl rfl rfl ?_; refine r_skip rfl rfl rfl ?_; refine r_skip rfl rfl rfl ?_; refine r_skip rfl rfl rfl ?_; refine r_skip rfl rfl rfl ?_; refine r_skip rfl rfl rfl ?_; refine r_skip rfl rfl rfl ?_; refine r_op (o_pick_f rfl rfl rfl ?_); refine r_op (o_assign rfl rfl ?_); refine r_nil ?_)
    exact x_ret rfl [ShelfI ps b s] ⟨by rw [Sh.txt_out (.inl (by omega))]; rfl, rfl⟩ (hback.trans Sub.h)

/-- What Get tells. -/
def Sh.get (s : Sh) (slot : Int) : Tx × Int := match s.txt slot with
  | some t => (t, 0)
  | none => ([], 3)
theorem get_spec (ps b : Nat) (s : Sh) (slot : Int) (hl : s.es.length ≤ 2 ^ 40) : Spec Try.prog 69 [dp ps, .int .i64 slot] [ShelfI ps b s] (fun v B => v = .tuple #[.string (bstr (s.get slot).1), .int .i64 (s.get slot).2] ∧ B = [ShelfI ps b s]) := by
  refine Spec.of_ex Try.func69 rfl Try.ntmps69 rfl fun E cs Γ => ?_
  (simp only [argRho, Nat.reduceAdd, List.cons_append, List.nil_append])
  (refine x_seq (x_region ?_); refine r_op (o_assign rfl rfl ?_); refine r_op (o_assign rfl rfl ?_); refine r_nil ?_; refine x_seq ?_; refine x_seq (x_region ?_); refine r_op (o_move rfl rfl ?_); refine r_op (o_move rfl rfl ?_))
  (refine r_op ?_)
  refine o_call rfl (is_spec ps b s slot hl) rfl ?_
  rintro v B ⟨rfl, rfl⟩
  (simp only [List.cons_append, List.nil_append])
  cases ht : s.txt slot with
  | none =>
    rw [show (none : Option Tx).isSome = false from rfl]
    (refine r_op (o_not rfl rfl ?_); refine r_nil ?_; refine x_true rfl ?_; refine x_seq (x_region ?_); refine r_op (o_assign rfl rfl ?_); refine r_op (o_assign rfl rfl ?_); refine r_nil ?_)
    exact x_ret rfl [ShelfI ps b s] ⟨by unfold Sh.get; rw [ht]; rfl, rfl⟩ Sub.h
  | some t =>
    rw [show (some t : Option Tx).isSome = true from rfl]
    have hi : 0 ≤ slot ∧ slot < s.es.length := by
      apply Classical.byContradiction; intro hn
      rw [Sh.txt_out (by omega)] at ht; cases ht
    obtain ⟨i, rfl⟩ : ∃ i : Nat, slot = i := ⟨slot.toNat, by omega⟩
    have hi1 : i < s.es.length := by omega
    rw [Sh.txt_in hi1] at ht
    (refine r_op (o_not rfl rfl ?_); refine r_nil ?_)
    refine x_open (fun E w st => st.shelf) fun ⟨a, c⟩ => ?_
    dsimp only
    have hback := Ent.shelf (ps := ps) (b := b) s (a := a) (c := c) Γ
    have R := sl2_reads a c s.es
    (refine x_false rfl ?_; refine x_skip ?_; refine x_seq (x_region ?_); refine r_op (o_move rfl rfl ?_); refine r_op (o_nilCheck rfl rfl ?_); refine r_op (o_fieldAddr rfl rfl ?_); refine r_op (o_load rfl rfl rfl rfl ?_); refine r_op (o_move rfl rfl ?_))
    (refine r_op ?_)
    refine o_indexR rfl rfl R (j := i) rfl hi1 rfl (fun b1 off ha => ?_)
    (refine r_op (o_fieldAddr rfl rfl ?_))
    (refine r_op ?_)
    refine o_loadR rfl R ha (i := i * 2 + 1) (by omega) ((en_get hi1 1 (by decide)).trans (enV_1 _)) rfl ?_
    (refine r_op (o_assign rfl rfl ?_); refine r_op (o_assign rfl rfl ?_); refine r_nil ?_)
    exact x_ret rfl [ShelfI ps b s] ⟨by unfold Sh.get; rw [Sh.txt_in hi1, ht]; rfl, rfl⟩ (hback.trans Sub.h)

theorem failed_spec (ps b : Nat) (s : Sh) : Spec Try.prog 74 [dp ps] [ShelfI ps b s] (fun v B => v = .bool s.failed ∧ B = [ShelfI ps b s]) := by
  refine Spec.of_ex Try.func74 rfl Try.ntmps74 rfl fun E cs Γ => ?_
  (simp only [argRho, List.cons_append, List.nil_append])
  refine x_open (fun E w st => st.shelf) fun ⟨a, c⟩ => ?_
  dsimp only
  (refine x_seq (x_region ?_); refine r_op (o_assign rfl rfl ?_); refine r_nil ?_; refine x_seq (x_region ?_); refine r_op (o_move rfl rfl ?_); refine r_op (o_nilCheck rfl rfl ?_); refine r_op (o_fieldAddr rfl rfl ?_); refine r_op (o_load rfl rfl rfl rfl ?_); refine r_op (o_assign rfl rfl ?_); refine r_nil ?_)
  exact x_ret rfl [ShelfI ps b s] ⟨rfl, rfl⟩ ((Ent.shelf s Γ).trans Sub.h)

theorem all_spec (ps : Nat) : Spec Try.prog 112 [dp ps] [] (fun v B => ∃ pc, v = .func (.func 120) #[] #[dp pc] ∧ B = [Row pc 0 [dp ps]]) := by
  refine Spec.of_ex Try.func112 rfl Try.ntmps112 rfl fun E cs Γ => ?_
  (simp only [argRho, List.nil_append])
  (refine x_seq ?_); (refine x_region ?_)
  (refine r_op ?_)
  refine o_box rfl rfl rfl (fun pc => ?_)
  (refine r_op (o_assign rfl rfl ?_); refine r_nil ?_; refine x_seq (x_region ?_))
  (refine r_op ?_)
  refine o_makeFunc rfl rfl rfl ?_
  (refine r_op (o_assign rfl rfl ?_); refine r_nil ?_)
  exact x_ret rfl [Row pc 0 [dp ps]] ⟨pc, rfl, rfl⟩ Sub.h

/-- The slots that are taken, and their texts. -/
def live : Nat → List En → List (Nat × Tx)
  | _, [] => []
  | k, none :: es => live (k + 1) es
  | k, some t :: es => (k, t) :: live (k + 1) es
def yv (p : Nat × Tx) : List Value := [.int .i64 p.1, .string (bstr p.2)]
theorem all_iter (pc ps b : Nat) (s : Sh) (hl : s.es.length ≤ 2 ^ 40) :
    Iter Try.prog 120 [] [dp pc] [Row pc 0 [dp ps], ShelfI ps b s] [ShelfI ps b s] ((live 0 s.es).map yv) := by
  intro l I J hy
  refine Spec.of_ex Try.func120 rfl Try.ntmps120 rfl fun E cs Γ => ?_
  (simp only [argRho, List.cons_append, List.nil_append])
  refine x_mem (Γ' := ShelfI ps b s :: Row pc 0 [dp ps] :: I 0 :: Γ) Sub.h ?_
  refine x_open (fun E w st => st.shelf) fun ⟨a, c⟩ => ?_
  dsimp only
  have R := sl2_reads a c s.es
  (refine x_scope ?_; refine x_seq ?_; refine x_label ?_; refine x_seq (x_region ?_); refine r_op (o_assign rfl rfl ?_); refine r_nil ?_; refine x_block ?_)
  refine x_loop (α := Nat × Nat) (fun q => q.1 ≤ s.es.length ∧ (live 0 s.es).drop q.2 = live q.1 (s.es.drop q.1) ∧ q.2 ≤ (live 0 s.es).length) (fun q => [(0, .func (.yield l) #[] #[]), (1, dp pc), (3, .int .i64 q.1)])
    (fun q => Row ps 0 (shRow b s.f s.n (.slice a s.es.length c) s.failed) :: Sl 2 a s.es.length c (s.es.flatMap enV) :: Row pc 0 [dp ps] :: I q.2 :: Γ)
    (fun q => s.es.length - q.1) (0, 0) ⟨Nat.zero_le _, rfl, Nat.zero_le _⟩ ⟨rfl, rfl, rfl, trivial⟩ Sub.h ?_
  rintro ⟨i, j⟩ ⟨hi, hj, hjl⟩ back
  dsimp only at hi hj hjl back ⊢
  have hback := Ent.shelf (ps := ps) (b := b) s (a := a) (c := c)
  (refine x_seq ?_; refine x_seq (x_region ?_); refine r_op (o_move rfl rfl ?_); refine r_op (o_load rfl rfl rfl rfl ?_); refine r_op (o_nilCheck rfl rfl ?_); refine r_op (o_fieldAddr rfl rfl ?_); refine r_op (o_load rfl rfl rfl rfl ?_); refine r_op (o_lenS rfl rfl ?_))
  (refine r_op ?_)
  refine o_lss rfl rfl rfl (fun h => ?_) (fun h => ?_)
  · have hi1 : i < s.es.length := by omega
    rw [List.drop_eq_getElem_cons hi1] at hj
    (refine r_nil ?_; refine x_true rfl ?_; refine x_skip ?_; refine x_seq ?_; refine x_block ?_; refine x_seq (x_region ?_); refine r_op (o_load rfl rfl rfl rfl ?_); refine r_op (o_nilCheck rfl rfl ?_); refine r_op (o_fieldAddr rfl rfl ?_); refine r_op (o_load rfl rfl rfl rfl ?_); refine r_op (o_move rfl rfl ?_))
    (refine r_op ?_)
    refine o_indexR rfl rfl R (j := i) rfl hi1 rfl (fun b1 off ha => ?_)
    (refine r_op ?_)
    refine o_loadAR rfl R ha (i := i * 2) (us := enV s.es[i]) (by omega) (enV_cl _) (fun jj v hv => ?_) rfl ?_
    · have hjj : jj < 2 := by have := (List.getElem?_eq_some_iff.1 hv).1; rwa [enV_cl] at this
      rw [en_get hi1 jj hjj, hv]
    rw [enV_eq]
    (refine r_op ?_)
    refine o_alloc rfl (fun px => ?_)
    (refine r_do ?_)
    refine o_storeA rfl rfl rfl rfl rfl (Nat.le_refl 2) ?_
    refine r_mem (Γ' := Row px 0 [.bool s.es[i].isSome, .string (bstr (Tx.of s.es[i]))] :: Row ps 0 (shRow b s.f s.n (.slice a s.es.length c) s.failed) :: Sl 2 a s.es.length c (s.es.flatMap enV) :: Row pc 0 [dp ps] :: I j :: Γ) (Ent.row_eq rfl _) ?_
    cases he : s.es[i] with
    | none =>
      rw [he] at hj
      rw [show (none : En).isSome = false from rfl]
      (refine r_nil ?_; refine x_block ?_; refine x_seq (x_region ?_); refine r_op (o_fieldAddr rfl rfl ?_); refine r_op (o_load rfl rfl rfl rfl ?_); refine r_op (o_not rfl rfl ?_); refine r_op (o_assign rfl rfl ?_); refine r_nil ?_; refine x_true rfl ?_; refine x_exit rfl ?_; refine x_region ?_; refine r_op (o_move rfl rfl ?_); refine r_op (o_add rfl rfl (add_i64 (by omega)) rfl ?_); refine r_op (o_assign rfl rfl ?_); refine r_nil ?_)
      refine x_weak (back (i + 1, j) ⟨by dsimp only; omega, hj, hjl⟩ (by dsimp only; omega)) (by (repeat' (first | exact trivial | refine ⟨rfl, ?_⟩))) Sub.h
    | some t =>
      rw [he] at hj
      rw [show (some t : En).isSome = true from rfl, show Tx.of (some t) = t from rfl]
      have hjx : (live 0 s.es)[j]? = some (i, t) := by
        have := congrArg (fun l => l[0]?) hj
        simpa [live] using this
      have hj1 : (live 0 s.es).drop (j + 1) = live (i + 1) (s.es.drop (i + 1)) := by
        have := congrArg (List.drop 1) hj
        simpa [List.drop_drop, live] using this
      have hyj := hy j (yv (i, t)) (by rw [List.getElem?_map, hjx]; rfl)
      (refine r_nil ?_; refine x_block ?_; refine x_seq (x_region ?_); refine r_op (o_fieldAddr rfl rfl ?_); refine r_op (o_load rfl rfl rfl rfl ?_); refine r_op (o_not rfl rfl ?_); refine r_op (o_assign rfl rfl ?_); refine r_nil ?_; refine x_false rfl ?_; refine x_seq (x_region ?_); refine r_op (o_move rfl rfl ?_); refine r_op (o_move rfl rfl ?_); refine r_op (o_fieldAddr rfl rfl ?_); refine r_op (o_load rfl rfl rfl rfl ?_))
      (refine r_op ?_)
      refine o_yield rfl rfl hyj rfl ?_
      rintro y B (⟨rfl, rfl⟩ | ⟨rfl, rfl⟩)
      · (simp only [List.cons_append, List.nil_append])
        (refine r_op (o_not rfl rfl ?_); refine r_op (o_assign rfl rfl ?_); refine r_nil ?_; refine x_false rfl ?_; refine x_skip ?_; refine x_inBlock ?_; refine x_inBlock ?_; refine x_region ?_; refine r_op (o_move rfl rfl ?_); refine r_op (o_add rfl rfl (add_i64 (by omega)) rfl ?_); refine r_op (o_assign rfl rfl ?_); refine r_nil ?_)
        refine x_weak (back (i + 1, j + 1) ⟨by dsimp only; omega, hj1, (List.getElem?_eq_some_iff.1 hjx).1⟩ (by dsimp only; omega)) (by (repeat' (first | exact trivial | refine ⟨rfl, ?_⟩))) Sub.h
      · (simp only [List.cons_append, List.nil_append])
        (refine r_op (o_not rfl rfl ?_); refine r_op (o_assign rfl rfl ?_); refine r_nil ?_; refine x_true rfl ?_; refine x_exit rfl ?_; refine x_inScope ?_)
        exact x_end ([ShelfI ps b s] ++ [J (j + 1)]) (.inr ⟨_, rfl⟩) ((Sub.h (Δ := Row ps 0 (shRow b s.f s.n (.slice a s.es.length c) s.failed) :: Sl 2 a s.es.length c (s.es.flatMap enV) :: J (j + 1) :: Γ)).trans ((hback _).trans (by (simp only [List.cons_append, List.nil_append]); exact Sub.h)))
  · obtain rfl : i = s.es.length := by omega
    have hjn : j = (live 0 s.es).length := by
      rw [List.drop_length] at hj
      have := congrArg List.length hj
      simp [live] at this; omega
    subst hjn
    (refine r_nil ?_; refine x_false rfl ?_; refine x_exit rfl ?_; refine x_inScope ?_)
    exact x_end ([ShelfI ps b s] ++ [I ((live 0 s.es).map yv).length]) (.inl rfl) (by
      rw [List.length_map]
      exact (hback _).trans (by (simp only [List.cons_append, List.nil_append]); exact Sub.h))
/-- How many are taken. -/
def Sh.len (s : Sh) : Nat := (live 0 s.es).length
theorem live_len : ∀ (es : List En) (k : Nat), (live k es).length ≤ es.length := by
  intro es
  induction es with
  | nil => intro k; exact Nat.le_refl _
  | cons e es ih =>
    intro k
    cases e with
    | none => exact Nat.le_trans (ih (k + 1)) (by simp)
    | some t => simpa [live] using ih (k + 1)
theorem len_spec (ps b : Nat) (s : Sh) (hl : s.es.length ≤ 2 ^ 40) : Spec Try.prog 70 [dp ps] [ShelfI ps b s] (fun v B => v = .int .i64 s.len ∧ B = [ShelfI ps b s]) := by
  have hll := live_len s.es 0
  refine Spec.of_ex Try.func70 rfl Try.ntmps70 rfl fun E cs Γ => ?_
  (simp only [argRho, List.cons_append, List.nil_append])
  (refine x_seq (x_region ?_); refine r_op (o_assign rfl rfl ?_); refine r_nil ?_; refine x_seq (x_region ?_))
  (refine r_op ?_)
  refine o_alloc rfl (fun pn => ?_)
  (refine r_do (o_store rfl rfl rfl rfl (by simp) ?_); (try dsimp only [Nat.reduceSub, Nat.reduceAdd, List.set]); refine r_nil ?_; refine x_seq ?_; refine x_seq (x_region ?_); refine r_op (o_move rfl rfl ?_))
  (refine r_op ?_)
  refine o_call rfl (all_spec ps) rfl ?_
  rintro v B ⟨pc, rfl, rfl⟩
  (simp only [List.cons_append, List.nil_append])
  (refine r_nil ?_; refine x_block ?_)
  refine x_mem (Ent.marks0 _) ?_
  refine x_range (Ds := []) rfl rfl (all_iter pc ps b s hl) (fun j => [Row pn 0 [.int .i64 j]]) (fun _ _ => [Fact False Emp]) (Δ2 := Γ) Sub.h (by rfl) ?_ ?_ ?_ ?_
  · intro j vs hj
    rw [List.getElem?_map, Option.map_eq_some_iff] at hj
    obtain ⟨y, _, rfl⟩ := hj
    rfl
  · intro j vs hj
    have hjl : j < (live 0 s.es).length := by have := (List.getElem?_eq_some_iff.1 hj).1; simpa using this
    rw [List.getElem?_map, Option.map_eq_some_iff] at hj
    obtain ⟨y, _, rfl⟩ := hj
    intro Y l r Θ hfn hro hend hexit hret
    (refine x_skip ?_)
    refine x_beginRound (r := r) hro ?_
    refine x_mem (Γ' := Row pn 0 [.int .i64 j] :: Rec l r .busy none :: Θ) (by (simp only [List.cons_append, List.nil_append]); exact Sub.h) ?_
    (refine x_block ?_; refine x_region ?_; refine r_op (o_load rfl rfl rfl rfl ?_); refine r_op (o_add rfl rfl (add_i64 (by omega)) rfl ?_); refine r_do (o_store rfl rfl rfl rfl (by simp) ?_); (try dsimp only [Nat.reduceSub, Nat.reduceAdd, List.set]); refine r_nil ?_; refine x_inBlock ?_)
    rw [show (j : Int) + 1 = ((j + 1 : Nat) : Int) by omega]
    refine x_mem ?_ (hend _)
    (simp only [List.cons_append, List.nil_append])
    exact Sub.h
  · intro D
    refine x_mem (Γ' := Row pn 0 [.int .i64 (live 0 s.es).length] :: Marks [D] :: ShelfI ps b s :: Γ) (by rw [List.length_map]; (simp only [List.cons_append, List.nil_append]); exact Sub.h) ?_
    (refine x_inBlock ?_; refine x_seq (x_region ?_); refine r_op (o_load rfl rfl rfl rfl ?_); refine r_op (o_assign rfl rfl ?_); refine r_nil ?_)
    exact x_retM rfl [ShelfI ps b s] ⟨rfl, rfl⟩ Sub.h
  · intro D c j
    refine x_mem (Ent.perm (.swap _ _ _)) ?_
    refine x_fact (p := False) (fun E w s => s.fact.1) fun h => h.elim
end Go.Proofs.Ythneebbmodkjiaa
