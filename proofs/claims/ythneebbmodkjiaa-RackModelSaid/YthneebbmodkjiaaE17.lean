/- Part of a proof over the seat Ythneebbmodkjiaa: module E17. Its claim's last module says what is proved. -/
import Derived.Test.YthneebbmodkjiaaE16
namespace Go.Proofs.Ythneebbmodkjiaa
open Go.Proofs

/-- Opened without a disk. -/
theorem openNil_spec (f n : Int) : Spec Try.prog 62 [.pointer none, .int .i64 f, .int .i64 n] [] (fun v B => v = .tuple #[.pointer none, .int .i64 1] ∧ B = []) := by
  refine Spec.of_ex Try.func62 rfl Try.ntmps62 rfl fun E cs Γ => ?_
  (simp only [argRho, Nat.reduceAdd, List.nil_append])
  (refine x_seq (x_region ?_); refine r_op (o_assign rfl rfl ?_); refine r_op (o_assign rfl rfl ?_); refine r_nil ?_; refine x_seq ?_; refine x_seq (x_region ?_); refine r_op (o_move rfl rfl ?_))
  (refine r_op ?_)
  refine o_peq (.inl rfl) rfl rfl (.inr rfl) rfl ?_
  (refine r_op (o_move rfl rfl ?_); refine r_skip rfl rfl rfl ?_; refine r_skip rfl rfl rfl ?_; refine r_op (o_pick_t rfl rfl rfl ?_); refine r_op (o_move rfl rfl ?_); refine r_skip rfl rfl rfl ?_; refine r_skip rfl rfl rfl ?_; refine r_op (o_pick_t rfl rfl rfl ?_); refine r_op (o_move rfl rfl ?_); refine r_skip rfl rfl rfl ?_; refine r_skip rfl rfl rfl ?_; refine r_skip rfl rfl rfl ?_; refine r_op (o_pick_t rfl rfl rfl ?_); refine r_nil ?_; refine x_true rfl ?_; refine x_seq (x_region ?_); refine r_op (o_assign rfl rfl ?_); refine r_op (o_assign rfl rfl ?_); refine r_nil ?_)
  exact x_ret rfl [] ⟨rfl, rfl⟩ Sub.h
theorem openBad_spec (b : Nat) (d : Dk) (f n : Int) (h : f < 0 ∨ 8 ≤ f ∨ fitsB n = false) (hok : d.okn 0) :
    Spec Try.prog 62 [dp b, .int .i64 f, .int .i64 n] [DiskI b d] (fun v B => v = .tuple #[.pointer none, .int .i64 1] ∧ B = [DiskI b d]) := by
  refine (open_spec b d f n hok (by decide)).mono ?_
  unfold openD
  rw [if_pos h]
  rintro v B ⟨rfl, rfl⟩
  exact ⟨rfl, rfl⟩
abbrev longT : Tx := List.replicate 112 0
abbrev fullE (i : Nat) : List En := (List.replicate i longT).map some
theorem putFull_spec (ps b : Nat) (d : Dk) (hok : d.okn 0) (f n : Nat) (hn : 16 ≤ n ∧ n ≤ 2 ^ 20) (es : List En) (hl : es.length ≤ 128) (t : Tx) (ht : t.length + 16 ≤ n) (hf : 128 ≤ ff es) :
    Spec Try.prog 64 [dp ps, .string (bstr t)] [ShelfI ps b ⟨f, n, es, false⟩, DiskI b d] (fun v B => v = .tuple #[.int .i64 0, .int .i64 5] ∧ B = [ShelfI ps b ⟨f, n, es, false⟩, DiskI b d]) := by
  refine (put_spec ps b ⟨f, n, es, false⟩ d t hok (by decide) hn (by show es.length ≤ _; omega) (by omega)).mono ?_
  rw [show Sh.put ⟨f, n, es, false⟩ d t = ((⟨f, n, es, false⟩ : Sh), d, 0, 5) by unfold Sh.put; dsimp only; rw [if_neg (by simp), if_neg (by omega), if_pos hf]]
  exact fun v B h => h
theorem putLong_spec (ps b : Nat) (d : Dk) (hok : d.okn 0) (f n : Nat) (hn : 16 ≤ n ∧ n ≤ 2 ^ 20) (es : List En) (hl : es.length ≤ 128) (t : Tx) (ht : n < t.length + 16) (ht2 : t.length ≤ 2 ^ 62) :
    Spec Try.prog 64 [dp ps, .string (bstr t)] [ShelfI ps b ⟨f, n, es, false⟩, DiskI b d] (fun v B => v = .tuple #[.int .i64 0, .int .i64 2] ∧ B = [ShelfI ps b ⟨f, n, es, false⟩, DiskI b d]) := by
  refine (put_spec ps b ⟨f, n, es, false⟩ d t hok (by decide) hn (by show es.length ≤ _; omega) ht2).mono ?_
  rw [put_long ht]
  exact fun v B h => h
theorem delC_spec (ps b : Nat) {bs : List (List UInt8)} (hc : Calm bs) {f n : Nat} (hf : f < 8) (hn : 16 ≤ n ∧ n ≤ 1024) {es : List En} (h : Holds n es (bs.getD f [])) {slot : Int} {t : Tx} (ht : Sh.txt ⟨f, n, es, false⟩ slot = some t) :
    Spec Try.prog 68 [dp ps, .int .i64 slot] [ShelfI ps b ⟨f, n, es, false⟩, DiskI b (newD bs)] (fun v B => ∃ b', v = .int .i64 0 ∧ B = [ShelfI ps b ⟨f, n, es.set slot.toNat none, false⟩, DiskI b (newD (bs.set f b'))] ∧ Holds n (es.set slot.toNat none) b') := by
  obtain ⟨b', h1, h2, _⟩ := del_new hc hf hn h ht
  have hl := h.len (by omega)
  refine (del_spec ps b ⟨f, n, es, false⟩ (newD bs) slot hc.okn (by decide) (by show n ≤ _; omega) (by show es.length ≤ _; omega)).mono ?_
  rw [h1]
  rintro v B ⟨rfl, rfl⟩
  exact ⟨b', rfl, rfl, h2⟩
theorem delNone_spec (ps b : Nat) {bs : List (List UInt8)} (hc : Calm bs) {f n : Nat} (hn : 16 ≤ n ∧ n ≤ 1024) {es : List En} (hl : es.length ≤ 128) {slot : Int} (ht : Sh.txt ⟨f, n, es, false⟩ slot = none) :
    Spec Try.prog 68 [dp ps, .int .i64 slot] [ShelfI ps b ⟨f, n, es, false⟩, DiskI b (newD bs)] (fun v B => v = .int .i64 3 ∧ B = [ShelfI ps b ⟨f, n, es, false⟩, DiskI b (newD bs)]) := by
  refine (del_spec ps b ⟨f, n, es, false⟩ (newD bs) slot hc.okn (by decide) (by show n ≤ _; omega) (by show es.length ≤ _; omega)).mono ?_
  rw [del_none ht]
  exact fun v B h => h
theorem ff_set (i : Nat) : ∀ (l : List Tx), i < l.length → ff ((l.map some).set i none) = i := by
  induction i with
  | zero => intro l h; cases l with
    | nil => simp at h
    | cons t l => rfl
  | succ i ih => intro l h; cases l with
    | nil => simp at h
    | cons t l => simp [ff, ih l (by simpa using h)]
theorem live_all (l : List Tx) (k : Nat) : (live k (l.map some)).length = l.length := by
  have := congrArg List.length (live_some l k)
  simpa using this
end Go.Proofs.Ythneebbmodkjiaa
