/- Part of a proof over the seat Ythneebbmodkjiaa: module E12. Its claim's last module says what is proved. -/
import Derived.Test.YthneebbmodkjiaaE11
namespace Go.Proofs.Ythneebbmodkjiaa
open Go.Proofs

/-- Opened on a file of a calm disk. -/
theorem openC_spec (b : Nat) {bs : List (List UInt8)} (hc : Calm bs) {f n : Nat} (hf : f < 8) (hfit : fitsB n = true) {es : List En} (h : Holds n es (bs.getD f [])) :
    Spec Try.prog 62 [dp b, .int .i64 f, .int .i64 n] [DiskI b (newD bs)] (fun v B => ∃ ps b', v = .tuple #[dp ps, .int .i64 0] ∧ B = [ShelfI ps b ⟨f, n, compact es, false⟩, DiskI b (newD (bs.set f b'))] ∧ Holds n (compact es) b') := by
  obtain ⟨b', h1, h2⟩ := openD_new hc.h8 hf hfit h
  refine (open_spec b (newD bs) f n hc.okn (by decide)).mono ?_
  rw [h1]
  rintro v B ⟨ps, rfl, rfl⟩
  exact ⟨ps, b', rfl, rfl, h2⟩
theorem open0C_spec (b : Nat) {bs : List (List UInt8)} (hc : Calm bs) {f n : Nat} (hf : f < 8) (hfit : fitsB n = true) (hb : bs.getD f [] = []) :
    Spec Try.prog 62 [dp b, .int .i64 f, .int .i64 n] [DiskI b (newD bs)] (fun v B => ∃ ps, v = .tuple #[dp ps, .int .i64 0] ∧ B = [ShelfI ps b ⟨f, n, [], false⟩, DiskI b (newD bs)]) := by
  refine (open_spec b (newD bs) f n hc.okn (by decide)).mono ?_
  rw [open0 hc hf hfit hb]
  rintro v B ⟨ps, rfl, rfl⟩
  exact ⟨ps, rfl, rfl⟩
theorem putC_spec (ps b : Nat) {bs : List (List UInt8)} (hc : Calm bs) {f n : Nat} (hf : f < 8) (hn : 16 ≤ n ∧ n ≤ 1024) {es : List En} (h : Holds n es (bs.getD f [])) {t : Tx} (ht : t.length + 16 ≤ n) (h128 : ff es < 128) :
    Spec Try.prog 64 [dp ps, .string (bstr t)] [ShelfI ps b ⟨f, n, es, false⟩, DiskI b (newD bs)] (fun v B => ∃ b', v = .tuple #[.int .i64 (ff es), .int .i64 0] ∧ B = [ShelfI ps b ⟨f, n, putAt es (ff es) t, false⟩, DiskI b (newD (bs.set f b'))] ∧ Holds n (putAt es (ff es) t) b') := by
  obtain ⟨b', h1, h2⟩ := put_new hc hf hn h ht h128
  have hl := h.len (by omega)
  refine (put_spec ps b ⟨f, n, es, false⟩ (newD bs) t hc.okn (by decide) (And.intro hn.1 (by show n ≤ _; omega)) (by show es.length ≤ _; omega) (by omega)).mono ?_
  rw [h1]
  rintro v B ⟨rfl, rfl⟩
  exact ⟨b', rfl, rfl, h2⟩
theorem ff_nil : ff [] = 0 := rfl
theorem wakes10_spec : Spec Try.prog 67 [] [] (fun v B => v = .bool true ∧ B = []) := by
  refine Spec.of_ex Try.func67 rfl Try.ntmps67 rfl fun E cs Γ => ?_
  (simp only [argRho, List.nil_append])
  (refine x_seq (x_region ?_); refine r_op (o_assign rfl rfl ?_); refine r_nil ?_; refine x_seq (x_region ?_))
  (refine r_op ?_)
  refine o_call rfl disk0_spec rfl ?_
  rintro v B ⟨b, rfl, rfl⟩
  (simp only [List.cons_append, List.nil_append])
  (refine r_op ?_)
  refine o_call rfl (open0C_spec b calm0 (f := 0) (n := 128) (by decide) rfl rfl) rfl ?_
  rintro v B ⟨ps, rfl, rfl⟩
  (simp only [List.cons_append, List.nil_append])
  (refine r_op (o_move rfl rfl ?_); refine r_op (o_extract rfl rfl rfl ?_); refine r_op (o_extract rfl rfl rfl ?_); refine r_op (o_assign rfl rfl ?_); refine r_op (o_assign rfl rfl ?_); refine r_nil ?_; refine x_seq ?_; refine x_seq (x_region ?_); refine r_op (o_move rfl rfl ?_))
  (refine r_op ?_)
  refine o_call rfl (num10_spec 0) rfl ?_
  rintro v B ⟨rfl, rfl⟩
  (simp only [List.nil_append])
  (refine r_op (o_neq_f rfl rfl (by omega) rfl ?_); refine r_op (o_move rfl rfl ?_); refine r_guard rfl (o_move rfl rfl ?_))
  (refine r_guard rfl ?_)
  refine o_peq (.inl rfl) rfl rfl (.inr rfl) rfl ?_
  (refine r_op (o_pick_f rfl rfl rfl ?_); refine r_nil ?_; refine x_false rfl ?_; refine x_skip ?_; refine x_seq (x_region ?_); refine r_op (o_move rfl rfl ?_))
  (refine r_op ?_)
  refine o_call rfl (putC_spec ps b calm0 (f := 0) (n := 128) (t := [97]) (by decide) (by decide) (holds_nil (by decide)) (by decide) (by decide)) rfl ?_
  rintro v B ⟨b', rfl, rfl, hh⟩
  rw [show ((ff [] : Nat) : Int) = 0 from rfl]
  (simp only [List.cons_append, List.nil_append])
  (refine r_op (o_move rfl rfl ?_); refine r_op (o_extract rfl rfl rfl ?_); refine r_op (o_extract rfl rfl rfl ?_); refine r_op (o_assign rfl rfl ?_); refine r_op (o_assign rfl rfl ?_); refine r_nil ?_; refine x_seq (x_region ?_); refine r_op (o_move rfl rfl ?_); refine r_op (o_move rfl rfl ?_))
  (refine r_op ?_)
  refine o_call rfl (get_spec ps b ⟨0, 128, putAt [] (ff []) [97], false⟩ 0 (by decide)) rfl ?_
  rintro v B ⟨rfl, rfl⟩
  rw [show Sh.get ⟨0, 128, putAt [] (ff []) [97], false⟩ 0 = ([97], 0) from rfl]
  (simp only [List.cons_append, List.nil_append])
  (refine r_op (o_move rfl rfl ?_); refine r_op (o_extract rfl rfl rfl ?_); refine r_op (o_extract rfl rfl rfl ?_); refine r_op (o_assign rfl rfl ?_); refine r_op (o_assign rfl rfl ?_); refine r_nil ?_; refine x_seq (x_region ?_); refine r_op (o_move rfl rfl ?_))
  (refine r_op ?_)
  refine o_call rfl (num10_spec 0) rfl ?_
  rintro v B ⟨rfl, rfl⟩
  (simp only [List.nil_append])
  (refine r_op (o_eql_t rfl rfl (by omega) rfl ?_); refine r_op (o_move rfl rfl ?_); refine r_guard rfl (o_move rfl rfl ?_))
  (refine r_guard rfl ?_)
  refine o_call rfl (num10_spec 0) rfl ?_
  rintro v B ⟨rfl, rfl⟩
  (simp only [List.nil_append])
  (refine r_guard rfl (o_eql_t rfl rfl (by omega) rfl ?_); refine r_op (o_pick_t rfl rfl rfl ?_); refine r_op (o_move rfl rfl ?_); refine r_guard rfl (o_move rfl rfl ?_); refine r_guard rfl (o_eql_t rfl rfl (by omega) rfl ?_); refine r_op (o_pick_t rfl rfl rfl ?_); refine r_op (o_move rfl rfl ?_); refine r_guard rfl (o_move rfl rfl ?_))
  (refine r_guard rfl ?_)
  refine o_seql_t rfl rfl (by rfl) rfl ?_
  (refine r_op (o_pick_t rfl rfl rfl ?_); refine r_op (o_move rfl rfl ?_); refine r_guard rfl (o_move rfl rfl ?_))
  (refine r_guard rfl ?_)
  refine o_call rfl (len_spec ps b ⟨0, 128, putAt [] (ff []) [97], false⟩ (by decide)) rfl ?_
  rintro v B ⟨rfl, rfl⟩
  rw [show Sh.len ⟨0, 128, putAt [] (ff []) [97], false⟩ = 1 from rfl]
  (simp only [List.cons_append, List.nil_append])
  (refine r_guard rfl (o_eql_t rfl rfl (by omega) rfl ?_); refine r_op (o_pick_t rfl rfl rfl ?_); refine r_op (o_assign rfl rfl ?_); refine r_nil ?_)
  exact x_ret rfl [] ⟨rfl, rfl⟩ Sub.h
end Go.Proofs.Ythneebbmodkjiaa
