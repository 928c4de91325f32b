/- Part of a proof over the seat Ythneebbmodkjiaa: module E11. Its claim's last module says what is proved. -/
import Derived.Test.YthneebbmodkjiaaG3
namespace Go.Proofs.Ythneebbmodkjiaa
open Go.Proofs

/-! ### Shelves on calm disks -/
structure Calm (bs : List (List UInt8)) : Prop where
  h8 : bs.length = 8
  hb : ∀ b ∈ bs, b.length ≤ 131072
theorem Calm.may {bs : List (List UInt8)} (h : Calm bs) : may bs = true := by
  unfold Ythneebbmodkjiaa.may
  simp only [Bool.and_eq_true, Bool.or_eq_true, beq_iff_eq, List.all_eq_true, decide_eq_true_eq]
  exact ⟨.inr h.h8, h.hb⟩
theorem Calm.okn {bs : List (List UInt8)} (h : Calm bs) : (newD bs).okn 0 := okn_new bs h.may
theorem Calm.set {bs : List (List UInt8)} (h : Calm bs) (f : Nat) {b : List UInt8} (hb : b.length ≤ 131072) : Calm (bs.set f b) :=
  ⟨by simpa using h.h8, fun x hx => by
    rcases List.mem_or_eq_of_mem_set hx with hx | rfl
    · exact h.hb x hx
    · exact hb⟩
theorem calm0 : Calm (List.replicate 8 []) := ⟨rfl, fun b hb => by simp at hb; simp [hb]⟩
theorem Holds.size {n : Nat} {es : List En} {b : List UInt8} (hn : 16 ≤ n ∧ n ≤ 1024) (h : Holds n es b) : b.length ≤ 131072 := by
  have := Nat.mul_le_mul (h.len (by omega)) hn.2
  rw [h.2]; omega
theorem getD_set {bs : List (List UInt8)} (h8 : bs.length = 8) {f : Nat} (hf : f < 8) (b : List UInt8) : (bs.set f b).getD f [] = b := by
  rw [List.getD_eq_getElem?_getD]; simp [h8, hf]
theorem getD_set_ne {bs : List (List UInt8)} {f g : Nat} (hfg : f ≠ g) (b : List UInt8) : (bs.set f b).getD g [] = bs.getD g [] := by
  rw [List.getD_eq_getElem?_getD, List.getD_eq_getElem?_getD, List.getElem?_set_ne hfg]
theorem getD_0 (f : Nat) : (List.replicate 8 ([] : List UInt8)).getD f [] = [] := by
  rw [List.getD_eq_getElem?_getD, List.getElem?_replicate]; split <;> rfl
theorem put_new {bs : List (List UInt8)} (hc : Calm bs) {f n : Nat} (hf : f < 8) (hn : 16 ≤ n ∧ n ≤ 1024) {es : List En} (h : Holds n es (bs.getD f [])) {t : Tx} (ht : t.length + 16 ≤ n) (h128 : ff es < 128) :
    ∃ b', Sh.put ⟨f, n, es, false⟩ (newD bs) t = ((⟨f, n, putAt es (ff es) t, false⟩ : Sh), newD (bs.set f b'), (ff es : Int), 0) ∧ Holds n (putAt es (ff es) t) b' := by
  have hp := holds_put (i := ff es) (t := t) ⟨by omega, by omega⟩ h (ff_le es) h128 ht
  have h1 := Nat.mul_le_mul (show ff es + 1 ≤ 128 by omega) hn.2
  rw [Nat.add_mul, Nat.one_mul] at h1
  have h2 := Nat.mul_le_mul_right n (ff_le es)
  have hL := layS_new hc.h8 hf (n := n) (i := ff es) rfl ht (by rw [h.2]; exact h2) (by
    have := Nat.mul_le_mul (show ff es + 1 ≤ 128 by omega) hn.2
    have h3 : (ff es + 1) * n = ff es * n + n := by rw [Nat.add_mul, Nat.one_mul]
    omega)
  refine ⟨_, ?_, hp⟩
  unfold Sh.put
  dsimp only
  rw [if_neg (by simp), if_neg (by omega), if_neg (by omega), hL]
  dsimp only
  rw [if_neg (by simp)]
theorem put_long {d : Dk} {f n : Nat} {es : List En} {t : Tx} (ht : n < t.length + 16) : Sh.put ⟨f, n, es, false⟩ d t = ((⟨f, n, es, false⟩ : Sh), d, 0, 2) := by
  unfold Sh.put; dsimp only; rw [if_neg (by simp), if_pos ht]
theorem del_new {bs : List (List UInt8)} (hc : Calm bs) {f n : Nat} (hf : f < 8) (hn : 16 ≤ n ∧ n ≤ 1024) {es : List En} (h : Holds n es (bs.getD f [])) {slot : Int} {t : Tx} (ht : Sh.txt ⟨f, n, es, false⟩ slot = some t) :
    ∃ b', Sh.del ⟨f, n, es, false⟩ (newD bs) slot = ((⟨f, n, es.set slot.toNat none, false⟩ : Sh), newD (bs.set f b'), 0) ∧ Holds n (es.set slot.toNat none) b' ∧ slot.toNat < es.length := by
  have hsl : slot.toNat < es.length := by
    apply Nat.lt_of_not_le
    intro hle
    unfold Sh.txt at ht
    dsimp only at ht
    split at ht
    · cases ht
    · rw [List.getElem?_eq_none hle] at ht; cases ht
  have hp := holds_del (by omega) h hsl
  have h2 := Nat.mul_le_mul_right n (show slot.toNat + 1 ≤ es.length by omega)
  rw [Nat.add_mul, Nat.one_mul] at h2
  have hsz := h.size hn
  have hm := mark_new hc.h8 hf (n := n) (i := slot.toNat) rfl 0 (by rw [h.2]; omega) (by rw [h.2] at hsz; omega)
  refine ⟨_, ?_, hp, hsl⟩
  unfold Sh.del
  rw [if_neg (by simp), if_neg (by rw [ht]; simp)]
  dsimp only
  rw [hm]
  dsimp only
  rw [if_neg (by simp)]
theorem del_none {d : Dk} {f n : Nat} {es : List En} {slot : Int} (ht : Sh.txt ⟨f, n, es, false⟩ slot = none) : Sh.del ⟨f, n, es, false⟩ d slot = ((⟨f, n, es, false⟩ : Sh), d, 3) := by
  unfold Sh.del; rw [if_neg (by simp), if_pos ht]
theorem open0 {bs : List (List UInt8)} (hc : Calm bs) {f n : Nat} (hf : f < 8) (hfit : fitsB n = true) (hb : bs.getD f [] = []) : openD (newD bs) f n = (newD bs, some ⟨f, n, [], false⟩, 0) := by
  have hn := fits_in hfit
  obtain ⟨b', h1, h2⟩ := openD_new hc.h8 hf hfit (es := []) (by rw [hb]; exact holds_nil (by omega))
  have h3 : b' = [] := by have := h2.2; simpa using this
  subst h3
  rw [h1]
  have : bs.set f [] = bs := by
    apply List.ext_getElem (by simp)
    intro i h4 h5
    rw [List.getElem_set]
    split
    · rename_i e; subst e
      rw [List.getD_eq_getElem?_getD, List.getElem?_eq_getElem h5] at hb
      exact hb.symm
    · rfl
  rw [this]; rfl

/-! ### The statements' helpers -/
theorem num10_spec (a : Int) : Spec Try.prog 63 [.int .i64 a] [] (fun v B => v = .int .i64 a ∧ B = []) := by
  refine Spec.of_ex Try.func63 rfl Try.ntmps63 rfl fun E cs Γ => ?_
  (simp only [argRho, List.nil_append])
  (refine x_seq (x_region ?_); refine r_op (o_assign rfl rfl ?_); refine r_nil ?_; refine x_seq (x_region ?_); refine r_op (o_move rfl rfl ?_); refine r_op (o_assign rfl rfl ?_); refine r_nil ?_)
  exact x_ret rfl [] ⟨rfl, rfl⟩ Sub.h
theorem disk0_spec : Spec Try.prog 61 [.slice none 0 0] [] (fun v B => ∃ b, v = dp b ∧ B = [DiskI b (newD (List.replicate 8 []))]) := by
  refine Spec.of_ex Try.func61 rfl Try.ntmps61 rfl fun E cs Γ => ?_
  (simp only [argRho, List.nil_append])
  (refine x_seq (x_region ?_); refine r_op (o_assign rfl rfl ?_); refine r_nil ?_; refine x_seq (x_region ?_); refine r_op (o_move rfl rfl ?_))
  (refine r_op ?_)
  refine o_call rfl new0_spec rfl ?_
  rintro v B ⟨b, rfl, rfl⟩
  (simp only [List.cons_append, List.nil_append])
  (refine r_op (o_move rfl rfl ?_); refine r_op (o_extract rfl rfl rfl ?_); refine r_op (o_extract rfl rfl rfl ?_); refine r_op (o_assign rfl rfl ?_); refine r_op (o_assign rfl rfl ?_); refine r_nil ?_; refine x_seq ?_; refine x_seq (x_region ?_); refine r_op (o_move rfl rfl ?_))
  (refine r_op ?_)
  refine o_call rfl (num10_spec 0) rfl ?_
  rintro v B ⟨rfl, rfl⟩
  (simp only [List.nil_append])
  (refine r_op (o_neq_f rfl rfl (by omega) rfl ?_); refine r_nil ?_; refine x_false rfl ?_; refine x_skip ?_; refine x_seq (x_region ?_); refine r_op (o_move rfl rfl ?_); refine r_op (o_assign rfl rfl ?_); refine r_nil ?_)
  exact x_ret rfl [DiskI b (newD [])] ⟨b, rfl, rfl⟩ Sub.h
theorem disk_spec {A : HP} {a : Option Addr} {cap : Nat} {q : List BS} (R : RdC A a q) (hq : Calm (cont q)) : Spec Try.prog 61 [.slice a q.length cap] [A] (fun v B => ∃ b, v = dp b ∧ B = [A, DiskI b (newD (cont q))]) := by
  refine Spec.of_ex Try.func61 rfl Try.ntmps61 rfl fun E cs Γ => ?_
  (simp only [argRho, List.cons_append, List.nil_append])
  (refine x_seq (x_region ?_); refine r_op (o_assign rfl rfl ?_); refine r_nil ?_; refine x_seq (x_region ?_); refine r_op (o_move rfl rfl ?_))
  (refine r_op ?_)
  have hql : q.length = 8 := by have := hq.h8; simpa [cont] using this
  refine o_call rfl (new_spec R (by omega)) rfl ?_
  rintro v B (⟨_, b, rfl, rfl⟩ | ⟨h, _⟩)
  · (simp only [List.cons_append, List.nil_append])
    (refine r_op (o_move rfl rfl ?_); refine r_op (o_extract rfl rfl rfl ?_); refine r_op (o_extract rfl rfl rfl ?_); refine r_op (o_assign rfl rfl ?_); refine r_op (o_assign rfl rfl ?_); refine r_nil ?_; refine x_seq ?_; refine x_seq (x_region ?_); refine r_op (o_move rfl rfl ?_))
    (refine r_op ?_)
    refine o_call rfl (num10_spec 0) rfl ?_
    rintro v B ⟨rfl, rfl⟩
    (simp only [List.nil_append])
    (refine r_op (o_neq_f rfl rfl (by omega) rfl ?_); refine r_nil ?_; refine x_false rfl ?_; refine x_skip ?_; refine x_seq (x_region ?_); refine r_op (o_move rfl rfl ?_); refine r_op (o_assign rfl rfl ?_); refine r_nil ?_)
    exact x_ret rfl [A, DiskI b (newD (cont q))] ⟨b, rfl, rfl⟩ Sub.h
  · rw [hq.may] at h; cases h
end Go.Proofs.Ythneebbmodkjiaa

namespace Go.Proofs.Ythneebbmodkjiaa
open Go.Proofs

/-- Opened on a file of a calm disk. -/
theorem openC_spec (b : Nat) {bs : List (List UInt8)} (hc : Calm bs) {f n : Nat} (hf : f < 8) (hfit : fitsB n = true) {es : List En} (h : Holds n es (bs.getD f [])) :
    Spec Try.prog 62 [dp b, .int .i64 f, .int .i64 n] [DiskI b (newD bs)] (fun v B => ∃ ps b', v = .tuple #[dp ps, .int .i64 0] ∧ B = [ShelfI ps b ⟨f, n, compact es, false⟩, DiskI b (newD (bs.set f b'))] ∧ Holds n (compact es) b') := by
  obtain ⟨b', h1, h2⟩ := openD_new hc.h8 hf hfit h
  refine (open_spec b (newD bs) f n hc.okn (by decide)).mono ?_
  rw [h1]
  rintro v B ⟨ps, rfl, rfl⟩
  exact ⟨ps, b', rfl, rfl, h2⟩
theorem open0C_spec (b : Nat) {bs : List (List UInt8)} (hc : Calm bs) {f n : Nat} (hf : f < 8) (hfit : fitsB n = true) (hb : bs.getD f [] = []) :
    Spec Try.prog 62 [dp b, .int .i64 f, .int .i64 n] [DiskI b (newD bs)] (fun v B => ∃ ps, v = .tuple #[dp ps, .int .i64 0] ∧ B = [ShelfI ps b ⟨f, n, [], false⟩, DiskI b (newD bs)]) := by
  refine (open_spec b (newD bs) f n hc.okn (by decide)).mono ?_
  rw [open0 hc hf hfit hb]
  rintro v B ⟨ps, rfl, rfl⟩
  exact ⟨ps, rfl, rfl⟩
theorem putC_spec (ps b : Nat) {bs : List (List UInt8)} (hc : Calm bs) {f n : Nat} (hf : f < 8) (hn : 16 ≤ n ∧ n ≤ 1024) {es : List En} (h : Holds n es (bs.getD f [])) {t : Tx} (ht : t.length + 16 ≤ n) (h128 : ff es < 128) :
    Spec Try.prog 64 [dp ps, .string (bstr t)] [ShelfI ps b ⟨f, n, es, false⟩, DiskI b (newD bs)] (fun v B => ∃ b', v = .tuple #[.int .i64 (ff es), .int .i64 0] ∧ B = [ShelfI ps b ⟨f, n, putAt es (ff es) t, false⟩, DiskI b (newD (bs.set f b'))] ∧ Holds n (putAt es (ff es) t) b') := by
  obtain ⟨b', h1, h2⟩ := put_new hc hf hn h ht h128
  have hl := h.len (by omega)
  refine (put_spec ps b ⟨f, n, es, false⟩ (newD bs) t hc.okn (by decide) (And.intro hn.1 (by show n ≤ _; omega)) (by show es.length ≤ _; omega) (by omega)).mono ?_
  rw [h1]
  rintro v B ⟨rfl, rfl⟩
  exact ⟨b', rfl, rfl, h2⟩
theorem ff_nil : ff [] = 0 := rfl
theorem wakes10_spec : Spec Try.prog 67 [] [] (fun v B => v = .bool true ∧ B = []) := by
  refine Spec.of_ex Try.func67 rfl Try.ntmps67 rfl fun E cs Γ => ?_
  (simp only [argRho, List.nil_append])
  (refine x_seq (x_region ?_); refine r_op (o_assign rfl rfl ?_); refine r_nil ?_; refine x_seq (x_region ?_))
  (refine r_op ?_)
  refine o_call rfl disk0_spec rfl ?_
  rintro v B ⟨b, rfl, rfl⟩
  (simp only [List.cons_append, List.nil_append])
  (refine r_op ?_)
  refine o_call rfl (open0C_spec b calm0 (f := 0) (n := 128) (by decide) rfl rfl) rfl ?_
  rintro v B ⟨ps, rfl, rfl⟩
  (simp only [List.cons_append, List.nil_append])
  (refine r_op (o_move rfl rfl ?_); refine r_op (o_extract rfl rfl rfl ?_); refine r_op (o_extract rfl rfl rfl ?_); refine r_op (o_assign rfl rfl ?_); refine r_op (o_assign rfl rfl ?_); refine r_nil ?_; refine x_seq ?_; refine x_seq (x_region ?_); refine r_op (o_move rfl rfl ?_))
  (refine r_op ?_)
  refine o_call rfl (num10_spec 0) rfl ?_
  rintro v B ⟨rfl, rfl⟩
  (simp only [List.nil_append])
  (refine r_op (o_neq_f rfl rfl (by omega) rfl ?_); refine r_op (o_move rfl rfl ?_); refine r_guard rfl (o_move rfl rfl ?_))
  (refine r_guard rfl ?_)
  refine o_peq (.inl rfl) rfl rfl (.inr rfl) rfl ?_
  (refine r_op (o_pick_f rfl rfl rfl ?_); refine r_nil ?_; refine x_false rfl ?_; refine x_skip ?_; refine x_seq (x_region ?_); refine r_op (o_move rfl rfl ?_))
  (refine r_op ?_)
  refine o_call rfl (putC_spec ps b calm0 (f := 0) (n := 128) (t := [97]) (by decide) (by decide) (holds_nil (by decide)) (by decide) (by decide)) rfl ?_
  rintro v B ⟨b', rfl, rfl, hh⟩
  rw [show ((ff [] : Nat) : Int) = 0 from rfl]
  (simp only [List.cons_append, List.nil_append])
  (refine r_op (o_move rfl rfl ?_); refine r_op (o_extract rfl rfl rfl ?_); refine r_op (o_extract rfl rfl rfl ?_); refine r_op (o_assign rfl rfl ?_); refine r_op (o_assign rfl rfl ?_); refine r_nil ?_; refine x_seq (x_region ?_); refine r_op (o_move rfl rfl ?_); refine r_op (o_move rfl rfl ?_))
  (refine r_op ?_)
  refine o_call rfl (get_spec ps b ⟨0, 128, putAt [] (ff []) [97], false⟩ 0 (by decide)) rfl ?_
  rintro v B ⟨rfl, rfl⟩
  rw [show Sh.get ⟨0, 128, putAt [] (ff []) [97], false⟩ 0 = ([97], 0) from rfl]
  (simp only [List.cons_append, List.nil_append])
  (refine r_op (o_move rfl rfl ?_); refine r_op (o_extract rfl rfl rfl ?_); refine r_op (o_extract rfl rfl rfl ?_); refine r_op (o_assign rfl rfl ?_); refine r_op (o_assign rfl rfl ?_); refine r_nil ?_; refine x_seq (x_region ?_); refine r_op (o_move rfl rfl ?_))
  (refine r_op ?_)
  refine o_call rfl (num10_spec 0) rfl ?_
  rintro v B ⟨rfl, rfl⟩
  (simp only [List.nil_append])
  (refine r_op (o_eql_t rfl rfl (by omega) rfl ?_); refine r_op (o_move rfl rfl ?_); refine r_guard rfl (o_move rfl rfl ?_))
  (refine r_guard rfl ?_)
  refine o_call rfl (num10_spec 0) rfl ?_
  rintro v B ⟨rfl, rfl⟩
  (simp only [List.nil_append])
  (refine r_guard rfl (o_eql_t rfl rfl (by omega) rfl ?_); refine r_op (o_pick_t rfl rfl rfl ?_); refine r_op (o_move rfl rfl ?_); refine r_guard rfl (o_move rfl rfl ?_); refine r_guard rfl (o_eql_t rfl rfl (by omega) rfl ?_); refine r_op (o_pick_t rfl rfl rfl ?_); refine r_op (o_move rfl rfl ?_); refine r_guard rfl (o_move rfl rfl ?_))
  (refine r_guard rfl ?_)
  refine o_seql_t rfl rfl (by rfl) rfl ?_
  (refine r_op (o_pick_t rfl rfl rfl ?_); refine r_op (o_move rfl rfl ?_); refine r_guard rfl (o_move rfl rfl ?_))
  (refine r_guard rfl ?_)
  refine o_call rfl (len_spec ps b ⟨0, 128, putAt [] (ff []) [97], false⟩ (by decide)) rfl ?_
  rintro v B ⟨rfl, rfl⟩
  rw [show Sh.len ⟨0, 128, putAt [] (ff []) [97], false⟩ = 1 from rfl]
  (simp only [List.cons_append, List.nil_append])
  (refine r_guard rfl (o_eql_t rfl rfl (by omega) rfl ?_); refine r_op (o_pick_t rfl rfl rfl ?_); refine r_op (o_assign rfl rfl ?_); refine r_nil ?_)
  exact x_ret rfl [] ⟨rfl, rfl⟩ Sub.h
end Go.Proofs.Ythneebbmodkjiaa
