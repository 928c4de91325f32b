/- Part of a proof over the seat Ythneebbmodkjiaa: module E10. Its claim's last module says what is proved. -/
import Derived.Test.YthneebbmodkjiaaE9
namespace Go.Proofs.Ythneebbmodkjiaa
open Go.Proofs

/-! ### Opening -/
theorem parse_len {n : Nat} {b : List UInt8} {l : List En} (_hn : 0 < n) (h : parse n b = some l) : l.length = nSl n b.length ∧ l.length ≤ 128 := by
  have e := mapM_len _ h
  rw [List.length_range] at e
  refine ⟨e, Nat.le_of_not_lt fun hl => ?_⟩
  have : parse n b = none := mapM_none _ _ 128 (by simp; omega) (by unfold pz; rw [if_pos (Nat.le_refl _)])
  rw [this] at h; cases h
theorem mapM_mem {α β : Type} (g : α → Option β) : ∀ (l : List α) (ys : List β), l.mapM g = some ys → ∀ y ∈ ys, ∃ x ∈ l, g x = some y := by
  intro l
  induction l with
  | nil => intro ys h y hy; simp at h; subst h; cases hy
  | cons x l ih =>
    intro ys h y hy
    rw [List.mapM_cons] at h
    cases hg : g x with
    | none => simp [hg] at h
    | some z =>
      cases hm : l.mapM g with
      | none => simp [hg, hm] at h
      | some zs =>
        simp [hg, hm] at h
        subst h
        rcases List.mem_cons.1 hy with rfl | hy
        · exact ⟨x, by simp, hg⟩
        · obtain ⟨x', hx', h'⟩ := ih zs hm y hy
          exact ⟨x', by simp [hx'], h'⟩
theorem parse1_txt {n : Nat} {x : List UInt8} {t : Tx} (h : parse1 n x = some (some t)) : t.length + 16 ≤ n := by
  unfold parse1 at h
  split at h
  · cases h
  · split at h
    · cases h
    · split at h
      · cases h
      · simp at h; subst h; simp; omega
theorem parse_txt {n : Nat} {b : List UInt8} {l : List En} (h : parse n b = some l) : ∀ t, some t ∈ l → t.length + 16 ≤ n := by
  intro t ht
  obtain ⟨i, _, hi⟩ := mapM_mem _ _ _ h _ ht
  unfold pz at hi
  split at hi
  · cases hi
  · exact parse1_txt hi
theorem movedP_len (f n : Nat) : ∀ (r : List En) (d : Dk) (i : Nat) (acc : List En), (movedP f n d i r acc).2.1.length ≤ acc.length + r.length
  | [], d, i, acc => by simp [movedP]
  | none :: r, d, i, acc => by
    have := movedP_len f n r d (i + 1) acc
    rw [movedP]; simp; omega
  | some t :: r, d, i, acc => by
    rw [movedP]
    split
    · have := movedP_len f n r d (i + 1) (acc ++ [some t])
      simp at this ⊢; omega
    · split
      · simp
      · split
        · simp
        · have := movedP_len f n r (mark (layS d f n acc.length t).1 f n i 0).1 (i + 1) (acc ++ [some t])
          simp at this ⊢; omega
def cutTo (d : Dk) (f : Int) (c : Nat) : Dk × Int := if c < (d.file f).now.length then d.cut f c else (d, 0)
def openS (d : Dk) (f n : Nat) (l : List En) : Dk × Option Sh × Int :=
  let m := movedP f n d 0 l []
  if m.2.2 ≠ 0 then (m.1, none, m.2.2)
  else
    if m.2.1.length * n < (d.file f).now.length then
      let q := m.1.cut f ((m.2.1.length * n : Nat) : Int)
      if q.2 ≠ 0 then (q.1, none, q.2)
      else if (q.1.sync f).2 ≠ 0 then ((q.1.sync f).1, none, (q.1.sync f).2)
      else ((q.1.sync f).1, some ⟨f, n, m.2.1, false⟩, 0)
    else (m.1, some ⟨f, n, m.2.1, false⟩, 0)
def openD (d : Dk) (f n : Int) : Dk × Option Sh × Int :=
  if f < 0 ∨ 8 ≤ f ∨ fitsB n = false then (d, none, 1)
  else if d.asks f ≠ 0 then (d, none, d.asks f)
  else match parse n.toNat (d.file f).now with
    | none => (d, none, 1)
    | some l => openS d f.toNat n.toNat l
def OpenR (b : Nat) (r : Dk × Option Sh × Int) (v : Value) (B : List HP) : Prop :=
  match r.2.1 with
  | none => v = .tuple #[.pointer none, .int .i64 r.2.2] ∧ B = [DiskI b r.1]
  | some s => ∃ ps, v = .tuple #[dp ps, .int .i64 r.2.2] ∧ B = [ShelfI ps b s, DiskI b r.1]
theorem fits_in {n : Int} (h : fitsB n = true) : 16 ≤ n ∧ n ≤ 2 ^ 20 := by
  unfold fitsB at h
  simp only [Bool.or_eq_true, beq_iff_eq] at h
  omega
set_option maxHeartbeats 3200000 in
theorem open_spec {N : Nat} (b : Nat) (d : Dk) (f n : Int) (hok : d.okn N) (hN : N + 900 ≤ 2 ^ 20) :
    Spec Try.prog 62 [dp b, .int .i64 f, .int .i64 n] [DiskI b d] (OpenR b (openD d f n)) := by
  refine Spec.of_ex Try.func62 rfl Try.ntmps62 rfl fun E cs Γ => ?_
  (simp only [argRho, Nat.reduceAdd, List.cons_append, List.nil_append])
  have hsm := hok.small (by omega)
  have hbad : f < 0 ∨ 8 ≤ f ∨ fitsB n = false → OpenR b (openD d f n) (retV [.pointer none, .int .i64 1]) [DiskI b d] := fun h => by
    unfold openD; rw [if_pos h]; exact ⟨rfl, rfl⟩
  (refine x_seq (x_region ?_); refine r_op (o_assign rfl rfl ?_); refine r_op (o_assign rfl rfl ?_); refine r_nil ?_; refine x_seq ?_; refine x_seq (x_region ?_); refine r_op (o_move rfl rfl ?_))
  (refine r_op ?_)
  refine o_peq (.inl rfl) rfl rfl (.inr rfl) rfl ?_
  by_cases h1 : f < 0
  · (refine r_op (o_move rfl rfl ?_); refine r_guard rfl (o_move rfl rfl ?_); refine r_guard rfl (o_lss_t rfl rfl (by omega) rfl ?_); refine r_op (o_pick_f rfl rfl rfl ?_); refine r_op (o_move rfl rfl ?_); refine r_skip rfl rfl rfl ?_; refine r_skip rfl rfl rfl ?_; refine r_op (o_pick_t rfl rfl rfl ?_); refine r_op (o_move rfl rfl ?_); refine r_skip rfl rfl rfl ?_; refine r_skip rfl rfl rfl ?_; refine r_skip rfl rfl rfl ?_; refine r_op (o_pick_t rfl rfl rfl ?_); refine r_nil ?_; refine x_true rfl ?_; refine x_seq (x_region ?_); refine r_op (o_assign rfl rfl ?_); refine r_op (o_assign rfl rfl ?_); refine r_nil ?_)
    exact x_ret rfl [DiskI b d] (hbad (.inl h1)) Sub.h
  by_cases h2 : 8 ≤ f
  · (refine r_op (o_move rfl rfl ?_); refine r_guard rfl (o_move rfl rfl ?_); refine r_guard rfl (o_lss_f rfl rfl (by omega) rfl ?_); refine r_op (o_pick_f rfl rfl rfl ?_); refine r_op (o_move rfl rfl ?_); refine r_guard rfl (o_move rfl rfl ?_); refine r_guard rfl (o_geq_t rfl rfl (by omega) rfl ?_); refine r_op (o_pick_f rfl rfl rfl ?_); refine r_op (o_move rfl rfl ?_); refine r_skip rfl rfl rfl ?_; refine r_skip rfl rfl rfl ?_; refine r_skip rfl rfl rfl ?_; refine r_op (o_pick_t rfl rfl rfl ?_); refine r_nil ?_; refine x_true rfl ?_; refine x_seq (x_region ?_); refine r_op (o_assign rfl rfl ?_); refine r_op (o_assign rfl rfl ?_); refine r_nil ?_)
    exact x_ret rfl [DiskI b d] (hbad (.inr (.inl h2))) Sub.h
  (refine r_op (o_move rfl rfl ?_); refine r_guard rfl (o_move rfl rfl ?_); refine r_guard rfl (o_lss_f rfl rfl (by omega) rfl ?_); refine r_op (o_pick_f rfl rfl rfl ?_); refine r_op (o_move rfl rfl ?_); refine r_guard rfl (o_move rfl rfl ?_); refine r_guard rfl (o_geq_f rfl rfl (by omega) rfl ?_); refine r_op (o_pick_f rfl rfl rfl ?_); refine r_op (o_move rfl rfl ?_); refine r_guard rfl (o_move rfl rfl ?_))
  (refine r_guard rfl ?_)
  refine o_call rfl (fits_spec n) rfl ?_
  rintro v B ⟨rfl, rfl⟩
  (simp only [List.nil_append])
  cases h3 : fitsB n
  · (refine r_guard rfl (o_not rfl rfl ?_); refine r_op (o_pick_f rfl rfl rfl ?_); refine r_nil ?_; refine x_true rfl ?_; refine x_seq (x_region ?_); refine r_op (o_assign rfl rfl ?_); refine r_op (o_assign rfl rfl ?_); refine r_nil ?_)
    exact x_ret rfl [DiskI b d] (hbad (.inr (.inr h3))) Sub.h
  have hn := fits_in h3
  obtain ⟨n, rfl⟩ : ∃ i : Nat, n = i := ⟨n.toNat, by omega⟩
  obtain ⟨f, rfl⟩ : ∃ i : Nat, f = i := ⟨f.toNat, by omega⟩
  have ho1 : openD d f n = if d.asks f ≠ 0 then (d, none, d.asks f) else match parse n (d.file f).now with
    | none => (d, none, 1)
    | some l => openS d f n l := by
    unfold openD; rw [if_neg (by rw [h3]; simp; omega)]; rfl
  (refine r_guard rfl (o_not rfl rfl ?_); refine r_op (o_pick_f rfl rfl rfl ?_); refine r_nil ?_; refine x_false rfl ?_; refine x_skip ?_; refine x_seq (x_region ?_); refine r_op (o_move rfl rfl ?_); refine r_op (o_move rfl rfl ?_))
  (refine r_op ?_)
  refine o_call rfl (size_spec b d f) rfl ?_
  rintro v B ⟨rfl, rfl⟩
  (simp only [List.cons_append, List.nil_append])
  by_cases h4 : d.asks f = 0
  · rw [if_neg (by simpa using h4)] at ho1
    have es1 : d.size f = (((d.file f).now.length : Int), 0) := by unfold Dk.size; rw [if_pos h4]
    rw [es1]
    obtain ⟨z, hz⟩ : ∃ z, (d.file f).now = z := ⟨_, rfl⟩
    rw [hz] at ho1 ⊢
    have hzl : z.length ≤ 2 ^ 40 := by
      have hm : d.file f ∈ d.fs := by
        unfold Dk.file
        rw [List.getD_eq_getElem?_getD, List.getElem?_eq_getElem (by rw [hok.1]; omega)]
        exact List.getElem_mem _
      rw [← hz]
      exact (hsm _ hm).1
    have er : d.read f 0 z.length = (z, 0) := by
      unfold Dk.read
      rw [if_neg (by simpa using h4), hz, if_neg (by omega)]
      simp
    (refine r_op (o_move rfl rfl ?_); refine r_op (o_extract rfl rfl rfl ?_); refine r_op (o_extract rfl rfl rfl ?_); refine r_op (o_assign rfl rfl ?_); refine r_op (o_assign rfl rfl ?_); refine r_nil ?_; refine x_seq ?_; refine x_seq (x_region ?_); refine r_op (o_move rfl rfl ?_); refine r_op (o_neq_f rfl rfl (by omega) rfl ?_); refine r_nil ?_; refine x_false rfl ?_; refine x_skip ?_; refine x_seq (x_region ?_); refine r_op (o_move rfl rfl ?_); refine r_op (o_move rfl rfl ?_); refine r_op (o_move rfl rfl ?_))
    (refine r_op ?_)
    refine o_call rfl (read_spec b d f 0 z.length (fun x hx => by have := (hsm x hx).1; omega)) rfl ?_
    rw [er]
    rintro v B ⟨a, c, rfl, rfl⟩
    (simp only [List.cons_append, List.nil_append])
    refine r_sl a fun _ hac => ?_
    have R := Sl.reads 1 a z.length c (z.map bv) (by simp)
    (refine r_op (o_move rfl rfl ?_); refine r_op (o_extract rfl rfl rfl ?_); refine r_op (o_extract rfl rfl rfl ?_); refine r_op (o_assign rfl rfl ?_); refine r_op (o_assign rfl rfl ?_); refine r_nil ?_; refine x_seq ?_; refine x_seq (x_region ?_); refine r_op (o_move rfl rfl ?_); refine r_op (o_neq_f rfl rfl (by omega) rfl ?_); refine r_nil ?_; refine x_false rfl ?_; refine x_skip ?_; refine x_seq (x_region ?_); refine r_op (o_move rfl rfl ?_); refine r_op (o_move rfl rfl ?_))
    (refine r_op ?_)
    refine o_call rfl (found_spec R hac hzl (by omega)) rfl ?_
    rintro v B (⟨l, a', c', hp, rfl, rfl⟩ | ⟨hp, rfl, rfl⟩)
    · (simp only [List.cons_append, List.nil_append])
      rw [hp] at ho1
      dsimp only at ho1
      have hpl := parse_len (by omega) hp
      refine r_sl a' fun _ hac' => ?_
      (refine r_op (o_move rfl rfl ?_); refine r_op (o_extract rfl rfl rfl ?_); refine r_op (o_extract rfl rfl rfl ?_); refine r_op (o_assign rfl rfl ?_); refine r_op (o_assign rfl rfl ?_); refine r_nil ?_; refine x_seq ?_; refine x_seq (x_region ?_); refine r_op (o_move rfl rfl ?_); refine r_op (o_not rfl rfl ?_); refine r_nil ?_; refine x_false rfl ?_; refine x_skip ?_; refine x_seq (x_region ?_); refine r_op (o_move rfl rfl ?_); refine r_op (o_move rfl rfl ?_); refine r_op (o_move rfl rfl ?_))
      (refine r_op ?_)
      refine o_build rfl (by rfl) rfl ?_
      (refine r_op ?_)
      refine o_boxA (vs := shRow b f n (.slice none 0 0) false) rfl rfl (fun ps => ?_)
      (refine r_op (o_assign rfl rfl ?_); refine r_nil ?_; refine x_seq ?_; refine x_seq (x_region ?_); refine r_op (o_move rfl rfl ?_); refine r_op (o_move rfl rfl ?_))
      refine r_mem (Γ' := ShelfI ps b ⟨f, n, [], false⟩ :: DiskI b d :: Sl 2 a' l.length c' (l.flatMap enV) :: Γ) ?_ ?_
      · refine (Ent.nilSl 2 _).trans ?_
        refine (Sub.h (Δ := Row ps 0 (shRow b f n (.slice none 0 0) false) :: Sl 2 none 0 0 [] :: DiskI b d :: Sl 2 a' l.length c' (l.flatMap enV) :: Γ)).trans ?_
        exact Ent.shelf ⟨f, n, [], false⟩ _
      (refine r_op ?_)
      refine o_call rfl (moved_spec ps b ⟨f, n, [], false⟩ d l a' c' (Sl.reads 2 a' l.length c' _ (flen enV_cl l)) rfl hok hpl.2 (by omega) (by dsimp only; omega) hac' (parse_txt hp)) rfl ?_
      rintro v B ⟨rfl, rfl⟩
      (simp only [List.cons_append, List.nil_append])
      have hk1 := okn_movedP f n l d 0 [] N hok
      unfold openS at ho1
      dsimp only at ho1 ⊢
      obtain ⟨d1, m1, e1, hm1⟩ : ∃ x y z, movedP f n d 0 l [] = (x, y, z) := ⟨_, _, _, rfl⟩
      rw [hm1] at ho1 hk1 ⊢
      dsimp only at ho1 hk1 ⊢
      have hm1l := movedP_len f n l d 0 []
      rw [hm1] at hm1l
      simp only [List.length_nil, Nat.zero_add] at hm1l
      by_cases h5 : e1 = 0
      · subst h5
        rw [if_neg (by simp), hz] at ho1
        (refine r_op (o_assign rfl rfl ?_); refine r_nil ?_; refine x_seq (x_region ?_); refine r_op (o_move rfl rfl ?_); refine r_op (o_neq_f rfl rfl (by omega) rfl ?_); refine r_nil ?_; refine x_false rfl ?_; refine x_skip ?_; refine x_seq ?_; refine x_seq (x_region ?_); refine r_op (o_move rfl rfl ?_); refine r_op (o_nilCheck rfl rfl ?_); refine r_op (o_fieldAddr rfl rfl ?_))
        refine r_open (fun E w st => st.shelf) fun ⟨a2, c2⟩ => ?_
        dsimp only
        have hback : ∀ Γ', Ent (Row ps 0 (shRow b f n (Value.slice a2 m1.length c2) false) :: Sl 2 a2 m1.length c2 (m1.flatMap enV) :: Γ') (ShelfI ps b ⟨f, n, m1, false⟩ :: Γ') := fun Γ' => Ent.shelf (ps := ps) (b := b) ⟨f, n, m1, false⟩ (a := a2) (c := c2) Γ'
        have hmul := mul_le (show m1.length ≤ 2 ^ 10 by omega) (show n ≤ 2 ^ 20 by omega)
        (refine r_op (o_load rfl rfl rfl rfl ?_); refine r_op (o_lenS rfl rfl ?_); refine r_op (o_move rfl rfl ?_); refine r_op (o_mul rfl rfl (in_i64 (by omega)) rfl ?_); refine r_op (o_assign rfl rfl ?_); refine r_nil ?_; refine x_seq (x_region ?_); refine r_op (o_move rfl rfl ?_); refine r_op (o_move rfl rfl ?_))
        rw [← Int.natCast_mul]
        obtain ⟨mn, hmn⟩ : ∃ mn, m1.length * n = mn := ⟨_, rfl⟩
        rw [hmn] at ho1 hmul ⊢
        (refine r_op ?_)
        refine o_lss rfl rfl rfl (fun h6 => ?_) (fun h6 => ?_)
        · rw [if_pos (show mn < z.length by omega)] at ho1
          have hk2 := okn_cut hk1 f (mn : Int)
          (refine r_nil ?_; refine x_true rfl ?_; refine x_seq ?_; refine x_seq (x_region ?_); refine r_op (o_move rfl rfl ?_); refine r_op (o_move rfl rfl ?_); refine r_op (o_move rfl rfl ?_))
          (refine r_op ?_)
          refine o_call rfl (cut_spec b d1 f mn (hk1.small (by omega))) rfl ?_
          rintro v B ⟨rfl, rfl⟩
          (simp only [List.cons_append, List.nil_append])
          obtain ⟨d2, e2, hd2⟩ : ∃ x y, d1.cut f mn = (x, y) := ⟨_, _, rfl⟩
          rw [hd2] at ho1 hk2 ⊢
          dsimp only at ho1 hk2 ⊢
          by_cases h7 : e2 = 0
          · subst h7
            rw [if_neg (by simp)] at ho1
            have hk3 := okn_sync hk2 f
            (refine r_op (o_assign rfl rfl ?_); refine r_nil ?_; refine x_seq (x_region ?_); refine r_op (o_move rfl rfl ?_); refine r_op (o_neq_f rfl rfl (by omega) rfl ?_); refine r_nil ?_; refine x_false rfl ?_; refine x_skip ?_; refine x_seq (x_region ?_); refine r_op (o_move rfl rfl ?_); refine r_op (o_move rfl rfl ?_))
            (refine r_op ?_)
            refine o_call rfl (sync_spec b d2 f (hk2.small (by omega))) rfl ?_
            rintro v B ⟨rfl, rfl⟩
            (simp only [List.cons_append, List.nil_append])
            obtain ⟨d3, e3, hd3⟩ : ∃ x y, d2.sync f = (x, y) := ⟨_, _, rfl⟩
            rw [hd3] at ho1 ⊢
            dsimp only at ho1 ⊢
            by_cases h8 : e3 = 0
            · subst h8
              rw [if_neg (by simp)] at ho1
              (refine r_op (o_assign rfl rfl ?_); refine r_nil ?_; refine x_seq (x_region ?_); refine r_op (o_move rfl rfl ?_); refine r_op (o_neq_f rfl rfl (by omega) rfl ?_); refine r_nil ?_; refine x_false rfl ?_; refine x_skip ?_; refine x_seq (x_region ?_); refine r_op (o_move rfl rfl ?_); refine r_op (o_assign rfl rfl ?_); refine r_op (o_assign rfl rfl ?_); refine r_nil ?_)
              exact x_ret rfl [ShelfI ps b ⟨f, n, m1, false⟩, DiskI b d3] (by rw [ho1]; exact ⟨ps, rfl, rfl⟩) ((Sub.h (Δ := Row ps 0 (shRow b f n (Value.slice a2 m1.length c2) false) :: Sl 2 a2 m1.length c2 (m1.flatMap enV) :: DiskI b d3 :: Γ)).trans ((hback _).trans Sub.h))
            · rw [if_pos h8] at ho1
              (refine r_op (o_assign rfl rfl ?_); refine r_nil ?_; refine x_seq (x_region ?_); refine r_op (o_move rfl rfl ?_); refine r_op (o_neq_t rfl rfl (by omega) rfl ?_); refine r_nil ?_; refine x_true rfl ?_; refine x_seq (x_region ?_); refine r_op (o_move rfl rfl ?_); refine r_op (o_assign rfl rfl ?_); refine r_op (o_assign rfl rfl ?_); refine r_nil ?_)
              exact x_ret rfl [DiskI b d3] (by rw [ho1]; exact ⟨rfl, rfl⟩) Sub.h
          · rw [if_pos h7] at ho1
            (refine r_op (o_assign rfl rfl ?_); refine r_nil ?_; refine x_seq (x_region ?_); refine r_op (o_move rfl rfl ?_); refine r_op (o_neq_t rfl rfl (by omega) rfl ?_); refine r_nil ?_; refine x_true rfl ?_; refine x_seq (x_region ?_); refine r_op (o_move rfl rfl ?_); refine r_op (o_assign rfl rfl ?_); refine r_op (o_assign rfl rfl ?_); refine r_nil ?_)
            exact x_ret rfl [DiskI b d2] (by rw [ho1]; exact ⟨rfl, rfl⟩) Sub.h
        · rw [if_neg (show ¬ mn < z.length by omega)] at ho1
          (refine r_nil ?_; refine x_false rfl ?_; refine x_skip ?_; refine x_seq (x_region ?_); refine r_op (o_move rfl rfl ?_); refine r_op (o_assign rfl rfl ?_); refine r_op (o_assign rfl rfl ?_); refine r_nil ?_)
          exact x_ret rfl [ShelfI ps b ⟨f, n, m1, false⟩, DiskI b d1] (by rw [ho1]; exact ⟨ps, rfl, rfl⟩) ((hback _).trans Sub.h)
      · rw [if_pos h5] at ho1
        (refine r_op (o_assign rfl rfl ?_); refine r_nil ?_; refine x_seq (x_region ?_); refine r_op (o_move rfl rfl ?_); refine r_op (o_neq_t rfl rfl (by omega) rfl ?_); refine r_nil ?_; refine x_true rfl ?_; refine x_seq (x_region ?_); refine r_op (o_move rfl rfl ?_); refine r_op (o_assign rfl rfl ?_); refine r_op (o_assign rfl rfl ?_); refine r_nil ?_)
        exact x_ret rfl [DiskI b d1] (by rw [ho1]; exact ⟨rfl, rfl⟩) Sub.h
    · (simp only [List.cons_append, List.nil_append])
      rw [hp] at ho1
      dsimp only at ho1
      (refine r_op (o_move rfl rfl ?_); refine r_op (o_extract rfl rfl rfl ?_); refine r_op (o_extract rfl rfl rfl ?_); refine r_op (o_assign rfl rfl ?_); refine r_op (o_assign rfl rfl ?_); refine r_nil ?_; refine x_seq ?_; refine x_seq (x_region ?_); refine r_op (o_move rfl rfl ?_); refine r_op (o_not rfl rfl ?_); refine r_nil ?_; refine x_true rfl ?_; refine x_seq (x_region ?_); refine r_op (o_assign rfl rfl ?_); refine r_op (o_assign rfl rfl ?_); refine r_nil ?_)
      exact x_ret rfl [DiskI b d] (by rw [ho1]; exact ⟨rfl, rfl⟩) Sub.h
  · rw [if_pos h4] at ho1
    have es1 : d.size f = (0, d.asks f) := by unfold Dk.size; rw [if_neg h4]
    rw [es1]
    (refine r_op (o_move rfl rfl ?_); refine r_op (o_extract rfl rfl rfl ?_); refine r_op (o_extract rfl rfl rfl ?_); refine r_op (o_assign rfl rfl ?_); refine r_op (o_assign rfl rfl ?_); refine r_nil ?_; refine x_seq ?_; refine x_seq (x_region ?_); refine r_op (o_move rfl rfl ?_); refine r_op (o_neq_t rfl rfl (by omega) rfl ?_); refine r_nil ?_; refine x_true rfl ?_; refine x_seq (x_region ?_); refine r_op (o_move rfl rfl ?_); refine r_op (o_assign rfl rfl ?_); refine r_op (o_assign rfl rfl ?_); refine r_nil ?_)
    exact x_ret rfl [DiskI b d] (by rw [ho1]; exact ⟨rfl, rfl⟩) Sub.h
end Go.Proofs.Ythneebbmodkjiaa
