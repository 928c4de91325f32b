/- Part of a proof over the seat Ythneebbmodkjiaa: module D8. Its claim's last module says what is proved. -/
import Derived.Test.YthneebbmodkjiaaD7
namespace Go.Proofs.Ythneebbmodkjiaa
open Go.Proofs

theorem pieces_spec (p : Int) (a : Option Addr) (len cap : Nat) : Spec Try.prog 97 [.int .i64 p, .slice a len cap] [] (fun v B => ∃ pb pa, v = .func (.func 118) #[] #[dp pb, dp pa] ∧ B = [Row pb 0 [.slice a len cap], Row pa 0 [.int .i64 p]]) := by
  refine Spec.of_ex Try.func97 rfl Try.ntmps97 rfl fun E cs Γ => ?_
  (simp only [argRho, Nat.reduceAdd, List.nil_append])
  (refine x_seq ?_); (refine x_region ?_)
  (refine r_op ?_)
  refine o_box rfl rfl rfl (fun pa => ?_)
  (refine r_op ?_)
  refine o_box rfl rfl rfl (fun pb => ?_)
  (refine r_op (o_assign rfl rfl ?_); refine r_nil ?_; refine x_seq (x_region ?_))
  (refine r_op ?_)
  refine o_makeFunc rfl rfl rfl ?_
  (refine r_op (o_assign rfl rfl ?_); refine r_nil ?_)
  exact x_ret rfl [Row pb 0 [.slice a len cap], Row pa 0 [.int .i64 p]] ⟨pb, pa, rfl, rfl⟩ Sub.h

def newChg (p : Nat) (b : List UInt8) : List Ch := (chunks b.length p b).map fun x => ⟨false, x.1, x.2⟩
def Fl.write (x : Fl) (p : Nat) (b : List UInt8) : Fl := ⟨x.safe, x.chg ++ newChg p b, over x.now p b⟩
def Dk.write (d : Dk) (f at' : Int) (b : List UInt8) : Dk × Int :=
  if d.counts f ≠ 0 then (d.step, d.counts f) else if at' < 0 ∨ ((d.file f).now.length : Int) < at' then (d.step, 1) else if 131072 - at' < b.length then (d.step, 5)
  else ({ d.step with fs := d.fs.set f.toNat ((d.file f).write at'.toNat b) }, 0)

theorem chunks_length : ∀ (n p : Nat) (b : List UInt8), (chunks n p b).length ≤ n := by
  intro n
  induction n with
  | zero => intro p b; simp [chunks]
  | succ n ih =>
    intro p b
    unfold chunks
    split
    · simp
    · have := ih (p + min (64 - p % 64) b.length) (b.drop (min (64 - p % 64) b.length))
      simp; omega
/-- Small enough. -/
def Dk.small (d : Dk) : Prop := ∀ x ∈ d.fs, x.now.length ≤ 2 ^ 40 ∧ x.safe.length ≤ 2 ^ 40 ∧ x.chg.length ≤ 2 ^ 40
theorem LX.small {d : Dk} (fs : LX d) (h : d.small) {i : Nat} (hi : i < 8) : (fs.1[i]'(fs.len hi)).now.2.2.length ≤ 2 ^ 40 ∧ (fs.1[i]'(fs.len hi)).safe.2.2.length ≤ 2 ^ 40 ∧ (fs.1[i]'(fs.len hi)).chg.length ≤ 2 ^ 40 := by
  have h1 : (fs.1[i]'(fs.len hi)).abs ∈ fabs fs.1 := List.mem_map_of_mem (List.getElem_mem _)
  rw [fs.2.1] at h1
  have := h _ h1
  simpa [FX.abs] using this

theorem chunks_le : ∀ (n p : Nat) (b : List UInt8), ∀ x ∈ chunks n p b, x.2.length ≤ b.length ∧ p ≤ x.1 ∧ x.1 + x.2.length ≤ p + b.length := by
  intro n
  induction n with
  | zero => intro p b x hx; simp [chunks] at hx
  | succ n ih =>
    intro p b x hx
    unfold chunks at hx
    split at hx
    · simp at hx
    · rw [List.mem_cons] at hx
      rcases hx with rfl | hx
      · simp; omega
      · have := ih _ _ x hx
        simp at this
        omega
/-- A file whose changes are being written. -/
def WrI (b i : Nat) (s n : Value) (l : List Ch) : HP := Any fun q : Option Addr × Nat × List CX => Fact (q.2.2.map CX.abs = l) (Sep [Row b (i * 3) [s, .slice q.1 q.2.2.length q.2.1, n], Sl 3 q.1 q.2.2.length q.2.1 (q.2.2.flatMap CX.cells), Inn (q.2.2.map CX.s)])
theorem St.wri {E : Env} {b i : Nat} {s n : Value} {l : List Ch} {Γ : List HP} {w : World} (st : St E (WrI b i s n l :: Γ) w) :
    ∃ q : { q : Option Addr × Nat × List CX // q.2.2.map CX.abs = l }, St E (Row b (i * 3) [s, .slice q.1.1 q.1.2.2.length q.1.2.1, n] :: Sl 3 q.1.1 q.1.2.2.length q.1.2.1 (q.1.2.2.flatMap CX.cells) :: Inn (q.1.2.2.map CX.s) :: Γ) w := by
  obtain ⟨q, st⟩ := st.ex
  obtain ⟨h, st⟩ := st.fact
  exact ⟨⟨q, h⟩, (Ent.sep_out [_, _, _] Γ).st st⟩
theorem Ent.wri {b i : Nat} {s n : Value} {l : List Ch} {ca : Option Addr} {cc : Nat} {chg : List CX} (h : chg.map CX.abs = l) (Γ : List HP) :
    Ent (Row b (i * 3) [s, .slice ca chg.length cc, n] :: Sl 3 ca chg.length cc (chg.flatMap CX.cells) :: Inn (chg.map CX.s) :: Γ) (WrI b i s n l :: Γ) := by
  refine (Ent.sep_in [_, _, _] Γ).trans ((Ent.fact h Γ).trans ?_)
  exact Ent.ex (A := fun q : Option Addr × Nat × List CX => Fact (q.2.2.map CX.abs = l) (Sep [Row b (i * 3) [s, .slice q.1 q.2.2.length q.2.1, n], Sl 3 q.1 q.2.2.length q.2.1 (q.2.2.flatMap CX.cells), Inn (q.2.2.map CX.s)])) (ca, cc, chg) Γ
theorem Ent.chg_snoc {c : Bool} {p : Nat} {a3 a1 : Option Addr} {c3 c1 : Nat} {chg : List CX} {bs : List UInt8} (Γ : List HP) :
    Ent (Sl 3 a3 (chg.length + 1) c3 (chg.flatMap CX.cells ++ [.bool c, .int .i64 p, .slice a1 bs.length c1]) :: Sl 1 a1 bs.length c1 (bs.map bv) :: Inn (chg.map CX.s) :: Γ)
      (Sl 3 a3 (chg ++ [CX.mk c p (a1, c1, bs)]).length c3 ((chg ++ [CX.mk c p (a1, c1, bs)]).flatMap CX.cells) :: Inn ((chg ++ [CX.mk c p (a1, c1, bs)]).map CX.s) :: Γ) := by
  have e1 : (chg ++ [CX.mk c p (a1, c1, bs)]).length = chg.length + 1 := by simp
  have e2 : (chg ++ [CX.mk c p (a1, c1, bs)]).flatMap CX.cells = chg.flatMap CX.cells ++ [.bool c, .int .i64 p, .slice a1 bs.length c1] := by simp [CX.cells]
  have e3 : (chg ++ [CX.mk c p (a1, c1, bs)]).map CX.s = chg.map CX.s ++ [(a1, c1, bs)] := by simp
  rw [e1, e2, e3]
  exact Ent.cons _ (Ent.inn_snoc (a1, c1, bs) (chg.map CX.s) Γ)
theorem step_eta (d : Dk) : (⟨d.fs, d.step.off, d.step.uo, d.step.ub⟩ : Dk) = d.step := by
  obtain ⟨_, _, _, s4⟩ := step_flags d
  cases hd : d.step
  rw [hd] at s4
  simp at s4
  rw [s4]
theorem write_spec {A : HP} (b : Nat) (d : Dk) (f at' : Int) {a : Option Addr} {cap : Nat} {bs : List UInt8} (R : Reads A 1 a bs.length (bs.map bv)) (hcap : bs.length ≤ cap) (hs : d.small) :
    Spec Try.prog 31 [dp b, .int .i64 f, .int .i64 at', .slice a bs.length cap] [DiskI b d, A] (fun v B => v = .int .i64 (d.write f at' bs).2 ∧ B = [DiskI b (d.write f at' bs).1, A]) := by
  refine Spec.of_ex Try.func31 rfl Try.ntmps31 rfl fun E cs Γ => ?_
  (simp only [argRho, Nat.reduceAdd, List.cons_append, List.nil_append])
  refine x_open (fun E w s => s.disk) fun fs => ?_
  obtain ⟨s1, s2, s3, s4⟩ := step_flags d
  have hle := step_le fs.2.2.2
  (refine x_seq (x_region ?_); refine r_op (o_assign rfl rfl ?_); refine r_nil ?_; refine x_seq ?_; refine x_seq (x_region ?_); refine r_op (o_move rfl rfl ?_); refine r_op (o_move rfl rfl ?_))
  (refine r_op ?_)
  refine o_call rfl (counts_spec b d.off d.uo d.ub f fs.2.2.2.1 fs.2.2.2.2) rfl ?_
  rintro v B ⟨rfl, rfl⟩
  (simp only [List.cons_append, List.nil_append])
  rw [counts_flags, s1, s2, s3]
  have hd0 : ∀ Θ, Ent (Flags b d.step.off d.step.uo d.step.ub :: FilesX b fs.1 :: Θ) (DiskI b d.step :: Θ) := fun Θ => by
    have := Ent.diskF (b := b) (o := d.step.off) fs hle.1 hle.2 Θ
    rw [step_eta] at this; exact this
  by_cases h : d.counts f = 0
  · obtain ⟨h0, i, rfl, hi⟩ := counts_nz h
    rw [h]
    (refine r_op (o_assign rfl rfl ?_); refine r_nil ?_; refine x_seq (x_region ?_); refine r_op (o_move rfl rfl ?_); refine r_op (o_neq_f rfl rfl (by omega) rfl ?_); refine r_nil ?_; refine x_false rfl ?_; refine x_skip ?_; refine x_seq (x_region ?_); refine r_op (o_move rfl rfl ?_); refine r_op (o_move rfl rfl ?_); refine r_op (o_nilCheck rfl rfl ?_); refine r_op (o_fieldAddr rfl rfl ?_))
    refine r_mem (Ent.open fs hi _ (A :: Γ)) ?_
    have hg := fs.get hi
    have hsm := fs.small hs hi
    have hshut := fun Θ => Ent.shut (b := b) (o := d.step.off) fs hi hle.1 hle.2 Θ
    have hclose := fun y Θ => Ent.close (b := b) (o := d.step.off) fs hi y hle.1 hle.2 Θ
    obtain ⟨x, hx⟩ : ∃ x, (fs.1[i]'(fs.len hi)) = x := ⟨_, rfl⟩
    have hnow : (d.file i).now = x.now.2.2 := by rw [hg, hx]; rfl
    rw [hx] at hshut hsm ⊢
    (refine r_op ?_)
    refine o_indexA rfl rfl (j := i) rfl hi rfl ?_
    (refine r_op ?_)
    refine o_alloc rfl (fun px => ?_)
    (refine r_do ?_)
    ((refine o_store rfl rfl rfl rfl (by simp) ?_; try dsimp only [Nat.reduceSub, Nat.reduceAdd, List.set]))
    (refine r_nil ?_; refine x_seq ?_; refine x_block ?_; refine x_seq (x_region ?_); refine r_op (o_move rfl rfl ?_))
    have hr1 : ∀ e : Int, (d.write i at' bs) = (d.step, e) → Ent (Row px 0 [.pointer (some ⟨b, 0 + 0 + i * 3, none⟩)] :: Row b (i * 3) x.cells :: sp x.safe :: sp x.now :: Sl 3 x.ca x.chg.length x.cc (List.flatMap CX.cells x.chg) :: Inn (List.map CX.s x.chg) :: Hole (FileI b) fs.val i :: Hid (Flags b d.step.off d.step.uo d.step.ub) :: A :: Γ) (DiskI b (d.write i at' bs).1 :: A :: Γ) := by
      intro e he
      rw [he]
      have := hshut (A :: Γ)
      rw [step_eta] at this
      exact (Ent.drop _ _).trans this
    by_cases h1 : at' < 0
    · (refine r_op (o_lss_t rfl rfl (by omega) rfl ?_); refine r_op (o_move rfl rfl ?_); refine r_skip rfl rfl rfl ?_; refine r_skip rfl rfl rfl ?_; refine r_skip rfl rfl rfl ?_; refine r_skip rfl rfl rfl ?_; refine r_skip rfl rfl rfl ?_; refine r_skip rfl rfl rfl ?_; refine r_skip rfl rfl rfl ?_; refine r_op (o_pick_t rfl rfl rfl ?_); refine r_op (o_assign rfl rfl ?_); refine r_nil ?_; refine x_true rfl ?_; refine x_seq (x_region ?_); refine r_op (o_assign rfl rfl ?_); refine r_nil ?_)
      have e : d.write i at' bs = (d.step, 1) := by unfold Dk.write; rw [if_neg (by simpa using h), if_pos (.inl h1)]
      exact x_ret rfl [DiskI b (d.write i at' bs).1, A] ⟨by rw [e]; rfl, rfl⟩ ((hr1 _ e).trans Sub.h)
    · by_cases h2 : (x.now.2.2.length : Int) < at'
      · (refine r_op (o_lss_f rfl rfl (by omega) rfl ?_); refine r_op (o_move rfl rfl ?_); refine r_guard rfl (o_move rfl rfl ?_); refine r_guard rfl (o_load rfl rfl rfl rfl ?_); refine r_guard rfl (o_nilCheck rfl rfl ?_); refine r_guard rfl (o_fieldAddr rfl rfl ?_); refine r_guard rfl (o_loadI (i := 2) rfl (by omega) rfl rfl ?_); refine r_guard rfl (o_lenS rfl rfl ?_); refine r_guard rfl (o_gtr_t rfl rfl (by omega) rfl ?_); refine r_op (o_pick_f rfl rfl rfl ?_); refine r_op (o_assign rfl rfl ?_); refine r_nil ?_; refine x_true rfl ?_; refine x_seq (x_region ?_); refine r_op (o_assign rfl rfl ?_); refine r_nil ?_)
        have e : d.write i at' bs = (d.step, 1) := by unfold Dk.write; rw [if_neg (by simpa using h), if_pos (.inr (by rw [hnow]; exact h2))]
        exact x_ret rfl [DiskI b (d.write i at' bs).1, A] ⟨by rw [e]; rfl, rfl⟩ ((hr1 _ e).trans Sub.h)
      · by_cases h3 : 131072 - at' < (bs.length : Int)
        · (refine r_op (o_lss_f rfl rfl (by omega) rfl ?_); refine r_op (o_move rfl rfl ?_); refine r_guard rfl (o_move rfl rfl ?_); refine r_guard rfl (o_load rfl rfl rfl rfl ?_); refine r_guard rfl (o_nilCheck rfl rfl ?_); refine r_guard rfl (o_fieldAddr rfl rfl ?_); refine r_guard rfl (o_loadI (i := 2) rfl (by omega) rfl rfl ?_); refine r_guard rfl (o_lenS rfl rfl ?_); refine r_guard rfl (o_gtr_f rfl rfl (by omega) rfl ?_); refine r_op (o_pick_f rfl rfl rfl ?_); refine r_op (o_assign rfl rfl ?_); refine r_nil ?_; refine x_false rfl ?_; refine x_seq (x_region ?_); refine r_op (o_move rfl rfl ?_); refine r_op (o_lenS rfl rfl ?_); refine r_op (o_move rfl rfl ?_); refine r_op (o_sub rfl rfl (sub_i64 (by omega)) rfl ?_); refine r_op (o_gtr_t rfl rfl (by omega) rfl ?_); refine r_op (o_assign rfl rfl ?_); refine r_nil ?_; refine x_true rfl ?_; refine x_seq (x_region ?_); refine r_op (o_assign rfl rfl ?_); refine r_nil ?_)
          have e : d.write i at' bs = (d.step, 5) := by unfold Dk.write; rw [if_neg (by simpa using h), if_neg (by rw [hnow]; omega), if_pos h3]
          exact x_ret rfl [DiskI b (d.write i at' bs).1, A] ⟨by rw [e]; rfl, rfl⟩ ((hr1 _ e).trans Sub.h)
        · obtain ⟨p, rfl⟩ : ∃ p : Nat, at' = p := ⟨at'.toNat, by omega⟩
          have e : d.write i p bs = ({ d.step with fs := d.fs.set i (x.abs.write p bs) }, 0) := by
            unfold Dk.write; rw [if_neg (by simpa using h), if_neg (by rw [hnow]; omega), if_neg h3]; rw [hg, hx]; simp
          have hbl : bs.length ≤ 131072 := by omega
          have hpl : p ≤ 2 ^ 40 := by omega
          have hck := chunks_length bs.length p bs
          obtain ⟨hpc, hpg⟩ := pcs_get bs.length p bs a cap R hcap
          (refine r_op (o_lss_f rfl rfl (by omega) rfl ?_); refine r_op (o_move rfl rfl ?_); refine r_guard rfl (o_move rfl rfl ?_); refine r_guard rfl (o_load rfl rfl rfl rfl ?_); refine r_guard rfl (o_nilCheck rfl rfl ?_); refine r_guard rfl (o_fieldAddr rfl rfl ?_); refine r_guard rfl (o_loadI (i := 2) rfl (by omega) rfl rfl ?_); refine r_guard rfl (o_lenS rfl rfl ?_); refine r_guard rfl (o_gtr_f rfl rfl (by omega) rfl ?_); refine r_op (o_pick_f rfl rfl rfl ?_); refine r_op (o_assign rfl rfl ?_); refine r_nil ?_; refine x_false rfl ?_; refine x_seq (x_region ?_); refine r_op (o_move rfl rfl ?_); refine r_op (o_lenS rfl rfl ?_); refine r_op (o_move rfl rfl ?_); refine r_op (o_sub rfl rfl (sub_i64 (by omega)) rfl ?_); refine r_op (o_gtr_f rfl rfl (by omega) rfl ?_); refine r_op (o_assign rfl rfl ?_); refine r_nil ?_; refine x_false rfl ?_; refine x_skip ?_; refine x_inBlock ?_; refine x_seq ?_; refine x_seq (x_region ?_); refine r_op (o_move rfl rfl ?_); refine r_op (o_move rfl rfl ?_))
          (refine r_op ?_)
          refine o_call rfl (pieces_spec p a bs.length cap) rfl ?_
          rintro v B ⟨pb, pa, rfl, rfl⟩
          (simp only [List.cons_append, List.nil_append])
          (refine r_nil ?_; refine x_block ?_)
          refine x_mem (Ent.marks0 _) ?_
          refine x_range (Ds := []) rfl rfl (pieces_iter pb pa p bs a cap hcap (by omega))
            (fun j => [WrI b i (sv x.safe) (sv x.now) (x.chg.map CX.abs ++ (newChg p bs).take j), A, Row px 0 [.pointer (some ⟨b, 0 + i * 3, none⟩)]])
            (fun _ _ => [Fact False Emp]) (Δ2 := sp x.safe :: sp x.now :: Hole (FileI b) fs.val i :: Hid (Flags b d.step.off d.step.uo d.step.ub) :: Γ) ?_ (by rfl) ?_ ?_ ?_ ?_
          · refine (Sub.h (Δ := Row b (i * 3) [sv x.safe, .slice x.ca x.chg.length x.cc, sv x.now] :: Sl 3 x.ca x.chg.length x.cc (x.chg.flatMap CX.cells) :: Inn (x.chg.map CX.s) :: A :: Row px 0 [.pointer (some ⟨b, 0 + i * 3, none⟩)] :: sp x.safe :: sp x.now :: Hole (FileI b) fs.val i :: Hid (Flags b d.step.off d.step.uo d.step.ub) :: Γ)).trans ?_
            exact (Ent.wri (l := x.chg.map CX.abs ++ (newChg p bs).take 0) (by simp) _).trans Sub.h
          · intro j vs hj
            obtain ⟨y, a', c', _, rfl, _⟩ := hpg j vs hj
            rfl
          · intro j vs hj
            obtain ⟨y, a', c', hy, rfl, R', hc'⟩ := hpg j vs hj
            intro Y l r Θ hfn hro hend hexit hret
            (refine x_seq (x_region ?_); refine r_op (o_assign rfl rfl ?_); refine r_nil ?_; refine x_region ?_; refine r_op (o_assign rfl rfl ?_); refine r_nil ?_)
            refine x_beginRound (r := r) hro ?_
            refine x_mem (Γ' := WrI b i (sv x.safe) (sv x.now) (x.chg.map CX.abs ++ (newChg p bs).take j) :: Rec l r .busy none :: A :: Row px 0 [.pointer (some ⟨b, 0 + i * 3, none⟩)] :: Θ) (by (simp only [List.cons_append, List.nil_append]); exact Sub.h) ?_
            refine x_open (fun E w s => s.wri) ?_
            rintro ⟨⟨ca, cc, chg⟩, hchg⟩
            dsimp only at hchg ⊢
            have hlc : chg.length ≤ 2 ^ 40 + 131072 := by
              have := congrArg List.length hchg
              simp [newChg] at this
              omega
            have hjl : j < (chunks bs.length p bs).length := (List.getElem?_eq_some_iff.1 hy).1
            have hyl : y.2.length ≤ 2 ^ 45 := by
              have := chunks_le bs.length p bs y (List.mem_of_getElem? hy)
              omega
            (refine x_block ?_)
            refine x_script 13 [(0,false),(1,false),(2,false),(3,false),(4,false),(5,false),(6,false),(11,false),(12,false),(7,true),(8,false),(9,true),(10,true),(13,true)] [Row b (i * 3) [sv x.safe, .slice ca chg.length cc, sv x.now], Row px 0 [.pointer (some ⟨b, 0 + i * 3, none⟩)]] mixed (by kernel_rfl) permF ?_
            (refine s_v rfl (v_load rfl rfl rfl) ?_)
            (refine s_v rfl (v_load rfl rfl rfl) ?_)
            (refine s_v rfl (v_nilCheck rfl) ?_)
            (refine s_v rfl (v_fieldAddr rfl) ?_)
            refine s_v rfl (v_loadI (i := 1) rfl (by omega) rfl) ?_
            (refine s_v rfl (v_move rfl) ?_)
            (refine s_v rfl (v_move rfl) ?_)
            (refine s_v rfl (v_nilCheck rfl) ?_)
            (refine s_v rfl (v_fieldAddr rfl) ?_)
            refine s_x rfl (o_call rfl (clone_spec R' hyl) rfl ?_)
            rintro v B ⟨a1, c1, rfl, rfl⟩
            refine ⟨permF, ?_⟩
            (simp only [List.cons_append, List.nil_append])
            refine s_v rfl (v_build rfl (by rfl)) ?_
            refine s_x rfl (o_buildSlice rfl (by rfl) (by rfl) (by rfl) (by rfl) rfl (fun a2 => ?_))
            refine ⟨permF, ?_⟩
            refine s_x rfl (o_appendT rfl rfl (by rfl) (by rfl) (by rfl) (by omega) rfl (fun a3 c3 hc => ?_))
            refine ⟨permF, ?_⟩
            refine s_xt rfl rfl ?_
            refine o_storeI (i := 1) rfl rfl rfl (by omega) rfl ?_
            dsimp only [List.set]
            refine s_end rfl ?_
            (refine x_inBlock ?_)
            refine x_mem ?_ (hend _)
            refine (Sub.h (Δ := Sl 3 a3 (chg.length + 1) c3 (chg.flatMap CX.cells ++ [.bool false, .int .i64 y.1, .slice a1 y.2.length c1]) :: Sl 1 a1 y.2.length c1 (y.2.map bv) :: Inn (chg.map CX.s) :: Row b (i * 3) [sv x.safe, .slice a3 (chg.length + 1) c3, sv x.now] :: Rec l r .busy none :: A :: Row px 0 [.pointer (some ⟨b, 0 + i * 3, none⟩)] :: Θ)).trans ?_
            refine (Ent.chg_snoc _).trans ?_
            have e1 : chg.length + 1 = (chg ++ [CX.mk false y.1 (a1, c1, y.2)]).length := by simp
            rw [e1]
            refine (Sub.h (Δ := Row b (i * 3) [sv x.safe, .slice a3 (chg ++ [CX.mk false y.1 (a1, c1, y.2)]).length c3, sv x.now] :: Sl 3 a3 (chg ++ [CX.mk false y.1 (a1, c1, y.2)]).length c3 ((chg ++ [CX.mk false y.1 (a1, c1, y.2)]).flatMap CX.cells) :: Inn ((chg ++ [CX.mk false y.1 (a1, c1, y.2)]).map CX.s) :: Rec l r .busy none :: A :: Row px 0 [.pointer (some ⟨b, 0 + i * 3, none⟩)] :: Θ)).trans ?_
            refine (Ent.wri (l := x.chg.map CX.abs ++ (newChg p bs).take (j + 1)) ?_ _).trans (by (simp only [List.cons_append, List.nil_append]); exact Sub.h)
            have hnj : (newChg p bs)[j]? = some ⟨false, y.1, y.2⟩ := by unfold newChg; rw [List.getElem?_map, hy]; rfl
            rw [List.map_append, hchg, List.take_add_one, hnj]
            simp [CX.abs]
          · intro D
            (refine x_inBlock ?_; refine x_seq ?_)
            refine x_mem (Γ' := WrI b i (sv x.safe) (sv x.now) (x.chg.map CX.abs ++ (newChg p bs).take (pcs bs.length p bs a cap).length) :: Marks [D] :: A :: Row px 0 [.pointer (some ⟨b, 0 + i * 3, none⟩)] :: sp x.safe :: sp x.now :: Hole (FileI b) fs.val i :: Hid (Flags b d.step.off d.step.uo d.step.ub) :: Γ) (by (simp only [List.cons_append, List.nil_append]); exact Sub.h) ?_
            refine x_open (fun E w s => s.wri) ?_
            rintro ⟨⟨ca, cc, chg⟩, hchg⟩
            dsimp only at hchg ⊢
            refine x_script 10 [(0,false),(1,false),(2,false),(3,false),(4,false),(5,false),(6,false),(8,false),(9,false),(7,true),(10,true)] [Row b (i * 3) [sv x.safe, .slice ca chg.length cc, sv x.now], Row px 0 [.pointer (some ⟨b, 0 + i * 3, none⟩)]] mixed (by kernel_rfl) permF ?_
            (refine s_v rfl (v_load rfl rfl rfl) ?_)
            (refine s_v rfl (v_load rfl rfl rfl) ?_)
            (refine s_v rfl (v_nilCheck rfl) ?_)
            (refine s_v rfl (v_fieldAddr rfl) ?_)
            refine s_v rfl (v_loadI (i := 2) rfl (by omega) rfl) ?_
            (refine s_v rfl (v_move rfl) ?_)
            (refine s_v rfl (v_move rfl) ?_)
            (refine s_v rfl (v_nilCheck rfl) ?_)
            (refine s_v rfl (v_fieldAddr rfl) ?_)
            refine s_x rfl (o_call rfl (laid_spec R hsm.1 hpl (by omega) hcap) rfl ?_)
            rintro v B ⟨a1, c1, rfl, rfl⟩
            refine ⟨permF, ?_⟩
            (simp only [List.cons_append, List.nil_append])
            refine s_xt rfl rfl ?_
            refine o_storeI (i := 2) rfl rfl rfl (by omega) rfl ?_
            dsimp only [List.set]
            refine s_end rfl ?_
            (refine x_seq (x_region ?_); refine r_op (o_assign rfl rfl ?_); refine r_nil ?_)
            refine x_retM rfl [DiskI b (d.write i p bs).1, A] ⟨by rw [e]; rfl, rfl⟩ ?_
            refine (Sub.h (Δ := Row b (i * 3) [sv x.safe, .slice ca chg.length cc, sv (a1, c1, over x.now.2.2 p bs)] :: sp x.safe :: sp (a1, c1, over x.now.2.2 p bs) :: Sl 3 ca chg.length cc (chg.flatMap CX.cells) :: Inn (chg.map CX.s) :: Hole (FileI b) fs.val i :: Hid (Flags b d.step.off d.step.uo d.step.ub) :: A :: Γ)).trans ?_
            have := hclose ⟨x.safe, ca, cc, chg, (a1, c1, over x.now.2.2 p bs)⟩ (A :: Γ)
            refine this.trans ?_
            have e2 : FX.abs ⟨x.safe, ca, cc, chg, (a1, c1, over x.now.2.2 p bs)⟩ = x.abs.write p bs := by
              unfold FX.abs Fl.write
              rw [hchg, hpc, List.take_of_length_le (by simp [newChg])]
            rw [e2, e]
            exact Sub.h
          · intro D c j
            refine x_mem (Ent.perm (.swap _ _ _)) ?_
            refine x_fact (p := False) (fun E w s => s.fact.1) fun h => h.elim
  · (refine r_op (o_assign rfl rfl ?_); refine r_nil ?_; refine x_seq (x_region ?_); refine r_op (o_move rfl rfl ?_); refine r_op (o_neq_t rfl rfl (by omega) rfl ?_); refine r_nil ?_; refine x_true rfl ?_; refine x_seq (x_region ?_); refine r_op (o_move rfl rfl ?_); refine r_op (o_assign rfl rfl ?_); refine r_nil ?_)
    refine x_ret rfl [DiskI b d.step, A] ⟨by simp [retV, Dk.write, h], by simp [Dk.write, h]⟩ ((hd0 _).trans Sub.h)
end Go.Proofs.Ythneebbmodkjiaa
