/- Part of a proof over the seat Ythneebbmodkjiaa: module D13. Its claim's last module says what is proved. -/
import Derived.Test.YthneebbmodkjiaaD12
namespace Go.Proofs.Ythneebbmodkjiaa
open Go.Proofs

section
variable {P : Program} {X : Cx} {n : Nat} {ds : List Deferred} {ρ : Rho} {Γ : List HP} {Nx : Value → List HP → Prop} {d : Nat} {ty : TypeId}
/-- A block of one's own, cell by cell. -/
theorem St.whole_row {E : Env} {Γ : List HP} {w : World} {b lo hi : Nat} {vs : List Value} {T : TypeId} (s : St E (Whole b (.cells vs.toArray T (lo, hi)) :: Γ) w) (hf : ∀ i, i < vs.length → ¬ (lo ≤ i ∧ i < hi)) : St E (Row b 0 vs :: Γ) w := by
  have hb := s.whole_get
  obtain ⟨e, _, ⟨a, r, rfl, hr, d, rfl⟩, H⟩ := s
  have hrb : ∀ y, r b y = none := fun y => by
    apply Classical.byContradiction; intro hn
    exact (d b none y (by simp) hn).2.1 rfl
  refine ⟨e, _, ⟨_, r, rfl, hr, ?_, rfl⟩, ?_⟩
  · intro k x y hx hy
    cases x with
    | none => exact absurd rfl hx
    | some i =>
      obtain ⟨f, hf'⟩ := Option.ne_none_iff_exists'.1 hx
      obtain ⟨rfl, _⟩ := row_some hf'
      exact absurd (hrb y) hy
  · intro k x f hf'
    unfold PH.join at hf'
    cases hrow : row b 0 vs k x with
    | none => rw [hrow] at hf'; exact H.right d k x f (by simpa using hf')
    | some f' =>
      rw [hrow] at hf'
      obtain rfl : f' = f := by simpa using hf'
      cases x with
      | none => cases hrow
      | some i =>
        obtain ⟨rfl, _, v, hv, rfl⟩ := row_some hrow
        rw [Nat.sub_zero] at hv
        have hi := (List.getElem?_eq_some_iff.1 hv).1
        refine ⟨?_, ?_⟩
        · simp only [World.cell?]; rw [hb]; simpa using hv
        · simp only [World.frozen?]; rw [hb]; have := hf i hi; simp; omega

theorem o_buildSliceW {t e s y m : Nat} {parts : List (Nat × Operand)} {vs : List (Nat × Value)} {zv cs : List Value} [T : TySlice P t e s y] [Z : TyZero P e zv] (hx : evP ρ parts = some vs) (hzl : zv.length = s) (hm : Nat.ble (m * s) 16777216 = true)
    (hf : fillL (fun i => some (i * s, s)) (zs zv m) vs = some cs) (hn : Nat.blt d n = true)
    (h : ∀ b, Nx (.slice (some ⟨b, 0, none⟩) m m) (Whole b (.cells cs.toArray e (0, 0)) :: Γ)) : ExO P X n ds (some d) (.buildSlice t m parts.toArray) ty Nx ρ Γ :=
  o_value (by simp) hn fun ee o w hop hty he heL hs => by
    obtain ⟨i, z, hi, hz, hzz⟩ := Z.h
    obtain ⟨hu, inf, hinf, hsz, hby⟩ := T.und
    rw [hi] at hinf; cases hinf
    have h2 := fillL_eq hf
    have h3 : (List.map (fun x : Nat × Operand => (x.1, ee x.2)) parts) = vs := evP_eq he hx
    have hle := Nat.le_of_ble_eq_true hm
    have s1 := hs.alloc_whole (.cells cs.toArray e (0, 0))
    have hzs : z.cells.size = s := by rw [← hzl, ← hzz]; simp
    refine ⟨.slice (some ⟨w.heap.size, 0, none⟩) m m, _, Whole w.heap.size (.cells cs.toArray e (0, 0)) :: Γ, ?_, s1, h _⟩
    have hzc : ((Array.range (m * s)).map (z.cells[· % z.cells.size]!)).toList = zs zv m := by
      have := zeroCells_toList z.cells m
      rw [hzz] at this
      rw [← this]
      simp [Builtin.zeroCells, hzs]
    have h4 : (Array.range (m * s)).map (z.cells[· % z.cells.size]!) = (zs zv m).toArray := by rw [← hzc]
    by_cases h0 : m * s = 0
    · have e0 : zs zv m = [] := by
        apply List.length_eq_zero_iff.1; rw [zs_length, hzl]; exact h0
      rw [e0] at h2
      simp [execOp, hop, Instr.buildSlice, underlying_run hu, sizeOf_run hi, hsz, h0, h3]
      rw [map_range0, h2]
      simp [newRow]
    · have h5 : ¬ (16777216 < m * s) := by omega
      simp [execOp, hop, Instr.buildSlice, underlying_run hu, sizeOf_run hi, hsz, h0, h3, h5, zeroValue, typeInfo_run hi, hz]
      rw [h4, h2]
      simp [newRow]
/-- A literal of bytes that has just been made. -/
theorem o_convW {src e y b len : Nat} {x : Operand} {vs : List Value} {Δ : List HP} [T : TySlice P src e 1 y] [U : TyU8 P e] (hx : ev ρ x = some (.slice (some ⟨b, 0, none⟩) len len)) [K : Take Γ (Whole b (.cells vs.toArray e (0, 0))) Δ] (hl : vs.length = len) (hn : Nat.blt d n = true)
    (h : Nx (.slice (some ⟨b, 0, none⟩) len len) (Sl 1 (some ⟨b, 0, none⟩) len len vs :: Δ)) : ExO P X n ds (some d) (.convert src src x) ty Nx ρ Γ :=
  o_value (by simp) hn fun ee o w hop hty he heL hs => by
    have s0 := hs.perm K.h
    have hb := s0.whole_get
    have s1 := s0.whole_set (.cells vs.toArray e (len, len + 1)) (w.freeze ⟨b, len, none⟩ 1) (by
      simp only [World.freeze, if_neg (Nat.one_ne_zero)]
      congr 1
      apply Array.ext_getElem?
      intro k
      rw [Array.getElem?_modify, Array.getElem?_setIfInBounds]
      by_cases hk : b = k
      · subst hk
        have hlt := (Array.getElem?_eq_some_iff.1 hb).1
        rw [if_pos rfl, if_pos rfl, hb, if_pos hlt]
        rfl
      · rw [if_neg hk, if_neg hk])
    have s2 := s1.whole_row (fun i hi => by omega)
    refine ⟨_, w.freeze ⟨b, len, none⟩ 1, _, ?_, St.sl_join (junk := []) (by simpa using hl) (by simpa using hl) (Nat.le_refl _) (by simpa using s2), h⟩
    have hsh : w.shape? b = some (e, len) := by
      simp only [World.shape?, hb]; simp [hl]
    simp [execOp, hop, he x _ hx, convert, underlying_run T.und.1, underlying_run U.h, markStringish, hsh]
end

/-- Within bounds: n calls, at most, have changed it since it was new. -/
def Fl.okn (n : Nat) (x : Fl) : Prop := x.now.length ≤ 131072 ∧ x.safe.length ≤ 131072 ∧ (∀ c ∈ x.chg, c.at' + c.b.length ≤ 131072) ∧ x.chg.length ≤ n * 131073
def Dk.okn (n : Nat) (d : Dk) : Prop := d.fs.length = 8 ∧ ∀ x ∈ d.fs, x.okn n
theorem Fl.okn.mono {n m : Nat} {x : Fl} (h : x.okn n) (hm : n ≤ m) : x.okn m := ⟨h.1, h.2.1, h.2.2.1, Nat.le_trans h.2.2.2 (Nat.mul_le_mul_right _ hm)⟩
theorem Dk.okn.mono {n m : Nat} {d : Dk} (h : d.okn n) (hm : n ≤ m) : d.okn m := ⟨h.1, fun x hx => (h.2 x hx).mono hm⟩
theorem Dk.okn.small {n : Nat} {d : Dk} (h : d.okn n) (hn : n ≤ 2 ^ 20) : d.small := fun x hx => by
  obtain ⟨a, b, _, c⟩ := h.2 x hx
  have := Nat.mul_le_mul_right 131073 hn
  exact ⟨by omega, by omega, by omega⟩
theorem Dk.okn.fit {n : Nat} {d : Dk} (h : d.okn n) (hn : n ≤ 2 ^ 20) : d.fit := fun x hx => by
  obtain ⟨a, b, c, e⟩ := h.2 x hx
  have := Nat.mul_le_mul_right 131073 hn
  exact ⟨by omega, fun y hy => by have := c y hy; omega, by omega⟩
theorem Dk.okn.fs {n : Nat} {d : Dk} (h : d.okn n) (d' : Dk) (e : d'.fs = d.fs) : d'.okn n := ⟨by rw [e]; exact h.1, by rw [e]; exact h.2⟩
theorem Dk.okn.set {n : Nat} {d : Dk} (h : d.okn n) (d' : Dk) (i : Nat) (y : Fl) (hy : y.okn n) (e : d'.fs = d.fs.set i y) : d'.okn n := by
  refine ⟨by rw [e]; simpa using h.1, fun x hx => ?_⟩
  rw [e] at hx
  rcases List.mem_or_eq_of_mem_set hx with hx | rfl
  · exact h.2 x hx
  · exact hy
theorem Dk.okn.file {n : Nat} {d : Dk} (h : d.okn n) (f : Int) : (d.file f).okn n := by
  unfold Dk.file
  rw [List.getD_eq_getElem?_getD]
  cases hf : d.fs[f.toNat]? with
  | none => exact ⟨Nat.zero_le _, Nat.zero_le _, fun c hc => (by cases hc), Nat.zero_le _⟩
  | some x => exact h.2 x (List.mem_of_getElem? hf)
theorem step_fs (d : Dk) : d.step.fs = d.fs := (step_flags d).2.2.2
theorem okn_new (l : List (List UInt8)) (h : may l = true) : (newD l).okn 0 := by
  unfold may at h
  simp only [Bool.and_eq_true, Bool.or_eq_true, beq_iff_eq, List.all_eq_true, decide_eq_true_eq] at h
  obtain ⟨h1, h2⟩ := h
  refine ⟨by simp [newD, newP]; omega, fun x hx => ?_⟩
  simp only [newD, newP, List.take_length, List.mem_append, List.mem_map, List.mem_replicate] at hx
  rcases hx with ⟨b, hb, rfl⟩ | ⟨_, rfl⟩
  · exact ⟨h2 b hb, h2 b hb, fun c hc => (by cases hc), Nat.zero_le _⟩
  · exact ⟨Nat.zero_le _, Nat.zero_le _, fun c hc => (by cases hc), Nat.zero_le _⟩
theorem okn_write {n : Nat} {d : Dk} (h : d.okn n) (f p : Int) (b : List UInt8) : (d.write f p b).1.okn (n + 1) := by
  have h' := h.mono (Nat.le_add_right n 1)
  unfold Dk.write
  split
  · exact h'.fs _ (step_fs d)
  · split
    · exact h'.fs _ (step_fs d)
    · split
      · exact h'.fs _ (step_fs d)
      · rename_i h1 h2 h3
        refine h'.set _ f.toNat ((d.file f).write p.toNat b) ?_ rfl
        obtain ⟨a1, a2, a3, a4⟩ := h.file f
        refine ⟨?_, a2, ?_, ?_⟩
        · show (over (d.file f).now p.toNat b).length ≤ _
          rw [over_length]; omega
        · intro c hc
          rcases List.mem_append.1 hc with hc | hc
          · exact a3 c hc
          · obtain ⟨y, hy, rfl⟩ := List.mem_map.1 hc
            have := chunks_le _ _ _ y hy
            dsimp only; omega
        · show ((d.file f).chg ++ newChg p.toNat b).length ≤ _
          have := chunks_length b.length p.toNat b
          rw [List.length_append, newChg, List.length_map]
          rw [Nat.add_mul]; omega
theorem okn_cut {n : Nat} {d : Dk} (h : d.okn n) (f p : Int) : (d.cut f p).1.okn (n + 1) := by
  have h' := h.mono (Nat.le_add_right n 1)
  unfold Dk.cut
  split
  · exact h'.fs _ (step_fs d)
  · split
    · exact h'.fs _ (step_fs d)
    · rename_i h1 h2
      refine h'.set _ f.toNat ((d.file f).cut p.toNat) ?_ rfl
      obtain ⟨a1, a2, a3, a4⟩ := h.file f
      refine ⟨?_, a2, ?_, ?_⟩
      · show ((d.file f).now.take p.toNat).length ≤ _
        simp; omega
      · intro c hc
        rcases List.mem_append.1 hc with hc | hc
        · exact a3 c hc
        · rw [List.mem_singleton] at hc
          subst hc
          simp; omega
      · show ((d.file f).chg ++ [_]).length ≤ _
        rw [List.length_append, List.length_singleton, Nat.add_mul]; omega
theorem okn_sync {n : Nat} {d : Dk} (h : d.okn n) (f : Int) : (d.sync f).1.okn (n + 1) := by
  have h' := h.mono (Nat.le_add_right n 1)
  unfold Dk.sync
  split
  · exact h'.fs _ (step_fs d)
  · refine h'.set _ f.toNat (d.file f).sync ?_ rfl
    obtain ⟨a1, a2, a3, a4⟩ := h.file f
    exact ⟨a1, a1, fun c hc => (by cases hc), Nat.zero_le _⟩

theorem Reads.none0 (s : Nat) : Reads Emp s none 0 [] := ⟨by simp, fun _ _ _ _ => .inl rfl⟩
theorem RdC.none0 : RdC Emp none [] := ⟨Reads.none0 1, fun x hx => by cases hx⟩
theorem new0_spec : Spec Try.prog 29 [.slice none 0 0] [] (fun v B => ∃ b, v = .tuple #[dp b, .int .i64 0] ∧ B = [Emp, DiskI b (newD [])]) := by
  have := (new_spec (A := Emp) (a := none) (cap := 0) (q := []) RdC.none0 (by decide)).pre (A' := []) (Emp.intro [])
  refine this.mono ?_
  rintro v B (⟨_, b, rfl, rfl⟩ | ⟨h, _⟩)
  · exact ⟨b, rfl, rfl⟩
  · cases h
theorem crash0_spec (b : Nat) (d : Dk) (hd : d.fit) : Spec Try.prog 33 [dp b, .slice none 0 0] [DiskI b d] (fun v B => ∃ (a' : Option Addr) (cap' : Nat) (q : List BS), v = .slice a' q.length cap' ∧ cont q = keepAll d.fs [] ∧ B = [DiskI b d.crash, Emp, CellsX a' cap' q]) :=
  (crash_spec (A := Emp) (a := none) (cap := 0) (ps := []) b d (Reads.none0 1) (by decide) (fun _ h => by cases h) hd).pre ((Emp.intro _).trans (Ent.perm (.swap _ _ _)))

theorem wakes_spec : Spec Try.prog 34 [] [] (fun v B => v = .bool true ∧ B = []) := by
  have hok : (newD []).okn 0 := okn_new [] rfl
  refine Spec.of_ex Try.func34 rfl Try.ntmps34 rfl fun E cs Γ => ?_
  (simp only [argRho, List.nil_append])
  (refine x_seq (x_region ?_); refine r_op (o_assign rfl rfl ?_); refine r_nil ?_; refine x_seq (x_region ?_))
  (refine r_op ?_)
  refine o_call rfl new0_spec rfl ?_
  rintro v B ⟨b, rfl, rfl⟩
  (simp only [List.cons_append, List.nil_append])
  (refine r_op (o_move rfl rfl ?_); refine r_op (o_extract rfl rfl rfl ?_); refine r_op (o_extract rfl rfl rfl ?_); refine r_op (o_assign rfl rfl ?_); refine r_op (o_assign rfl rfl ?_); refine r_nil ?_; refine x_seq ?_; refine x_seq (x_region ?_); refine r_op (o_move rfl rfl ?_))
  (refine r_op ?_)
  refine o_call rfl (num9_spec 0) rfl ?_
  rintro v B ⟨rfl, rfl⟩
  (simp only [List.nil_append])
  (refine r_op ?_)
  (refine o_neq_f rfl rfl (by omega) rfl ?_)
  (refine r_op (o_move rfl rfl ?_); refine r_guard rfl (o_move rfl rfl ?_))
  (refine r_guard rfl ?_)
  refine o_peq (.inl rfl) rfl rfl (.inr rfl) rfl ?_
  (refine r_op (o_pick_f rfl rfl rfl ?_); refine r_nil ?_; refine x_false rfl ?_; refine x_skip ?_; refine x_seq (x_region ?_); refine r_op (o_move rfl rfl ?_))
  (refine r_op ?_)
  refine o_buildSliceW rfl (by rfl) (by rfl) (by rfl) rfl (fun bl => ?_)
  (refine r_op ?_)
  refine o_convW (vs := [.int .u8 97, .int .u8 98]) rfl (by rfl) rfl ?_
  have R : Reads (Sl 1 (some ⟨bl, 0, none⟩) 2 2 [.int .u8 97, .int .u8 98]) 1 (some ⟨bl, 0, none⟩) ([97, 98] : List UInt8).length (([97, 98] : List UInt8).map bv) := Sl.reads 1 (some ⟨bl, 0, none⟩) 2 2 [.int .u8 97, .int .u8 98] rfl
  (refine r_op ?_)
  refine o_call rfl (write_spec (bs := [97, 98]) b (newD []) 0 0 R (by decide) (hok.small (by decide))) rfl ?_
  rintro v B ⟨rfl, rfl⟩
  (simp only [List.cons_append, List.nil_append])
  have w2 : ((newD []).write 0 0 [97, 98]).2 = 0 := by rfl
  rw [w2]
  have ok1 := okn_write hok 0 0 [97, 98]
  obtain ⟨d1, hd1⟩ : ∃ d1, ((newD []).write 0 0 [97, 98]).1 = d1 := ⟨_, rfl⟩
  rw [hd1] at ok1 ⊢
  (refine r_op (o_assign rfl rfl ?_); refine r_nil ?_; refine x_seq (x_region ?_); refine r_op (o_move rfl rfl ?_))
  (refine r_op ?_)
  refine o_call rfl (sync_spec b d1 0 (ok1.small (by decide))) rfl ?_
  rintro v B ⟨rfl, rfl⟩
  (simp only [List.cons_append, List.nil_append])
  have w3 : (d1.sync 0).2 = 0 := by rw [← hd1]; rfl
  rw [w3]
  have ok2 := okn_sync ok1 0
  obtain ⟨d2, hd2⟩ : ∃ d2, (d1.sync 0).1 = d2 := ⟨_, rfl⟩
  rw [hd2] at ok2 ⊢
  (refine r_op (o_assign rfl rfl ?_); refine r_nil ?_; refine x_seq (x_region ?_); refine r_op (o_move rfl rfl ?_))
  (refine r_op ?_)
  refine o_call rfl (crash0_spec b d2 (ok2.fit (by decide))) rfl ?_
  rintro v B ⟨a3, c3, q, rfl, hq, rfl⟩
  (simp only [List.cons_append, List.nil_append])
  have hq2 : keepAll d2.fs [] = [[97, 98], [], [], [], [], [], [], []] := by rw [← hd2, ← hd1]; rfl
  rw [hq2] at hq
  have hql : q.length = 8 := by have := congrArg List.length hq; simpa [cont] using this
  have hq0 : q[0].2.2 = [97, 98] := by
    have := congrArg (fun l => l[0]?) hq
    simpa [cont, hql] using this
  have RC := CellsX.rd a3 c3 q
  (refine r_op (o_assign rfl rfl ?_); refine r_nil ?_; refine x_seq (x_region ?_); refine r_op (o_move rfl rfl ?_))
  (refine r_op ?_)
  refine o_call rfl (num9_spec 0) rfl ?_
  rintro v B ⟨rfl, rfl⟩
  (simp only [List.nil_append])
  (refine r_op ?_)
  (refine o_eql_t rfl rfl (by omega) rfl ?_)
  (refine r_op (o_move rfl rfl ?_); refine r_guard rfl (o_move rfl rfl ?_))
  (refine r_guard rfl ?_)
  refine o_call rfl (num9_spec 0) rfl ?_
  rintro v B ⟨rfl, rfl⟩
  (simp only [List.nil_append])
  (refine r_guard rfl ?_)
  (refine o_eql_t rfl rfl (by omega) rfl ?_)
  (refine r_op (o_pick_t rfl rfl rfl ?_); refine r_op (o_move rfl rfl ?_); refine r_guard rfl (o_move rfl rfl ?_); refine r_guard rfl (o_lenS rfl rfl ?_))
  (refine r_guard rfl ?_)
  (refine o_eql_t rfl rfl (by omega) rfl ?_)
  (refine r_op (o_pick_t rfl rfl rfl ?_); refine r_op (o_move rfl rfl ?_); refine r_guard rfl (o_move rfl rfl ?_))
  (refine r_guard rfl ?_)
  refine o_indexR rfl rfl RC.1 (j := 0) rfl (by omega) rfl (fun b1 off ha => ?_)
  (refine r_guard rfl ?_)
  refine o_loadR rfl RC.1 ha (i := 0) (by omega) (mget sv (by omega)) rfl ?_
  (refine r_guard rfl ?_)
  refine o_toStr rfl (RC.get (i := 0) (by omega)) rfl ?_
  rw [hq0]
  (refine r_guard rfl ?_)
  refine o_seql_t rfl rfl (by rfl) rfl ?_
  (refine r_op (o_pick_t rfl rfl rfl ?_); refine r_op (o_assign rfl rfl ?_); refine r_nil ?_)
  exact x_ret rfl [] ⟨rfl, rfl⟩ Sub.h
end Go.Proofs.Ythneebbmodkjiaa
