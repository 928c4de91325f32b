/- Part of a proof over the seat Ythneebbmodkjiaa: module D11. Its claim's last module says what is proved. -/
import Derived.Test.YthneebbmodkjiaaD10
namespace Go.Proofs.Ythneebbmodkjiaa
open Go.Proofs

section
variable {P : Program} {X : Cx} {n : Nat} {ds : List Deferred} {ρ : Rho} {Γ : List HP} {Nx : Value → List HP → Prop} {d : Nat} {ty : TypeId}
theorem o_partA {t m e s j : Nat} {x ix : Operand} {vs us : List Value} {kk : IntKind} {i : Int} [T : TyArray P t m e s] [A : TyAgg P e s] (hx : ev ρ x = some (.agg vs.toArray)) (hi : ev ρ ix = some (.int kk i)) (hj : i = (j : Int)) (hlt : j < m) (hu : (vs.drop (j * s)).take s = us)
    (hn : Nat.blt d n = true) (h : Nx (.agg us.toArray) Γ) : ExO P X n ds (some d) (.index t x ix) ty Nx ρ Γ :=
  o_value (by simp) hn fun ee o w hop hty he heL hs => ⟨_, w, Γ, by
    obtain ⟨hu', inf, hi', hsz⟩ := T.und
    subst hj hu
    simp [execOp, hop, he x _ hx, he ix _ hi, Instr.index, asIntOf, underlying_run hu', sizeOf_run hi', hsz, hlt, part, TyAgg.agg (s := s)], hs, h⟩
theorem o_partC {t m e s j : Nat} {x ix : Operand} {vs : List Value} {v : Value} {kk : IntKind} {i : Int} [T : TyArray P t m e s] [A : TyCell P e] (hx : ev ρ x = some (.agg vs.toArray)) (hi : ev ρ ix = some (.int kk i)) (hj : i = (j : Int)) (hlt : j < m) (hu : vs[j * s]? = some v)
    (hn : Nat.blt d n = true) (h : Nx v Γ) : ExO P X n ds (some d) (.index t x ix) ty Nx ρ Γ :=
  o_value (by simp) hn fun ee o w hop hty he heL hs => ⟨_, w, Γ, by
    obtain ⟨hu', inf, hi', hsz⟩ := T.und
    subst hj
    simp [execOp, hop, he x _ hx, he ix _ hi, Instr.index, asIntOf, underlying_run hu', sizeOf_run hi', hsz, hlt, part, TyCell.agg, hu], hs, h⟩
end

theorem Ent.row0 (b off : Nat) (Γ : List HP) : Ent Γ (Row b off [] :: Γ) := fun h s => ⟨h, ⟨PH.emp, h, by
  show PH.emp = row b off []
  funext k x
  cases x with
  | none => rfl
  | some i =>
    cases hr : row b off [] k (some i) with
    | none => rfl
    | some e => obtain ⟨_, _, v, hv, _⟩ := row_some hr; simp at hv, s, PH.emp_disj h, (PH.emp_join h).symm⟩, fun _ _ _ h => h⟩
theorem Ent.row_join (b off : Nat) (xs ys : List Value) (Γ : List HP) : Ent (Row b off xs :: Row b (off + xs.length) ys :: Γ) (Row b off (xs ++ ys) :: Γ) := by
  rintro h ⟨h1, _, rfl, ⟨h2, r, rfl, hr, d2, rfl⟩, d1, rfl⟩
  rw [PH.disj_join] at d1
  exact ⟨_, ⟨_, r, rfl, hr, by rw [row_append, PH.join_disj]; exact ⟨d1.2, d2⟩, rfl⟩, fun b' x e he => by rw [row_append, PH.join_assoc] at he; exact he⟩
theorem Ent.row_split (b off : Nat) (xs ys : List Value) (Γ : List HP) : Ent (Row b off (xs ++ ys) :: Γ) (Row b off xs :: Row b (off + xs.length) ys :: Γ) := by
  rintro h ⟨h1, r, rfl, hr, d, rfl⟩
  rw [row_append, PH.join_disj] at d
  exact ⟨_, ⟨_, _, rfl, ⟨_, r, rfl, hr, d.2, rfl⟩, PH.disj_join.2 ⟨row_disj b off xs ys _ (Nat.le_refl _), d.1⟩, rfl⟩, fun b' x e he => by rw [row_append, PH.join_assoc]; exact he⟩

abbrev PC (fs : List FX) : HP := Parts (fun _ x => FileC x) fs
theorem FX.cl (x : FX) : x.cells.length = 3 := rfl
theorem Ent.rows_out (b : Nat) : ∀ (fs : List FX) (k : Nat) (Γ : List HP), Ent (Sep (Arr (FileI b) k fs) :: Γ) (Row b (k * 3) (fs.flatMap FX.cells) :: Sep (Arr (fun _ x => FileC x) k fs) :: Γ) := by
  intro fs
  induction fs with
  | nil => intro k Γ; exact Ent.row0 b (k * 3) _
  | cons x fs ih =>
    intro k Γ
    refine (Ent.pop (FileI b) k x fs Γ).trans ((Ent.file_out b k x _).trans ?_)
    refine (Sub.h (Δ := Sep (Arr (FileI b) (k + 1) fs) :: Row b (k * 3) x.cells :: sp x.safe :: sp x.now :: Sl 3 x.ca x.chg.length x.cc (x.chg.flatMap CX.cells) :: Inn (x.chg.map CX.s) :: Γ)).trans ?_
    refine (ih (k + 1) _).trans ?_
    refine (Ent.perm (Δ := Row b (k * 3) x.cells :: Row b (k * 3 + x.cells.length) (fs.flatMap FX.cells) :: Sep (Arr (fun _ x => FileC x) (k + 1) fs) :: sp x.safe :: sp x.now :: Sl 3 x.ca x.chg.length x.cc (x.chg.flatMap CX.cells) :: Inn (x.chg.map CX.s) :: Γ) ?_).trans ?_
    · rw [FX.cl, show k * 3 + 3 = (k + 1) * 3 by omega]
      exact ((List.Perm.swap _ _ _).cons _).trans (.swap _ _ _)
    · refine (Ent.row_join b (k * 3) x.cells _ _).trans ?_
      rw [List.flatMap_cons]
      refine Ent.cons _ ?_
      refine (Sub.h (Δ := sp x.safe :: sp x.now :: Sl 3 x.ca x.chg.length x.cc (x.chg.flatMap CX.cells) :: Inn (x.chg.map CX.s) :: Sep (Arr (fun _ x => FileC x) (k + 1) fs) :: Γ)).trans ?_
      refine (Ent.sep_in [sp x.safe, sp x.now, Sl 3 x.ca x.chg.length x.cc (x.chg.flatMap CX.cells), Inn (x.chg.map CX.s)] _).trans ?_
      exact (Ent.cons _ (Ent.sep_out _ _)).trans (Ent.sep_in (FileC x :: Arr (fun _ x => FileC x) (k + 1) fs) Γ)
theorem Ent.rows_in (b : Nat) : ∀ (fs : List FX) (k : Nat) (Γ : List HP), Ent (Row b (k * 3) (fs.flatMap FX.cells) :: Sep (Arr (fun _ x => FileC x) k fs) :: Γ) (Sep (Arr (FileI b) k fs) :: Γ) := by
  intro fs
  induction fs with
  | nil => intro k Γ; exact Ent.drop _ _
  | cons x fs ih =>
    intro k Γ
    rw [List.flatMap_cons]
    refine (Ent.row_split b (k * 3) x.cells _ _).trans ?_
    rw [FX.cl, show k * 3 + 3 = (k + 1) * 3 by omega]
    refine (Sub.h (Δ := Sep (Arr (fun _ x => FileC x) k (x :: fs)) :: Row b ((k + 1) * 3) (fs.flatMap FX.cells) :: Row b (k * 3) x.cells :: Γ)).trans ?_
    refine (Ent.pop (fun _ x => FileC x) k x fs _).trans ?_
    refine (Ent.sep_out [sp x.safe, sp x.now, Sl 3 x.ca x.chg.length x.cc (x.chg.flatMap CX.cells), Inn (x.chg.map CX.s)] _).trans ?_
    (simp only [List.cons_append, List.nil_append])
    refine (Sub.h (Δ := Row b ((k + 1) * 3) (fs.flatMap FX.cells) :: Sep (Arr (fun _ x => FileC x) (k + 1) fs) :: Row b (k * 3) x.cells :: sp x.safe :: sp x.now :: Sl 3 x.ca x.chg.length x.cc (x.chg.flatMap CX.cells) :: Inn (x.chg.map CX.s) :: Γ)).trans ?_
    refine (ih (k + 1) _).trans ?_
    refine (Sub.h (Δ := Row b (k * 3) x.cells :: sp x.safe :: sp x.now :: Sl 3 x.ca x.chg.length x.cc (x.chg.flatMap CX.cells) :: Inn (x.chg.map CX.s) :: Sep (Arr (FileI b) (k + 1) fs) :: Γ)).trans ?_
    refine (Ent.file_in b k x _).trans ?_
    exact (Ent.cons _ (Ent.sep_out _ _)).trans (Ent.sep_in (FileI b k x :: Arr (FileI b) (k + 1) fs) Γ)

theorem St.inn_cap {E : Env} {w : World} : ∀ {q : List BS} {Γ : List HP}, St E (Inn q :: Γ) w → ∀ x ∈ q, x.2.2.length ≤ x.2.1 := by
  intro q
  induction q with
  | nil => intro Γ _ x hx; cases hx
  | cons y q ih =>
    intro Γ s x hx
    have s1 := (Ent.inn_pop y q Γ).st s
    rw [List.mem_cons] at hx
    rcases hx with rfl | hx
    · exact s1.sl_split.2.1
    · exact ih (s1.perm (.swap _ _ _)) x hx
theorem Ent.focusC (fs : List FX) (i : Nat) (h : i < fs.length) (Γ : List HP) : Ent (PC fs :: Γ) (FileC fs[i] :: Hole (fun _ x => FileC x) fs i :: Γ) := Ent.focus (fun _ x => FileC x) fs i h Γ
theorem Ent.unfocusC (fs : List FX) (i : Nat) (h : i < fs.length) (Γ : List HP) : Ent (FileC fs[i] :: Hole (fun _ x => FileC x) fs i :: Γ) (PC fs :: Γ) := Ent.unfocus' (fun _ x => FileC x) fs i h Γ
theorem St.pc_cap {E : Env} {w : World} {fs : List FX} {Γ : List HP} (s : St E (PC fs :: Γ) w) : ∀ x ∈ fs, ∀ c ∈ x.chg, c.s.2.2.length ≤ c.s.2.1 := by
  intro x hx c hc
  obtain ⟨i, hi, rfl⟩ := List.mem_iff_getElem.1 hx
  have s1 := (Ent.focusC fs i hi Γ).st s
  have s2 := (Ent.sep_out [sp fs[i].safe, sp fs[i].now, Sl 3 fs[i].ca fs[i].chg.length fs[i].cc (fs[i].chg.flatMap CX.cells), Inn (fs[i].chg.map CX.s)] _).st s1
  exact (St.inn_cap (s2.drop.drop.drop)) c.s (List.mem_map_of_mem hc)
def keepAll : List Fl → List Int → List (List UInt8)
  | [], _ => []
  | x :: fs, ps => (keep x.safe x.chg ps).1 :: keepAll fs (keep x.safe x.chg ps).2
def Dk.crash (d : Dk) : Dk := { d with off := true }
/-- Within bounds, for a crash. -/
def Dk.fit (d : Dk) : Prop := ∀ x ∈ d.fs, x.safe.length ≤ 2 ^ 39 ∧ (∀ c ∈ x.chg, c.at' + c.b.length ≤ 2 ^ 39) ∧ x.chg.length ≤ 2 ^ 40

theorem crash_spec {A : HP} {a : Option Addr} {cap : Nat} {ps : List Int} (b : Nat) (d : Dk) (R : Reads A 1 a ps.length (ps.map iv)) (hl : ps.length ≤ 2 ^ 63 - 1) (hps : ∀ p ∈ ps, p ≤ 9223372036854775807) (hd : d.fit) :
    Spec Try.prog 33 [dp b, .slice a ps.length cap] [DiskI b d, A] (fun v B => ∃ (a' : Option Addr) (cap' : Nat) (q : List BS), v = .slice a' q.length cap' ∧ cont q = keepAll d.fs ps ∧ B = [DiskI b d.crash, A, CellsX a' cap' q]) := by
  refine Spec.of_ex Try.func33 rfl Try.ntmps33 rfl fun E cs Γ => ?_
  (simp only [argRho, Nat.reduceAdd, List.cons_append, List.nil_append])
  refine x_open (fun E w s => s.disk) fun fs => ?_
  refine x_mem (Γ' := Row b 0 (fs.1.flatMap FX.cells) :: PC fs.1 :: Hid (Flags b d.off d.uo d.ub) :: A :: Γ) ((Ent.perm (.swap _ _ _)).trans ((Ent.rows_out b fs.1 0 _).trans (by rw [Nat.zero_mul]; exact .refl _))) ?_
  have h8 := fs.2.2.1
  have hc8 : (fs.1.flatMap FX.cells).length = 24 := by rw [flen FX.cl, h8]
  have hfit : ∀ x ∈ fs.1, x.safe.2.2.length ≤ 2 ^ 39 ∧ (∀ c ∈ x.chg, c.at' + c.s.2.2.length ≤ 2 ^ 39) ∧ x.chg.length ≤ 2 ^ 40 := by
    intro x hx
    have h1 : x.abs ∈ fabs fs.1 := List.mem_map_of_mem hx
    rw [fs.2.1] at h1
    obtain ⟨f1, f2, f3⟩ := hd _ h1
    refine ⟨f1, fun c hc => f2 c.abs (List.mem_map_of_mem hc), by simpa [FX.abs] using f3⟩
  refine x_fact (fun E w s => (s.perm (.swap _ _ _)).pc_cap) fun hcap => ?_
  (refine x_seq ?_); (refine x_region ?_)
  (refine r_op ?_)
  refine o_box rfl rfl rfl (fun pp => ?_)
  (refine r_op (o_assign rfl rfl ?_); refine r_nil ?_; refine x_seq (x_region ?_))
  (refine r_op ?_)
  refine o_alloc rfl (fun pa => ?_)
  (refine r_do ?_)
  ((refine o_store rfl rfl rfl rfl (by simp) ?_; try dsimp only [Nat.reduceSub, Nat.reduceAdd, List.set]))
  (refine r_nil ?_; refine x_seq (x_region ?_))
  (refine r_op ?_)
  refine o_makeFunc rfl rfl rfl ?_
  (refine r_op (o_assign rfl rfl ?_); refine r_nil ?_; refine x_seq (x_region ?_); refine r_op (o_assign rfl rfl ?_); refine r_nil ?_; refine x_seq ?_; refine x_seq (x_region ?_); refine r_op (o_move rfl rfl ?_); refine r_op (o_nilCheck rfl rfl ?_); refine r_op (o_fieldAddr rfl rfl ?_))
  (refine r_op ?_)
  refine o_loadA (us := fs.1.flatMap FX.cells) rfl rfl (by simp [List.take_of_length_le, hc8]) hc8 rfl ?_
  (refine r_op (o_move rfl rfl ?_); refine r_nil ?_; refine x_block ?_)
  have hfa := fs.2.1
  refine x_loop (α := Nat × Nat × Option Addr × Nat × List BS) (fun q => q.1 ≤ 8 ∧ q.2.1 ≤ ps.length ∧ cont q.2.2.2.2 ++ keepAll ((fs.1.drop q.1).map FX.abs) (ps.drop q.2.1) = keepAll d.fs ps ∧ q.2.2.2.2.length = q.1)
    (fun q => [(0, dp b), (6, .func (.func 99) #[] #[dp pa, dp pp]), (7, .slice q.2.2.1 q.2.2.2.2.length q.2.2.2.1), (14, .agg (fs.1.flatMap FX.cells).toArray), (15, .int .i64 q.1)])
    (fun q => Row pa 0 [.int .i64 q.2.1] :: Row pp 0 [.slice a ps.length cap] :: A :: Row b 0 (fs.1.flatMap FX.cells) :: PC fs.1 :: Hid (Flags b d.off d.uo d.ub) :: Sl 1 q.2.2.1 q.2.2.2.2.length q.2.2.2.1 (q.2.2.2.2.map sv) :: Inn q.2.2.2.2 :: Γ)
    (fun q => 8 - q.1) (0, 0, none, 0, []) ⟨Nat.zero_le _, Nat.zero_le _, by simp [cont, ← hfa, fabs], rfl⟩ ⟨rfl, rfl, rfl, rfl, rfl, trivial⟩ (((Ent.nilSl 1 _).trans (Ent.inn_nil _)).trans (Sub.h (Δ := Row pa 0 [.int .i64 0] :: Row pp 0 [.slice a ps.length cap] :: A :: Row b 0 (fs.1.flatMap FX.cells) :: PC fs.1 :: Hid (Flags b d.off d.uo d.ub) :: Sl 1 none 0 0 [] :: Inn [] :: Γ))) ?_
  rintro ⟨j, i, a2, c2, q⟩ ⟨hj, hi, hk, hq⟩ back
  dsimp only at hj hi hk hq back ⊢
  (refine x_seq (x_region ?_))
  (refine r_op ?_)
  refine o_lss rfl rfl rfl (fun h => ?_) (fun h => ?_)
  · have hj1 : j < fs.1.length := by omega
    obtain ⟨x, hx⟩ : ∃ x, fs.1[j] = x := ⟨_, rfl⟩
    have hxf := hfit x (hx ▸ List.getElem_mem hj1)
    (refine r_nil ?_; refine x_seq ?_; refine x_true rfl ?_; refine x_skip ?_; refine x_seq ?_; refine x_block ?_; refine x_seq (x_region ?_))
    (refine r_op ?_)
    refine o_partA (us := x.cells) rfl rfl (j := j) rfl (by omega) ?_ rfl ?_
    · rw [fdrop FX.cl, List.drop_eq_getElem_cons hj1, List.flatMap_cons, hx]; rfl
    (refine r_op ?_)
    refine o_alloc rfl (fun px => ?_)
    (refine r_do ?_)
    refine o_storeW (us := x.cells) rfl rfl rfl (by rfl) (by rfl) ?_
    (refine r_nil ?_; refine x_region ?_; refine r_op (o_move rfl rfl ?_))
    (refine r_op ?_)
    refine o_loadA (us := x.cells) rfl rfl (by rfl) (by rfl) rfl ?_
    (refine r_op (o_move rfl rfl ?_))
    refine r_mem (Γ' := FileC x :: Hole (fun _ x => FileC x) fs.1 j :: Row pa 0 [.int .i64 i] :: Row pp 0 [.slice a ps.length cap] :: A :: Row b 0 (fs.1.flatMap FX.cells) :: Hid (Flags b d.off d.uo d.ub) :: Sl 1 a2 q.length c2 (q.map sv) :: Inn q :: Γ) ?_ ?_
    · refine (Sub.h (Δ := PC fs.1 :: Row pa 0 [.int .i64 i] :: Row pp 0 [.slice a ps.length cap] :: A :: Row b 0 (fs.1.flatMap FX.cells) :: Hid (Flags b d.off d.uo d.ub) :: Sl 1 a2 q.length c2 (q.map sv) :: Inn q :: Γ)).trans ?_
      rw [← hx]; exact Ent.focusC fs.1 j hj1 _
    (refine r_op ?_)
    refine o_call rfl (kept_spec (cap := cap) x pa pp i (FileC.rd x) R hi hl hxf.1 (fun c hc => ⟨hxf.2.1 c hc, hcap x (hx ▸ List.getElem_mem hj1) c hc⟩) hxf.2.2 hps) rfl ?_
    rintro v C ⟨i', a3, c3, bs, rfl, rfl, hkp, hi'⟩
    (simp only [List.cons_append, List.nil_append])
    (refine r_op ?_)
    refine o_buildSlice rfl (by rfl) (by rfl) (by rfl) (by rfl) rfl (fun a4 => ?_)
    (refine r_op ?_)
    refine o_appendT rfl rfl (by rfl) (by rfl) (by rfl) (by omega) rfl (fun a5 c5 hc => ?_)
    (refine r_op (o_assign rfl rfl ?_); refine r_nil ?_; refine x_inBlock ?_; refine x_region ?_)
    (refine r_op ?_)
    refine o_add rfl rfl (add_i64 (by omega)) rfl ?_
    (refine r_op (o_move rfl rfl ?_); refine r_nil ?_)
    have e : q.map sv ++ [.slice a3 bs.length c3] = (q ++ [(a3, c3, bs)]).map sv := by simp [sv]
    have e2 : q.length + 1 = (q ++ [(a3, c3, bs)]).length := by simp
    rw [e, e2]
    refine x_mem (Γ' := Row pa 0 [.int .i64 i'] :: Row pp 0 [.slice a ps.length cap] :: A :: Row b 0 (fs.1.flatMap FX.cells) :: PC fs.1 :: Hid (Flags b d.off d.uo d.ub) :: Sl 1 a5 (q ++ [(a3, c3, bs)]).length c5 ((q ++ [(a3, c3, bs)]).map sv) :: Inn (q ++ [(a3, c3, bs)]) :: Γ) ?_ ?_
    · refine (Sub.h (Δ := FileC x :: Hole (fun _ x => FileC x) fs.1 j :: Sl 1 a3 bs.length c3 (bs.map bv) :: Inn q :: Row pa 0 [.int .i64 i'] :: Row pp 0 [.slice a ps.length cap] :: A :: Row b 0 (fs.1.flatMap FX.cells) :: Hid (Flags b d.off d.uo d.ub) :: Sl 1 a5 (q ++ [(a3, c3, bs)]).length c5 ((q ++ [(a3, c3, bs)]).map sv) :: Γ)).trans ?_
      have h1 := Ent.unfocusC fs.1 j hj1 (Sl 1 a3 bs.length c3 (bs.map bv) :: Inn q :: Row pa 0 [.int .i64 i'] :: Row pp 0 [.slice a ps.length cap] :: A :: Row b 0 (fs.1.flatMap FX.cells) :: Hid (Flags b d.off d.uo d.ub) :: Sl 1 a5 (q ++ [(a3, c3, bs)]).length c5 ((q ++ [(a3, c3, bs)]).map sv) :: Γ)
      rw [hx] at h1
      refine h1.trans ((Ent.cons _ (Ent.inn_snoc (a3, c3, bs) q _)).trans Sub.h)
    have hdj : (fs.1.drop j).map FX.abs = x.abs :: (fs.1.drop (j + 1)).map FX.abs := by rw [List.drop_eq_getElem_cons hj1, hx]; rfl
    rw [hdj] at hk
    have hkp1 : keep x.abs.safe x.abs.chg (ps.drop i) = (bs, ps.drop i') := hkp.symm
    refine x_weak (back (j + 1, i', a5, c5, q ++ [(a3, c3, bs)]) ⟨by dsimp only; omega, hi', by
      dsimp only
      rw [← hk]
      show _ = cont q ++ ((keep x.abs.safe x.abs.chg (ps.drop i)).1 :: keepAll _ (keep x.abs.safe x.abs.chg (ps.drop i)).2)
      rw [hkp1]; simp [cont], by simp [hq]⟩ (by dsimp only; omega)) (by (repeat' (first | exact trivial | refine ⟨rfl, ?_⟩))) Sub.h
  · have hj8 : j = 8 := by omega
    subst hj8
    have hdn : fs.1.drop 8 = [] := List.drop_eq_nil_of_le (by omega)
    rw [hdn] at hk
    simp only [List.map_nil, keepAll, List.append_nil] at hk
    (refine r_nil ?_; refine x_seq ?_; refine x_false rfl ?_; refine x_exit rfl ?_; refine x_seq (x_region ?_); refine r_op (o_move rfl rfl ?_); refine r_op (o_nilCheck rfl rfl ?_); refine r_op (o_fieldAddr rfl rfl ?_))
    refine r_mem (Γ' := Flags b d.off d.uo d.ub :: FilesX b fs.1 :: A :: Sl 1 a2 q.length c2 (q.map sv) :: Inn q :: Γ) ?_ ?_
    · refine (Sub.h (Δ := Row b 0 (fs.1.flatMap FX.cells) :: PC fs.1 :: Hid (Flags b d.off d.uo d.ub) :: A :: Sl 1 a2 q.length c2 (q.map sv) :: Inn q :: Γ)).trans ?_
      have := Ent.rows_in b fs.1 0 (Hid (Flags b d.off d.uo d.ub) :: A :: Sl 1 a2 q.length c2 (q.map sv) :: Inn q :: Γ)
      rw [Nat.zero_mul] at this
      exact this.trans (Ent.perm (.swap _ _ _))
    (refine r_do ?_)
    ((refine o_store rfl rfl rfl rfl (by simp) ?_; try dsimp only [Nat.reduceSub, Nat.reduceAdd, List.set]))
    (refine r_nil ?_; refine x_seq (x_region ?_); refine r_op (o_move rfl rfl ?_); refine r_op (o_assign rfl rfl ?_); refine r_nil ?_)
    refine x_ret rfl [DiskI b d.crash, A, CellsX a2 c2 q] ⟨a2, c2, q, rfl, hk, rfl⟩ ?_
    refine (Ent.diskF (b := b) (o := true) fs fs.2.2.2.1 fs.2.2.2.2 _).trans ?_
    refine (Sub.h (Δ := Sl 1 a2 q.length c2 (q.map sv) :: Inn q :: DiskI b ⟨d.fs, true, d.uo, d.ub⟩ :: A :: Γ)).trans ?_
    refine (Ent.cells_in a2 c2 q _).trans ?_
    exact (Sub.h (Δ := DiskI b ⟨d.fs, true, d.uo, d.ub⟩ :: A :: CellsX a2 c2 q :: Γ))
end Go.Proofs.Ythneebbmodkjiaa
