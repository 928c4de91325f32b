/- Part of a proof over the seat Ythneebbmodkjiaa: module D24. Its claim's last module says what is proved. -/
import Derived.Test.YthneebbmodkjiaaD22
namespace Go.Proofs.Ythneebbmodkjiaa
open Go.Proofs

theorem RdC.of_ent {A B : HP} {a : Option Addr} {q : List BS} (R : RdC B a q) (Δ : List HP) (he : Ent [A] (B :: Δ)) : RdC A a q := ⟨R.1.of_ent Δ he, fun x hx => (R.2 x hx).of_ent Δ he⟩
/-- The acts of one kind alone, beside writes. -/
def kindOf (k : Int) (i : Nat) (x : AV) : AV := { x with op := if 0 < i % 3 then k else 3 }
def kinds (k : Int) (l : List AV) : List AV := l.mapIdx (kindOf k)
theorem kinds_get {k : Int} {l : List AV} {i : Nat} (h : i < l.length) : (kinds k l)[i]? = some (kindOf k i l[i]) := by simp [kinds, h]
theorem kinds_length (k : Int) (l : List AV) : (kinds k l).length = l.length := by simp [kinds]
theorem kinds_mem {k : Int} {l : List AV} {y : AV} (h : y ∈ kinds k l) : ∃ i x, x ∈ l ∧ y = kindOf k i x := by
  obtain ⟨i, hi⟩ := List.getElem?_of_mem h
  have hl : i < l.length := by
    have := (List.getElem?_eq_some_iff.1 hi).1
    rwa [kinds_length] at this
  rw [kinds_get hl] at hi
  exact ⟨i, l[i], List.getElem_mem hl, by simpa using hi.symm⟩
theorem flat_take {α : Type} (g : α → List Value) (l : List α) (i : Nat) (x : α) (h : l[i]? = some x) : (l.take i).flatMap g ++ g x = (l.take (i + 1)).flatMap g := by
  rw [List.take_add_one, h]; simp
set_option maxHeartbeats 1600000 in
theorem calls_spec {A : HP} {p : SV} (k : Int) (hk : -9223372036854775808 ≤ k ∧ k ≤ 9223372036854775807) (R : SV.Rd A p) (F : ∀ x ∈ p.l, x.Fit) (Z : p.Sz) : Spec Try.prog 59 [p.val, .int .i64 k] [A] (fun v B => v = .bool true ∧ B = [A]) := by
  refine Spec.of_ex Try.func59 rfl Try.ntmps59 rfl fun E cs Γ => ?_
  (simp only [argRho, Nat.reduceAdd, List.cons_append, List.nil_append])
  (refine x_seq ?_); (refine x_region ?_)
  (refine r_op ?_)
  refine o_boxA (vs := p.cells) rfl rfl (fun px => ?_)
  (refine r_op (o_assign rfl rfl ?_); refine r_nil ?_; refine x_seq ?_; refine x_seq (x_region ?_))
  (refine r_op ?_)
  refine o_loadA (us := p.cells) rfl rfl rfl rfl rfl ?_
  (refine r_op ?_)
  refine o_call rfl (heavyN_spec R Z) rfl ?_
  rintro v B ⟨⟨hb, rfl, hbw⟩, rfl⟩
  (simp only [List.cons_append, List.nil_append])
  cases hb
  · obtain ⟨hw, hl200⟩ := hbw rfl
    have lb := R.lb
    (refine r_nil ?_; refine x_false rfl ?_; refine x_skip ?_; refine x_seq (x_region ?_); refine r_op (o_fieldAddr rfl rfl ?_); refine r_op (o_load rfl rfl rfl rfl ?_))
    (refine r_op ?_)
    refine o_build rfl (by rfl) rfl ?_
    (refine r_op ?_)
    refine o_alloc rfl (fun pq => ?_)
    (refine r_do ?_)
    refine o_storeA rfl rfl rfl rfl rfl (Nat.le_refl 2) ?_
    refine r_mem (Γ' := Row pq 0 [.slice p.fa p.f.length p.fc, .slice none 0 0] :: A :: Row px 0 p.cells :: Γ) (Ent.row_eq rfl _) ?_
    (refine r_nil ?_; refine x_seq ?_; refine x_seq (x_region ?_); refine r_op (o_assign rfl rfl ?_); refine r_nil ?_)
    refine x_cutK (α := Option Addr × Nat) (fun _ => True) (fun _ => [(5, dp pq)]) (fun z => Row pq 0 [.slice p.fa p.f.length p.fc, .slice z.1 p.l.length z.2] :: Sl 6 z.1 p.l.length z.2 ((kinds k p.l).flatMap AV.cells) :: A :: Γ) ?_ ?_
    · rintro ⟨ca, cc⟩ -
      dsimp only
      have hkl := kinds_length k p.l
      have RA : Ent [Sep [A, Sl 6 ca p.l.length cc ((kinds k p.l).flatMap AV.cells)]] (A :: [Sl 6 ca p.l.length cc ((kinds k p.l).flatMap AV.cells)]) := Ent.sep_out _ []
      have RS : Ent [Sep [A, Sl 6 ca p.l.length cc ((kinds k p.l).flatMap AV.cells)]] (Sl 6 ca p.l.length cc ((kinds k p.l).flatMap AV.cells) :: [A]) := (Ent.sep_out _ []).trans (Ent.perm (.swap _ _ _))
      have R' : SV.Rd (Sep [A, Sl 6 ca p.l.length cc ((kinds k p.l).flatMap AV.cells)]) ⟨p.fa, p.fc, p.f, ca, cc, kinds k p.l⟩ := by
        refine ⟨R.f.of_ent _ RA, ⟨?_, fun y hy => ?_⟩, R.fb, by dsimp only; rw [hkl]; exact R.lb⟩
        · have := (Sl.reads 6 ca p.l.length cc ((kinds k p.l).flatMap AV.cells) (by rw [flen AV.cl, hkl])).of_ent [A] RS
          dsimp only
          rw [hkl]; exact this
        · obtain ⟨i, x, hx, rfl⟩ := kinds_mem hy
          exact ⟨(R.l.2 x hx).1.of_ent _ RA, (R.l.2 x hx).2.of_ent _ RA⟩
      have F' : ∀ y ∈ kinds k p.l, y.Fit := fun y hy => by
        obtain ⟨i, x, hx, rfl⟩ := kinds_mem hy
        obtain ⟨g1, g2, g3, g4, g5, g6, g7⟩ := F x hx
        refine ⟨?_, g2, g3, g4, g5, g6, g7⟩
        unfold kindOf; dsimp only; split
        · exact hk
        · decide
      have Z' : SV.Sz ⟨p.fa, p.fc, p.f, ca, cc, kinds k p.l⟩ := ⟨Z.f, Z.fs, by dsimp only; rw [hkl]; exact Z.l, fun y hy => by
        obtain ⟨i, x, hx, rfl⟩ := kinds_mem hy
        exact Z.b x hx⟩
      have S := diskExact_spec R' F' Z'
      unfold SV.val SV.cells at S
      dsimp only at S
      rw [hkl] at S
      refine x_mem (Γ' := Sep [A, Sl 6 ca p.l.length cc ((kinds k p.l).flatMap AV.cells)] :: Row pq 0 [.slice p.fa p.f.length p.fc, .slice ca p.l.length cc] :: Γ) ((Sub.h (Δ := [A, Sl 6 ca p.l.length cc ((kinds k p.l).flatMap AV.cells)] ++ (Row pq 0 [.slice p.fa p.f.length p.fc, .slice ca p.l.length cc] :: Γ))).trans (Ent.sep_in _ _)) ?_
      (refine x_seq (x_region ?_))
      (refine r_op ?_)
      refine o_loadA (us := [.slice p.fa p.f.length p.fc, .slice ca p.l.length cc]) rfl rfl rfl rfl rfl ?_
      (refine r_op ?_)
      refine o_call rfl S rfl ?_
      rintro v B ⟨rfl, rfl⟩
      (simp only [List.cons_append, List.nil_append])
      (refine r_op (o_assign rfl rfl ?_); refine r_nil ?_)
      refine x_ret rfl [A] ⟨rfl, rfl⟩ ((Ent.sep_out _ _).trans ?_)
      (simp only [List.cons_append, List.nil_append])
      exact Sub.h
    · intro td back0
      (refine x_block ?_)
      refine x_loop (α := Nat × Option Addr × Nat) (fun z => z.1 ≤ p.l.length) (fun z => [(1, .int .i64 k), (2, dp px), (5, dp pq), (6, .int .i64 z.1)])
        (fun z => Row pq 0 [.slice p.fa p.f.length p.fc, .slice z.2.1 z.1 z.2.2] :: Sl 6 z.2.1 z.1 z.2.2 (((kinds k p.l).take z.1).flatMap AV.cells) :: Row px 0 p.cells :: A :: Γ)
        (fun z => p.l.length - z.1) (0, none, 0) (Nat.zero_le _) ⟨rfl, rfl, rfl, rfl, trivial⟩ ((Ent.nilSl 6 _).trans (by simp only [List.take_zero, List.flatMap_nil]; exact Sub.h)) ?_
      rintro ⟨i, ca, cc⟩ hi back
      dsimp only at hi back ⊢
      (refine x_seq ?_; refine x_seq (x_region ?_); refine r_op (o_move rfl rfl ?_); refine r_op (o_fieldAddr rfl rfl ?_); refine r_op (o_load rfl rfl rfl rfl ?_); refine r_op (o_lenS rfl rfl ?_))
      (refine r_op ?_)
      refine o_lss rfl rfl rfl (fun h => ?_) (fun h => ?_)
      · have hi1 : i < p.l.length := by omega
        (refine r_nil ?_; refine x_true rfl ?_; refine x_skip ?_; refine x_seq ?_; refine x_block ?_; refine x_seq (x_region ?_); refine r_op (o_fieldAddr rfl rfl ?_); refine r_op (o_load rfl rfl rfl rfl ?_); refine r_op (o_move rfl rfl ?_))
        (refine r_op ?_)
        refine o_indexR rfl rfl R.l.1 (j := i) rfl hi1 rfl (fun b1 off ha => ?_)
        obtain ⟨x, hx⟩ : ∃ x, p.l[i] = x := ⟨_, rfl⟩
        have hkg := kinds_get (k := k) hi1
        rw [hx] at hkg
        (refine r_op ?_)
        refine o_loadAR rfl R.l.1 ha (i := i * 6) (us := x.cells) (by omega) rfl (RdS.cellsV hi1 hx) rfl ?_
        (refine r_op ?_)
        refine o_alloc rfl (fun pa => ?_)
        (refine r_do ?_)
        refine o_storeA rfl rfl rfl rfl rfl (Nat.le_refl 6) ?_
        refine r_mem (Γ' := Row pa 0 [.int .i64 x.op, .int .i64 x.n, .int .i64 x.at', .int .i64 x.k, sv x.b, .slice x.pa x.ps.length x.pc] :: Row pq 0 [.slice p.fa p.f.length p.fc, .slice ca i cc] :: Sl 6 ca i cc (((kinds k p.l).take i).flatMap AV.cells) :: Row px 0 p.cells :: A :: Γ) (Ent.row_eq rfl _) ?_
        by_cases h3 : 0 < i % 3
        · have e : kindOf k i x = { x with op := k } := by unfold kindOf; rw [if_pos h3]
          rw [e] at hkg
          (refine r_nil ?_; refine x_seq ?_; refine x_seq (x_region ?_); refine r_op (o_move rfl rfl ?_); refine r_op (o_rem rfl rfl (by omega) (by omega) rfl ?_); refine r_op (o_gtr_t rfl rfl (by omega) rfl ?_); refine r_nil ?_; refine x_true rfl ?_; refine x_seq (x_region ?_); refine r_op (o_move rfl rfl ?_); refine r_op (o_fieldAddr rfl rfl ?_); refine r_do (o_store rfl rfl rfl rfl (by simp) ?_); try dsimp only [Nat.reduceSub, Nat.reduceAdd, List.set]; refine r_nil ?_; refine x_seq (x_region ?_); refine r_op (o_fieldAddr rfl rfl ?_); refine r_op (o_load rfl rfl rfl rfl ?_))
          (refine r_op ?_)
          refine o_loadA (us := AV.cells { x with op := k }) rfl rfl rfl rfl rfl ?_
          (refine r_op ?_)
          refine o_buildSlice rfl (by rfl) (by rfl) (by rfl) (by rfl) rfl (fun a2 => ?_)
          (refine r_op ?_)
          refine o_appendT rfl rfl (by rfl) (by rfl) (by rfl) (by omega) rfl (fun a3 c3 hc => ?_)
          rw [show ((kinds k p.l).take i).flatMap AV.cells ++ [.int .i64 k, .int .i64 x.n, .int .i64 x.at', .int .i64 x.k, sv x.b, .slice x.pa x.ps.length x.pc] = ((kinds k p.l).take (i + 1)).flatMap AV.cells from flat_take AV.cells (kinds k p.l) i _ hkg]
          (refine r_op (o_fieldAddr rfl rfl ?_); refine r_do (o_store rfl rfl rfl rfl (by simp) ?_); try dsimp only [Nat.reduceSub, Nat.reduceAdd, List.set]; refine r_nil ?_; refine x_exit rfl ?_; refine x_region ?_; refine r_op (o_move rfl rfl ?_); refine r_op (o_add rfl rfl (add_i64 (by omega)) rfl ?_); refine r_op (o_assign rfl rfl ?_); refine r_nil ?_)
          refine x_weak (back (i + 1, a3, c3) (by dsimp only; omega) (by dsimp only; omega)) (by (repeat' (first | exact trivial | refine ⟨rfl, ?_⟩))) Sub.h
        · have e : kindOf k i x = { x with op := 3 } := by unfold kindOf; rw [if_neg h3]
          rw [e] at hkg
          (refine r_nil ?_; refine x_seq ?_; refine x_seq (x_region ?_); refine r_op (o_move rfl rfl ?_); refine r_op (o_rem rfl rfl (by omega) (by omega) rfl ?_); refine r_op (o_gtr_f rfl rfl (by omega) rfl ?_); refine r_nil ?_; refine x_false rfl ?_; refine x_skip ?_; refine x_seq (x_region ?_); refine r_op (o_fieldAddr rfl rfl ?_); refine r_do (o_store rfl rfl rfl rfl (by simp) ?_); try dsimp only [Nat.reduceSub, Nat.reduceAdd, List.set]; refine r_nil ?_; refine x_region ?_; refine r_op (o_fieldAddr rfl rfl ?_); refine r_op (o_load rfl rfl rfl rfl ?_))
          (refine r_op ?_)
          refine o_loadA (us := AV.cells { x with op := 3 }) rfl rfl rfl rfl rfl ?_
          (refine r_op ?_)
          refine o_buildSlice rfl (by rfl) (by rfl) (by rfl) (by rfl) rfl (fun a2 => ?_)
          (refine r_op ?_)
          refine o_appendT rfl rfl (by rfl) (by rfl) (by rfl) (by omega) rfl (fun a3 c3 hc => ?_)
          rw [show ((kinds k p.l).take i).flatMap AV.cells ++ [.int .i64 3, .int .i64 x.n, .int .i64 x.at', .int .i64 x.k, sv x.b, .slice x.pa x.ps.length x.pc] = ((kinds k p.l).take (i + 1)).flatMap AV.cells from flat_take AV.cells (kinds k p.l) i _ hkg]
          (refine r_op (o_fieldAddr rfl rfl ?_); refine r_do (o_store rfl rfl rfl rfl (by simp) ?_); try dsimp only [Nat.reduceSub, Nat.reduceAdd, List.set]; refine r_nil ?_; refine x_inBlock ?_; refine x_region ?_; refine r_op (o_move rfl rfl ?_); refine r_op (o_add rfl rfl (add_i64 (by omega)) rfl ?_); refine r_op (o_assign rfl rfl ?_); refine r_nil ?_)
          refine x_weak (back (i + 1, a3, c3) (by dsimp only; omega) (by dsimp only; omega)) (by (repeat' (first | exact trivial | refine ⟨rfl, ?_⟩))) Sub.h
      · obtain rfl : i = p.l.length := by omega
        rw [List.take_of_length_le (by rw [kinds_length]; omega)]
        (refine r_nil ?_; refine x_false rfl ?_; refine x_exit rfl ?_)
        refine x_weak (back0 (ca, cc) trivial) (by (repeat' (first | exact trivial | refine ⟨rfl, ?_⟩))) Sub.h
  · (refine r_nil ?_; refine x_true rfl ?_; refine x_seq (x_region ?_); refine r_op (o_assign rfl rfl ?_); refine r_nil ?_)
    exact x_ret rfl [A] ⟨rfl, rfl⟩ Sub.h
end Go.Proofs.Ythneebbmodkjiaa
