/- Part of a proof over the seat Ythneebbmodkjiaa: module E22. Its claim's last module says what is proved. -/
import Derived.Test.YthneebbmodkjiaaE20
namespace Go.Proofs.Ythneebbmodkjiaa
open Go.Proofs

theorem RdB.of_ent {A B : HP} {a : Option Addr} {l : List BX} (R : RdB B a l) (Δ : List HP) (he : Ent [A] (B :: Δ)) : RdB A a l := ⟨R.1.of_ent Δ he, fun x hx => (R.2 x hx).of_ent Δ he⟩
/-- The acts of one kind alone, beside puts. -/
def kindX (k : Int) (i : Nat) (x : BX) : BX := { x with k := if 0 < i % 2 then k else 0 }
def kindsX (k : Int) (l : List BX) : List BX := l.mapIdx (kindX k)
theorem kindsX_get {k : Int} {l : List BX} {i : Nat} (h : i < l.length) : (kindsX k l)[i]? = some (kindX k i l[i]) := by simp [kindsX, h]
theorem kindsX_length (k : Int) (l : List BX) : (kindsX k l).length = l.length := by simp [kindsX]
theorem kindsX_mem {k : Int} {l : List BX} {y : BX} (h : y ∈ kindsX k l) : ∃ i x, x ∈ l ∧ y = kindX k i x := by
  obtain ⟨i, hi⟩ := List.getElem?_of_mem h
  have hl : i < l.length := by
    have := (List.getElem?_eq_some_iff.1 hi).1
    rwa [kindsX_length] at this
  rw [kindsX_get hl] at hi
  exact ⟨i, l[i], List.getElem_mem hl, by simpa using hi.symm⟩
theorem flatX_take {α : Type} (g : α → List Value) (l : List α) (i : Nat) (x : α) (h : l[i]? = some x) : (l.take i).flatMap g ++ g x = (l.take (i + 1)).flatMap g := by
  rw [List.take_add_one, h]; simp
theorem BX.cellsV {l : List BX} {i : Nat} (h : i < l.length) {x : BX} (hx : l[i] = x) (j : Nat) (v : Value) (hv : x.cells[j]? = some v) : (l.flatMap BX.cells)[i * 4 + j]? = some v := by
  have hj : j < 4 := (List.getElem?_eq_some_iff.1 hv).1
  rw [bx_get h j hj, hx, hv]
set_option maxHeartbeats 1600000 in
theorem acts_spec {A : HP} {p : TV} (k : Int) (hk : N64 k) (R : TV.Rd A p) (Fi : p.Fi) : Spec Try.prog 75 [p.val, .int .i64 k] [A] (fun v B => v = .bool true ∧ B = [A]) := by
  refine Spec.of_ex Try.func75 rfl Try.ntmps75 rfl fun E cs Γ => ?_
  (simp only [argRho, Nat.reduceAdd, List.cons_append, List.nil_append])
  (refine x_seq ?_); (refine x_region ?_)
  (refine r_op ?_)
  refine o_boxA (vs := p.cells) rfl rfl (fun px => ?_)
  (refine r_op (o_assign rfl rfl ?_); refine r_nil ?_; refine x_seq ?_; refine x_seq (x_region ?_))
  (refine r_op ?_)
  refine o_loadA (us := p.cells) rfl rfl rfl rfl rfl ?_
  (refine r_op ?_)
  refine o_call rfl (heavy10_spec R) rfl ?_
  rintro v B ⟨⟨hb, rfl, hbw⟩, rfl⟩
  (simp only [List.cons_append, List.nil_append])
  cases hb
  · have hl60 := hbw rfl
    have lb := R.lb
    (refine r_nil ?_; refine x_false rfl ?_; refine x_skip ?_; refine x_seq (x_region ?_); refine r_op (o_fieldAddr rfl rfl ?_); refine r_op (o_load rfl rfl rfl rfl ?_); refine r_op (o_fieldAddr rfl rfl ?_); refine r_op (o_load rfl rfl rfl rfl ?_); refine r_op (o_fieldAddr rfl rfl ?_); refine r_op (o_load rfl rfl rfl rfl ?_))
    (refine r_op ?_)
    refine o_build rfl (by rfl) rfl ?_
    (refine r_op ?_)
    refine o_alloc rfl (fun pq => ?_)
    (refine r_do ?_)
    refine o_storeA rfl rfl rfl rfl rfl (Nat.le_refl 4) ?_
    refine r_mem (Γ' := Row pq 0 [.int .i64 p.k, .int .i64 p.f, .slice none 0 0, .slice p.oa p.o.length p.oc] :: A :: Row px 0 p.cells :: Γ) (Ent.row_eq rfl _) ?_
    (refine r_nil ?_; refine x_seq ?_; refine x_seq (x_region ?_); refine r_op (o_assign rfl rfl ?_); refine r_nil ?_)
    refine x_cutK (α := Option Addr × Nat) (fun _ => True) (fun _ => [(5, dp pq)]) (fun z => Row pq 0 [.int .i64 p.k, .int .i64 p.f, .slice z.1 p.l.length z.2, .slice p.oa p.o.length p.oc] :: Sl 4 z.1 p.l.length z.2 ((kindsX k p.l).flatMap BX.cells) :: A :: Γ) ?_ ?_
    · rintro ⟨ca, cc⟩ -
      dsimp only
      have hkl := kindsX_length k p.l
      have RA : Ent [Sep [A, Sl 4 ca p.l.length cc ((kindsX k p.l).flatMap BX.cells)]] (A :: [Sl 4 ca p.l.length cc ((kindsX k p.l).flatMap BX.cells)]) := Ent.sep_out _ []
      have RS : Ent [Sep [A, Sl 4 ca p.l.length cc ((kindsX k p.l).flatMap BX.cells)]] (Sl 4 ca p.l.length cc ((kindsX k p.l).flatMap BX.cells) :: [A]) := (Ent.sep_out _ []).trans (Ent.perm (.swap _ _ _))
      have R' : TV.Rd (Sep [A, Sl 4 ca p.l.length cc ((kindsX k p.l).flatMap BX.cells)]) ⟨p.k, p.f, ca, cc, kindsX k p.l, p.oa, p.oc, p.o⟩ := by
        refine ⟨⟨?_, fun y hy => ?_⟩, R.o.of_ent _ RA, by dsimp only; rw [hkl]; exact R.lb, R.ob, fun y hy => ?_⟩
        · have := (Sl.reads 4 ca p.l.length cc ((kindsX k p.l).flatMap BX.cells) (by rw [flen BX.cl, hkl])).of_ent [A] RS
          dsimp only
          rw [hkl]; exact this
        · obtain ⟨i, x, hx, rfl⟩ := kindsX_mem hy
          exact (R.l.2 x hx).of_ent _ RA
        · obtain ⟨i, x, hx, rfl⟩ := kindsX_mem hy
          exact R.sb x hx
      have F' : TV.Fi ⟨p.k, p.f, ca, cc, kindsX k p.l, p.oa, p.oc, p.o⟩ := ⟨Fi.k, Fi.f, fun y hy => by
        obtain ⟨i, x, hx, rfl⟩ := kindsX_mem hy
        obtain ⟨g1, g2, g3⟩ := Fi.l x hx
        refine ⟨?_, g2, g3⟩
        unfold kindX; dsimp only; split
        · exact hk
        · exact ⟨by decide, by decide⟩, Fi.o⟩
      have S := model_spec R' F'
      unfold TV.val TV.cells at S
      dsimp only at S
      rw [hkl] at S
      refine x_mem (Γ' := Sep [A, Sl 4 ca p.l.length cc ((kindsX k p.l).flatMap BX.cells)] :: Row pq 0 [.int .i64 p.k, .int .i64 p.f, .slice ca p.l.length cc, .slice p.oa p.o.length p.oc] :: Γ) ((Sub.h (Δ := [A, Sl 4 ca p.l.length cc ((kindsX k p.l).flatMap BX.cells)] ++ (Row pq 0 [.int .i64 p.k, .int .i64 p.f, .slice ca p.l.length cc, .slice p.oa p.o.length p.oc] :: Γ))).trans (Ent.sep_in _ _)) ?_
      (refine x_seq (x_region ?_))
      (refine r_op ?_)
      refine o_loadA (us := [.int .i64 p.k, .int .i64 p.f, .slice ca p.l.length cc, .slice p.oa p.o.length p.oc]) rfl rfl rfl rfl rfl ?_
      (refine r_op ?_)
      refine o_call rfl S rfl ?_
      rintro v B ⟨rfl, rfl⟩
      (simp only [List.cons_append, List.nil_append])
      (refine r_op (o_assign rfl rfl ?_); refine r_nil ?_)
      refine x_ret rfl [A] ⟨rfl, rfl⟩ ((Ent.sep_out _ _).trans ?_)
      (simp only [List.cons_append, List.nil_append])
      exact Sub.h
    · intro td back0
      (refine x_block ?_)
      refine x_loop (α := Nat × Option Addr × Nat) (fun z => z.1 ≤ p.l.length) (fun z => [(1, .int .i64 k), (2, dp px), (5, dp pq), (6, .int .i64 z.1)])
        (fun z => Row pq 0 [.int .i64 p.k, .int .i64 p.f, .slice z.2.1 z.1 z.2.2, .slice p.oa p.o.length p.oc] :: Sl 4 z.2.1 z.1 z.2.2 (((kindsX k p.l).take z.1).flatMap BX.cells) :: Row px 0 p.cells :: A :: Γ)
        (fun z => p.l.length - z.1) (0, none, 0) (Nat.zero_le _) ⟨rfl, rfl, rfl, rfl, trivial⟩ ((Ent.nilSl 4 _).trans (by simp only [List.take_zero, List.flatMap_nil]; exact Sub.h)) ?_
      rintro ⟨i, ca, cc⟩ hi back
      dsimp only at hi back ⊢
      (refine x_seq ?_; refine x_seq (x_region ?_); refine r_op (o_move rfl rfl ?_); refine r_op (o_fieldAddr rfl rfl ?_); refine r_op (o_load rfl rfl rfl rfl ?_); refine r_op (o_lenS rfl rfl ?_))
      (refine r_op ?_)
      refine o_lss rfl rfl rfl (fun h => ?_) (fun h => ?_)
      · have hi1 : i < p.l.length := by omega
        (refine r_nil ?_; refine x_true rfl ?_; refine x_skip ?_; refine x_seq ?_; refine x_block ?_; refine x_seq (x_region ?_); refine r_op (o_fieldAddr rfl rfl ?_); refine r_op (o_load rfl rfl rfl rfl ?_); refine r_op (o_move rfl rfl ?_))
        (refine r_op ?_)
        refine o_indexR rfl rfl R.l.1 (j := i) rfl hi1 rfl (fun b1 off ha => ?_)
        obtain ⟨x, hx⟩ : ∃ x, p.l[i] = x := ⟨_, rfl⟩
        have hkg := kindsX_get (k := k) hi1
        rw [hx] at hkg
        (refine r_op ?_)
        refine o_loadAR rfl R.l.1 ha (i := i * 4) (us := x.cells) (by omega) rfl (BX.cellsV hi1 hx) rfl ?_
        (refine r_op ?_)
        refine o_alloc rfl (fun pa => ?_)
        (refine r_do ?_)
        refine o_storeA rfl rfl rfl rfl rfl (Nat.le_refl 4) ?_
        refine r_mem (Γ' := Row pa 0 x.cells :: Row pq 0 [.int .i64 p.k, .int .i64 p.f, .slice ca i cc, .slice p.oa p.o.length p.oc] :: Sl 4 ca i cc (((kindsX k p.l).take i).flatMap BX.cells) :: Row px 0 p.cells :: A :: Γ) (Ent.row_eq rfl _) ?_
        by_cases h3 : 0 < i % 2
        · have e : kindX k i x = { x with k := k } := by unfold kindX; rw [if_pos h3]
          rw [e] at hkg
          (refine r_nil ?_; refine x_seq (x_region ?_); refine r_op (o_move rfl rfl ?_); refine r_op (o_fieldAddr rfl rfl ?_); refine r_do (o_storeI (i := 0) rfl rfl rfl (by omega) rfl ?_); (try dsimp only [List.set]); refine r_nil ?_; refine x_seq ?_; refine x_seq (x_region ?_); refine r_op (o_move rfl rfl ?_); refine r_op (o_rem rfl rfl (by omega) (by omega) rfl ?_); refine r_op (o_eql_f rfl rfl (by omega) rfl ?_); refine r_nil ?_; refine x_false rfl ?_; refine x_skip ?_; refine x_region ?_; refine r_op (o_fieldAddr rfl rfl ?_); refine r_op (o_load rfl rfl rfl rfl ?_))
          (refine r_op ?_)
          refine o_loadA (us := BX.cells { x with k := k }) rfl rfl rfl rfl rfl ?_
          (refine r_op ?_)
          refine o_buildSlice rfl (by rfl) (by rfl) (by rfl) (by rfl) rfl (fun a2 => ?_)
          (refine r_op ?_)
          refine o_appendT rfl rfl (by rfl) (by rfl) (by rfl) (by omega) rfl (fun a3 c3 hc => ?_)
          rw [show ((kindsX k p.l).take i).flatMap BX.cells ++ [.int .i64 k, .int .i64 x.n, tv x.s, .slice x.pa x.ps.length x.pc] = ((kindsX k p.l).take (i + 1)).flatMap BX.cells from flatX_take BX.cells (kindsX k p.l) i _ hkg]
          (refine r_op (o_fieldAddr rfl rfl ?_); refine r_do (o_store rfl rfl rfl rfl (by simp) ?_); (try dsimp only [Nat.reduceSub, Nat.reduceAdd, List.set]); refine r_nil ?_; refine x_inBlock ?_; refine x_region ?_; refine r_op (o_move rfl rfl ?_); refine r_op (o_add rfl rfl (add_i64 (by omega)) rfl ?_); refine r_op (o_assign rfl rfl ?_); refine r_nil ?_)
          refine x_weak (back (i + 1, a3, c3) (by dsimp only; omega) (by dsimp only; omega)) (by (repeat' (first | exact trivial | refine ⟨rfl, ?_⟩))) Sub.h
        · have e : kindX k i x = { x with k := 0 } := by unfold kindX; rw [if_neg h3]
          rw [e] at hkg
          (refine r_nil ?_; refine x_seq (x_region ?_); refine r_op (o_move rfl rfl ?_); refine r_op (o_fieldAddr rfl rfl ?_); refine r_do (o_storeI (i := 0) rfl rfl rfl (by omega) rfl ?_); (try dsimp only [List.set]); refine r_nil ?_; refine x_seq ?_; refine x_seq (x_region ?_); refine r_op (o_move rfl rfl ?_); refine r_op (o_rem rfl rfl (by omega) (by omega) rfl ?_); refine r_op (o_eql_t rfl rfl (by omega) rfl ?_); refine r_nil ?_; refine x_true rfl ?_; refine x_region ?_; refine r_op (o_fieldAddr rfl rfl ?_); refine r_do (o_storeI (i := 0) rfl rfl rfl (by omega) rfl ?_); (try dsimp only [List.set]); refine r_nil ?_; refine x_region ?_; refine r_op (o_fieldAddr rfl rfl ?_); refine r_op (o_load rfl rfl rfl rfl ?_))
          (refine r_op ?_)
          refine o_loadA (us := BX.cells { x with k := 0 }) rfl rfl rfl rfl rfl ?_
          (refine r_op ?_)
          refine o_buildSlice rfl (by rfl) (by rfl) (by rfl) (by rfl) rfl (fun a2 => ?_)
          (refine r_op ?_)
          refine o_appendT rfl rfl (by rfl) (by rfl) (by rfl) (by omega) rfl (fun a3 c3 hc => ?_)
          rw [show ((kindsX k p.l).take i).flatMap BX.cells ++ [.int .i64 0, .int .i64 x.n, tv x.s, .slice x.pa x.ps.length x.pc] = ((kindsX k p.l).take (i + 1)).flatMap BX.cells from flatX_take BX.cells (kindsX k p.l) i _ hkg]
          (refine r_op (o_fieldAddr rfl rfl ?_); refine r_do (o_store rfl rfl rfl rfl (by simp) ?_); (try dsimp only [Nat.reduceSub, Nat.reduceAdd, List.set]); refine r_nil ?_; refine x_inBlock ?_; refine x_region ?_; refine r_op (o_move rfl rfl ?_); refine r_op (o_add rfl rfl (add_i64 (by omega)) rfl ?_); refine r_op (o_assign rfl rfl ?_); refine r_nil ?_)
          refine x_weak (back (i + 1, a3, c3) (by dsimp only; omega) (by dsimp only; omega)) (by (repeat' (first | exact trivial | refine ⟨rfl, ?_⟩))) Sub.h
      · obtain rfl : i = p.l.length := by omega
        rw [List.take_of_length_le (by rw [kindsX_length]; omega)]
        (refine r_nil ?_; refine x_false rfl ?_; refine x_exit rfl ?_)
        refine x_weak (back0 (ca, cc) trivial) (by (repeat' (first | exact trivial | refine ⟨rfl, ?_⟩))) Sub.h
  · (refine r_nil ?_; refine x_true rfl ?_; refine x_seq (x_region ?_); refine r_op (o_assign rfl rfl ?_); refine r_nil ?_)
    exact x_ret rfl [A] ⟨rfl, rfl⟩ Sub.h
end Go.Proofs.Ythneebbmodkjiaa
