/- Part of a proof over the seat Ythneebbmodkjiaa: module K1. Its claim's last module says what is proved. -/
import Derived.Test.YthneebbmodkjiaaE12
import Derived.Test.YthneebbmodkjiaaSLq
import Derived.Test.YthneebbmodkjiaaE15
namespace Go.Proofs.Ythneebbmodkjiaa
open Go.Proofs

/-! ### Racks -/
abbrev RG (b : Nat) : Nat → Nat × Sh → HP := fun _ x => ShelfI x.1 b x.2
abbrev rpv (xs : List (Nat × Sh)) : List Value := xs.map fun x => dp x.1
/-- A rack of the program: its shelves, somewhere. -/
def RackI (r b : Nat) (ss : List Sh) : HP := Any fun xs : List (Nat × Sh) => Fact (xs.map Prod.snd = ss ∧ xs.length = 4) (Sep [Row r 0 (rpv xs), Parts (RG b) xs])
abbrev RX (ss : List Sh) : Type := { xs : List (Nat × Sh) // xs.map Prod.snd = ss ∧ xs.length = 4 }
theorem St.rack {E : Env} {r b : Nat} {ss : List Sh} {Γ : List HP} {w : World} (s : St E (RackI r b ss :: Γ) w) : ∃ xs : RX ss, St E (Row r 0 (rpv xs.1) :: Parts (RG b) xs.1 :: Γ) w := by
  obtain ⟨xs, s⟩ := s.ex
  obtain ⟨h, s⟩ := s.fact
  exact ⟨⟨xs, h⟩, (Ent.sep_out [_, _] Γ).st s⟩
theorem Ent.rack {r b : Nat} {ss : List Sh} (xs : List (Nat × Sh)) (h : xs.map Prod.snd = ss ∧ xs.length = 4) (Γ : List HP) : Ent (Row r 0 (rpv xs) :: Parts (RG b) xs :: Γ) (RackI r b ss :: Γ) :=
  (Ent.sep_in [_, _] Γ).trans ((Ent.fact h Γ).trans (Ent.ex (A := fun xs : List (Nat × Sh) => Fact (xs.map Prod.snd = ss ∧ xs.length = 4) (Sep [Row r 0 (rpv xs), Parts (RG b) xs])) xs Γ))
theorem rpv_get {xs : List (Nat × Sh)} {k : Nat} (h : k < xs.length) : (rpv xs)[k]? = some (dp xs[k].1) := by simp [rpv, h]
theorem rpv_set {xs : List (Nat × Sh)} {k : Nat} (h : k < xs.length) (s : Sh) : rpv (xs.set k (xs[k].1, s)) = rpv xs := by
  unfold rpv
  rw [List.map_set]
  refine List.ext_getElem (by simp) fun i h1 h2 => ?_
  rw [List.getElem_set]
  split
  · rename_i e; subst e; simp
  · rfl
theorem rsh_set {ss : List Sh} (xs : RX ss) {k : Nat} (h : k < xs.1.length) (s : Sh) : (xs.1.set k (xs.1[k].1, s)).map Prod.snd = ss.set k s ∧ (xs.1.set k (xs.1[k].1, s)).length = 4 := by
  refine ⟨?_, by rw [List.length_set]; exact xs.2.2⟩
  rw [List.map_set, xs.2.1]
theorem rsh_get {ss : List Sh} (xs : RX ss) {k : Nat} (h : k < xs.1.length) : ss[k]? = some xs.1[k].2 := by
  obtain ⟨xs, rfl, h4⟩ := xs
  rw [List.getElem?_map, List.getElem?_eq_getElem h]; rfl
theorem rpv_all {xs : List (Nat × Sh)} (h : xs.length = 4) : (rpv xs).length = 4 ∧ ((rpv xs).drop (0 + 0 - 0)).take 4 = rpv xs := by
  have h2 : (rpv xs).length = 4 := by simp [rpv, h]
  exact ⟨h2, by rw [Nat.add_zero, Nat.sub_zero, List.drop_zero, List.take_of_length_le (by omega)]⟩
theorem rk_failed {k : Nat} {ss : List Sh} {s : Sh} (h : (ss.take k).any (·.failed) = false) (hs : ss[k]? = some s) : (ss.take (k + 1)).any (·.failed) = s.failed := by
  rw [List.take_add_one, hs, List.any_append, h]; simp
/-- A shelf has failed. -/
def rfail (ss : List Sh) : Bool := ss.any (·.failed)
set_option maxHeartbeats 800000 in
theorem rfailed_spec (r b : Nat) (ss : List Sh) : Spec Try.prog 88 [dp r] [RackI r b ss] (fun v B => v = .bool (rfail ss) ∧ B = [RackI r b ss]) := by
  refine Spec.of_ex Try.func88 rfl Try.ntmps88 rfl fun E cs Γ => ?_
  (simp only [argRho, List.cons_append, List.nil_append])
  refine x_open (fun E w st => st.rack) fun xs => ?_
  have hx4 := xs.2.2
  have hs4 : ss.length = 4 := by rw [← xs.2.1]; simp [hx4]
  (refine x_seq (x_region ?_); refine r_op (o_assign rfl rfl ?_); refine r_nil ?_; refine x_seq ?_; refine x_seq (x_region ?_); refine r_op (o_move rfl rfl ?_); refine r_op (o_nilCheck rfl rfl ?_); refine r_op (o_fieldAddr rfl rfl ?_))
  (refine r_op ?_)
  refine o_loadA (us := rpv xs.1) rfl rfl (rpv_all hx4).2 (rpv_all hx4).1 rfl ?_
  (refine r_op (o_move rfl rfl ?_); refine r_nil ?_; refine x_block ?_)
  refine x_loop (α := Nat) (fun k => k ≤ 4 ∧ (ss.take k).any (·.failed) = false) (fun k => [(8, .agg (rpv xs.1).toArray), (9, .int .i64 k)]) (fun _ => Row r 0 (rpv xs.1) :: Parts (RG b) xs.1 :: Γ) (fun k => 4 - k) 0 ⟨Nat.zero_le _, rfl⟩ ⟨rfl, rfl, trivial⟩ Sub.h ?_
  rintro k ⟨hk, hf⟩ back
  (refine x_seq (x_region ?_))
  by_cases h : k < 4
  · have hkx : k < xs.1.length := by omega
    have hnx := rk_failed hf (rsh_get xs hkx)
    (refine r_op (o_lss_t rfl rfl (by omega) rfl ?_); refine r_nil ?_; refine x_seq ?_; refine x_true rfl ?_; refine x_skip ?_; refine x_seq ?_; refine x_block ?_; refine x_seq (x_region ?_))
    (refine r_op ?_)
    refine o_indexV rfl rfl rfl (by omega) (rpv_get hkx) rfl ?_
    (refine r_op (o_assign rfl rfl ?_); refine r_nil ?_; refine x_seq (x_region ?_); refine r_op (o_move rfl rfl ?_))
    refine r_mem (Γ' := ShelfI xs.1[k].1 b xs.1[k].2 :: Hole (RG b) xs.1 k :: Row r 0 (rpv xs.1) :: Γ) ((Sub.h (Δ := Parts (RG b) xs.1 :: Row r 0 (rpv xs.1) :: Γ)).trans (Ent.focus (RG b) xs.1 k hkx _)) ?_
    (refine r_op ?_)
    refine o_call rfl (failed_spec xs.1[k].1 b xs.1[k].2) rfl ?_
    rintro v B ⟨rfl, rfl⟩
    (simp only [List.cons_append, List.nil_append])
    refine r_mem (Γ' := Parts (RG b) xs.1 :: Row r 0 (rpv xs.1) :: Γ) (Ent.unfocus' (RG b) xs.1 k hkx _) ?_
    cases hfl : xs.1[k].2.failed with
    | true =>
      have hR : rfail ss = true := by
        unfold rfail
        rw [List.any_eq_true]
        exact ⟨xs.1[k].2, List.mem_of_getElem? (rsh_get xs hkx), hfl⟩
      (refine r_nil ?_; refine x_true rfl ?_; refine x_seq (x_region ?_); refine r_op (o_assign rfl rfl ?_); refine r_nil ?_)
      exact x_ret rfl [RackI r b ss] ⟨by rw [hR]; rfl, rfl⟩ ((Sub.h (Δ := Row r 0 (rpv xs.1) :: Parts (RG b) xs.1 :: Γ)).trans (Ent.rack xs.1 xs.2 Γ))
    | false =>
      rw [hfl] at hnx
      (refine r_nil ?_; refine x_false rfl ?_; refine x_skip ?_; refine x_inBlock ?_; refine x_region ?_; refine r_op (o_add rfl rfl (add_i64 (by omega)) rfl ?_); refine r_op (o_move rfl rfl ?_); refine r_nil ?_)
      refine x_weak (back (k + 1) ⟨by omega, hnx⟩ (by omega)) (by (repeat' (first | exact trivial | refine ⟨rfl, ?_⟩))) Sub.h
  · have hR : rfail ss = false := by
      rw [List.take_of_length_le (by omega)] at hf
      exact hf
    (refine r_op (o_lss_f rfl rfl (by omega) rfl ?_); refine r_nil ?_; refine x_seq ?_; refine x_false rfl ?_; refine x_exit rfl ?_; refine x_seq (x_region ?_); refine r_op (o_assign rfl rfl ?_); refine r_nil ?_)
    exact x_ret rfl [RackI r b ss] ⟨by rw [hR]; rfl, rfl⟩ ((Sub.h (Δ := Row r 0 (rpv xs.1) :: Parts (RG b) xs.1 :: Γ)).trans (Ent.rack xs.1 xs.2 Γ))
/-- A place in a rack. -/
abbrev refC (at' : Int × Int) : List Value := [.int .i64 at'.1, .int .i64 at'.2]
abbrev refV (at' : Int × Int) : Value := .agg (refC at').toArray
theorem has_spec (r : Nat) (at' : Int × Int) : Spec Try.prog 115 [dp r, refV at'] [] (fun v B => v = .bool (decide (0 ≤ at'.1) && decide (at'.1 < 4)) ∧ B = []) := by
  refine Spec.of_ex Try.func115 rfl Try.ntmps115 rfl fun E cs Γ => ?_
  (simp only [argRho, Nat.reduceAdd, List.nil_append])
  (refine x_seq ?_); (refine x_region ?_)
  (refine r_op ?_)
  refine o_boxA (vs := refC at') rfl rfl (fun p3 => ?_)
  (refine r_op (o_assign rfl rfl ?_); refine r_nil ?_; refine x_seq (x_region ?_); refine r_op (o_fieldAddr rfl rfl ?_); refine r_op (o_load rfl rfl rfl rfl ?_))
  (refine r_op ?_)
  refine o_geq rfl rfl rfl (fun h => ?_) (fun h => ?_)
  · (refine r_op (o_move rfl rfl ?_); refine r_guard rfl (o_fieldAddr rfl rfl ?_); refine r_guard rfl (o_load rfl rfl rfl rfl ?_))
    (refine r_guard rfl ?_)
    refine o_lss rfl rfl rfl (fun h2 => ?_) (fun h2 => ?_)
    · (refine r_op (o_pick_t rfl rfl rfl ?_); refine r_op (o_assign rfl rfl ?_); refine r_nil ?_)
      exact x_ret rfl [] ⟨by rw [decide_eq_true h, decide_eq_true h2]; rfl, rfl⟩ Sub.h
    · (refine r_op (o_pick_t rfl rfl rfl ?_); refine r_op (o_assign rfl rfl ?_); refine r_nil ?_)
      exact x_ret rfl [] ⟨by rw [decide_eq_true h, decide_eq_false h2]; rfl, rfl⟩ Sub.h
  · (refine r_op (o_move rfl rfl ?_); refine r_skip rfl rfl rfl ?_; refine r_skip rfl rfl rfl ?_; refine r_skip rfl rfl rfl ?_; refine r_op (o_pick_f rfl rfl rfl ?_); refine r_op (o_assign rfl rfl ?_); refine r_nil ?_)
    exact x_ret rfl [] ⟨by rw [decide_eq_false h]; rfl, rfl⟩ Sub.h
/-- The shelf's number, if there is one. -/
def rhas (at' : Int × Int) : Bool := decide (0 ≤ at'.1) && decide (at'.1 < 4)
def sh0 : Sh := ⟨0, 0, [], false⟩
def rget (ss : List Sh) (at' : Int × Int) : Tx × Int := if rhas at' then (ss.getD at'.1.toNat sh0).get at'.2 else ([], 3)
def rdel (ss : List Sh) (d : Dk) (at' : Int × Int) : List Sh × Dk × Int :=
  if rfail ss then (ss, d, 14) else if rhas at' then (ss.set at'.1.toNat ((ss.getD at'.1.toNat sh0).del d at'.2).1, ((ss.getD at'.1.toNat sh0).del d at'.2).2.1, ((ss.getD at'.1.toNat sh0).del d at'.2).2.2) else (ss, d, 3)
set_option maxHeartbeats 1600000 in
theorem rget_spec (r b : Nat) (ss : List Sh) (at' : Int × Int) (hl : ∀ s ∈ ss, s.es.length ≤ 2 ^ 40) : Spec Try.prog 83 [dp r, refV at'] [RackI r b ss] (fun v B => v = .tuple #[.string (bstr (rget ss at').1), .int .i64 (rget ss at').2] ∧ B = [RackI r b ss]) := by
  refine Spec.of_ex Try.func83 rfl Try.ntmps83 rfl fun E cs Γ => ?_
  (simp only [argRho, Nat.reduceAdd, List.cons_append, List.nil_append])
  (refine x_seq ?_); (refine x_region ?_)
  (refine r_op ?_)
  refine o_boxA (vs := refC at') rfl rfl (fun p3 => ?_)
  (refine r_op (o_assign rfl rfl ?_); refine r_op (o_assign rfl rfl ?_); refine r_nil ?_; refine x_seq ?_; refine x_seq (x_region ?_); refine r_op (o_move rfl rfl ?_))
  (refine r_op ?_)
  refine o_loadA (us := refC at') rfl rfl rfl rfl rfl ?_
  (refine r_op ?_)
  refine o_call rfl (has_spec r at') rfl ?_
  rintro v B ⟨rfl, rfl⟩
  rw [show (decide (0 ≤ at'.1) && decide (at'.1 < 4)) = rhas at' from rfl]
  (simp only [List.nil_append])
  cases hh : rhas at' with
  | false =>
    (refine r_op (o_not rfl rfl ?_); refine r_nil ?_; refine x_true rfl ?_; refine x_seq (x_region ?_); refine r_op (o_assign rfl rfl ?_); refine r_op (o_assign rfl rfl ?_); refine r_nil ?_)
    exact x_ret rfl [RackI r b ss] ⟨by unfold rget; rw [hh]; rfl, rfl⟩ Sub.h
  | true =>
    unfold rhas at hh
    simp only [Bool.and_eq_true, decide_eq_true_eq] at hh
    obtain ⟨k, hk⟩ : ∃ k : Nat, at'.1 = k := ⟨at'.1.toNat, by omega⟩
    (refine r_op (o_not rfl rfl ?_); refine r_nil ?_; refine x_false rfl ?_; refine x_skip ?_; refine x_seq ?_)
    refine x_open (Γ' := fun xs : RX ss => Row r 0 (rpv xs.1) :: Parts (RG b) xs.1 :: Row p3 0 (refC at') :: Γ) (fun E w st => by
      have st := (Sub.h (Δ := RackI r b ss :: Row p3 0 (refC at') :: Γ)).st st
      exact st.rack) fun xs => ?_
    have hkx : k < xs.1.length := by have := xs.2.2; omega
    refine x_mem (Γ' := ShelfI xs.1[k].1 b xs.1[k].2 :: Hole (RG b) xs.1 k :: Row r 0 (rpv xs.1) :: Row p3 0 (refC at') :: Γ) ((Sub.h (Δ := Parts (RG b) xs.1 :: Row r 0 (rpv xs.1) :: Row p3 0 (refC at') :: Γ)).trans (Ent.focus (RG b) xs.1 k hkx _)) ?_
    refine x_script 12 [(0,false),(1,false),(2,false),(3,false),(4,false),(5,false),(6,false),(7,false),(8,false),(9,true),(10,false),(11,false),(12,false),(13,false)] [Row r 0 (rpv xs.1), Row p3 0 (refC at')] mixed (by kernel_rfl) permF ?_
    (refine s_v rfl (v_move rfl) ?_; refine s_v rfl (v_fieldAddr rfl) ?_; refine s_v rfl (v_load rfl rfl rfl) ?_; refine s_v rfl (v_nilCheck rfl) ?_; refine s_v rfl (v_fieldAddr rfl) ?_)
    refine s_v rfl (v_indexA rfl rfl hk (by omega)) ?_
    refine s_v rfl (v_loadI (i := k) rfl (by omega) (rpv_get hkx)) ?_
    (refine s_v rfl (v_fieldAddr rfl) ?_; refine s_v rfl (v_load rfl rfl rfl) ?_)
    have hsk := rsh_get xs hkx
    have hgd : ss.getD at'.1.toNat sh0 = xs.1[k].2 := by rw [hk, Int.toNat_natCast, List.getD_eq_getElem?_getD, hsk]; rfl
    have hg : rget ss at' = xs.1[k].2.get at'.2 := by
      unfold rget rhas; rw [decide_eq_true hh.1, decide_eq_true hh.2, hgd]; rfl
    refine s_x rfl (o_call rfl (get_spec xs.1[k].1 b xs.1[k].2 at'.2 (hl _ (List.mem_of_getElem? hsk))) rfl ?_)
    rintro v B ⟨rfl, rfl⟩
    refine ⟨permF, ?_⟩
    (simp only [List.cons_append, List.nil_append])
    rw [← hg]
    (refine s_v rfl (v_extract rfl rfl) ?_; refine s_v rfl (v_extract rfl rfl) ?_; refine s_v rfl (v_assign rfl) ?_; refine s_v rfl (v_assign rfl) ?_)
    refine s_end rfl ?_
    skip
    exact x_ret rfl [RackI r b ss] ⟨rfl, rfl⟩ ((Sub.h (Δ := ShelfI xs.1[k].1 b xs.1[k].2 :: Hole (RG b) xs.1 k :: Row r 0 (rpv xs.1) :: Γ)).trans ((Ent.unfocus' (RG b) xs.1 k hkx _).trans ((Ent.perm (.swap _ _ _)).trans (Ent.rack xs.1 xs.2 Γ))))
set_option maxHeartbeats 1600000 in
theorem rdel_spec {N : Nat} (r b : Nat) (ss : List Sh) (d : Dk) (at' : Int × Int) (hok : d.okn N) (hN : N + 20 ≤ 2 ^ 20) (hl : ∀ s ∈ ss, s.n ≤ 2 ^ 20 ∧ s.es.length ≤ 2 ^ 20) :
    Spec Try.prog 84 [dp r, refV at'] [RackI r b ss, DiskI b d] (fun v B => v = .int .i64 (rdel ss d at').2.2 ∧ B = [RackI r b (rdel ss d at').1, DiskI b (rdel ss d at').2.1]) := by
  refine Spec.of_ex Try.func84 rfl Try.ntmps84 rfl fun E cs Γ => ?_
  (simp only [argRho, Nat.reduceAdd, List.cons_append, List.nil_append])
  (refine x_seq ?_); (refine x_region ?_)
  (refine r_op ?_)
  refine o_boxA (vs := refC at') rfl rfl (fun p3 => ?_)
  (refine r_op (o_assign rfl rfl ?_); refine r_nil ?_; refine x_seq ?_; refine x_block ?_; refine x_seq (x_region ?_); refine r_op (o_move rfl rfl ?_))
  (refine r_op ?_)
  refine o_call rfl (rfailed_spec r b ss) rfl ?_
  rintro v B ⟨rfl, rfl⟩
  (simp only [List.cons_append, List.nil_append])
  cases hf : rfail ss with
  | true =>
    (refine r_op (o_assign rfl rfl ?_); refine r_nil ?_; refine x_true rfl ?_; refine x_seq (x_region ?_); refine r_op (o_assign rfl rfl ?_); refine r_nil ?_)
    have e : rdel ss d at' = (ss, d, 14) := by unfold rdel; rw [hf]; rfl
    exact x_ret rfl [RackI r b ss, DiskI b d] ⟨by rw [e]; rfl, by rw [e]⟩ Sub.h
  | false =>
    (refine r_op (o_assign rfl rfl ?_); refine r_nil ?_; refine x_false rfl ?_; refine x_seq (x_region ?_); refine r_op (o_move rfl rfl ?_))
    (refine r_op ?_)
    refine o_loadA (us := refC at') rfl rfl rfl rfl rfl ?_
    (refine r_op ?_)
    refine o_call rfl (has_spec r at') rfl ?_
    rintro v B ⟨rfl, rfl⟩
    rw [show (decide (0 ≤ at'.1) && decide (at'.1 < 4)) = rhas at' from rfl]
    (simp only [List.nil_append])
    cases hh : rhas at' with
    | false =>
      (refine r_op (o_not rfl rfl ?_); refine r_op (o_assign rfl rfl ?_); refine r_nil ?_; refine x_true rfl ?_; refine x_seq (x_region ?_); refine r_op (o_assign rfl rfl ?_); refine r_nil ?_)
      have e : rdel ss d at' = (ss, d, 3) := by unfold rdel; rw [hf, hh]; rfl
      exact x_ret rfl [RackI r b ss, DiskI b d] ⟨by rw [e]; rfl, by rw [e]⟩ Sub.h
    | true =>
      have hh' := hh
      unfold rhas at hh
      simp only [Bool.and_eq_true, decide_eq_true_eq] at hh
      obtain ⟨k, hk⟩ : ∃ k : Nat, at'.1 = k := ⟨at'.1.toNat, by omega⟩
      (refine r_op (o_not rfl rfl ?_); refine r_op (o_assign rfl rfl ?_); refine r_nil ?_; refine x_false rfl ?_; refine x_skip ?_; refine x_inBlock ?_; refine x_seq ?_)
      refine x_open (Γ' := fun xs : RX ss => Row r 0 (rpv xs.1) :: Parts (RG b) xs.1 :: DiskI b d :: Row p3 0 (refC at') :: Γ) (fun E w st => by
        have st := (Sub.h (Δ := RackI r b ss :: DiskI b d :: Row p3 0 (refC at') :: Γ)).st st
        exact st.rack) fun xs => ?_
      have hkx : k < xs.1.length := by have := xs.2.2; omega
      refine x_mem (Γ' := ShelfI xs.1[k].1 b xs.1[k].2 :: Hole (RG b) xs.1 k :: Row r 0 (rpv xs.1) :: DiskI b d :: Row p3 0 (refC at') :: Γ) ((Sub.h (Δ := Parts (RG b) xs.1 :: Row r 0 (rpv xs.1) :: DiskI b d :: Row p3 0 (refC at') :: Γ)).trans (Ent.focus (RG b) xs.1 k hkx _)) ?_
      refine x_script 10 [(0,false),(1,false),(2,false),(3,false),(4,false),(5,false),(6,false),(7,false),(8,false),(9,true),(10,false)] [Row r 0 (rpv xs.1), Row p3 0 (refC at')] mixed (by kernel_rfl) permF ?_
      (refine s_v rfl (v_move rfl) ?_; refine s_v rfl (v_fieldAddr rfl) ?_; refine s_v rfl (v_load rfl rfl rfl) ?_; refine s_v rfl (v_nilCheck rfl) ?_; refine s_v rfl (v_fieldAddr rfl) ?_)
      refine s_v rfl (v_indexA rfl rfl hk (by omega)) ?_
      refine s_v rfl (v_loadI (i := k) rfl (by omega) (rpv_get hkx)) ?_
      (refine s_v rfl (v_fieldAddr rfl) ?_; refine s_v rfl (v_load rfl rfl rfl) ?_)
      have hsk := rsh_get xs hkx
      have hgd : ss.getD k sh0 = xs.1[k].2 := by rw [List.getD_eq_getElem?_getD, hsk]; rfl
      have hl' := hl _ (List.mem_of_getElem? hsk)
      obtain ⟨q, hq⟩ : ∃ q, xs.1[k].2.del d at'.2 = q := ⟨_, rfl⟩
      have hg : rdel ss d at' = (ss.set k q.1, q.2.1, q.2.2) := by
        unfold rdel; rw [hf, hh', hk, Int.toNat_natCast, hgd, hq]; rfl
      have SD := del_spec xs.1[k].1 b xs.1[k].2 d at'.2 hok hN hl'.1 hl'.2
      rw [hq] at SD
      refine s_x rfl (o_call rfl SD rfl ?_)
      rintro v B ⟨rfl, rfl⟩
      refine ⟨permF, ?_⟩
      (simp only [List.cons_append, List.nil_append])
      (refine s_v rfl (v_assign rfl) ?_)
      refine s_end rfl ?_
      skip
      have hset := rsh_set xs hkx q.1
      refine x_ret rfl [RackI r b (ss.set k q.1), DiskI b q.2.1] ⟨by rw [hg]; rfl, by rw [hg]⟩ ((Sub.h (Δ := ShelfI xs.1[k].1 b q.1 :: Hole (RG b) xs.1 k :: Row r 0 (rpv xs.1) :: DiskI b q.2.1 :: Γ)).trans ?_)
      refine (Ent.unfocus (RG b) xs.1 k (xs.1[k].1, q.1) hkx _).trans ((Ent.perm (.swap _ _ _)).trans ?_)
      have h2 := Ent.rack (r := r) (b := b) (xs.1.set k (xs.1[k].1, q.1)) hset (DiskI b q.2.1 :: Γ)
      rw [rpv_set hkx] at h2
      exact h2
end Go.Proofs.Ythneebbmodkjiaa


namespace Go.Proofs.Ythneebbmodkjiaa
open Go.Proofs

instance : FunRetC Try.prog 82 [.cell 4 98, .tmp 5] := ⟨_, Try.func82, rfl⟩
def rput (ss : List Sh) (d : Dk) (t : Tx) : List Sh × Dk × (Int × Int) × Int :=
  if rfail ss then (ss, d, (0, 0), 14) else if (sizeOf t.length).2 ≠ 0 then (ss, d, (0, 0), (sizeOf t.length).2)
  else
    let q := (ss.getD (sizeOf t.length).1.toNat sh0).put d t
    (ss.set (sizeOf t.length).1.toNat q.1, q.2.1, if q.2.2.2 ≠ 0 then (0, 0) else ((sizeOf t.length).1, q.2.2.1), q.2.2.2)
theorem sizeOf_cases (n : Nat) : sizeOf n = (0, 2) ∧ 1008 < n ∨ ∃ k : Nat, k < 4 ∧ sizeOf n = ((k : Int), 0) ∧ n + 16 ≤ 128 * 2 ^ k ∧ (0 < k → 128 * 2 ^ (k - 1) < n + 16) := by
  by_cases h3 : n ≤ 1008
  · right
    have hd : n ≤ 112 ∨ (112 < n ∧ n ≤ 240) ∨ (240 < n ∧ n ≤ 496) ∨ (496 < n ∧ n ≤ 1008) := by omega
    unfold sizeOf
    rcases hd with h | ⟨h1, h2⟩ | ⟨h1, h2⟩ | ⟨h1, h2⟩
    · exact ⟨0, by omega, by rw [if_neg (by omega), if_pos (by omega)]; rfl, by omega, by omega⟩
    · exact ⟨1, by omega, by rw [if_neg (by omega), if_neg (by omega), if_pos (by omega)]; rfl, by omega, by omega⟩
    · exact ⟨2, by omega, by rw [if_neg (by omega), if_neg (by omega), if_neg (by omega), if_pos (by omega)]; rfl, by omega, by omega⟩
    · exact ⟨3, by omega, by rw [if_neg (by omega), if_neg (by omega), if_neg (by omega), if_neg (by omega), if_pos (by omega)]; rfl, by omega, by omega⟩
  · left
    unfold sizeOf
    exact ⟨by rw [if_neg (by omega), if_neg (by omega), if_neg (by omega), if_neg (by omega), if_neg (by omega)], by omega⟩
theorem rv_row {P : Program} {Δ : List HP} {ρ : Rho} {i ty b off s : Nat} {us : List Value} [T : TyAgg P ty s] (h : ev ρ (.tmp i) = some (.pointer (some ⟨b, off, none⟩))) [H : HasRow Δ b off us] (hl : us.length = s) : RV P Δ ρ (.cell i ty) (.agg us.toArray) :=
  rv_agg h hl fun _ _ hj _ _ st => (st.hasRow (b := b) hj).1
set_option maxHeartbeats 1600000 in
theorem rput_spec {N : Nat} (r b : Nat) (ss : List Sh) (d : Dk) (t : Tx) (hok : d.okn N) (hN : N + 20 ≤ 2 ^ 20) (hl : ∀ s ∈ ss, (16 ≤ s.n ∧ s.n ≤ 2 ^ 20) ∧ s.es.length ≤ 2 ^ 20) (ht : t.length ≤ 2 ^ 62) :
    Spec Try.prog 82 [dp r, tv t] [RackI r b ss, DiskI b d] (fun v B => v = .tuple #[refV (rput ss d t).2.2.1, .int .i64 (rput ss d t).2.2.2] ∧ B = [RackI r b (rput ss d t).1, DiskI b (rput ss d t).2.1]) := by
  refine Spec.of_ex Try.func82 rfl Try.ntmps82 rfl fun E cs Γ => ?_
  (simp only [argRho, Nat.reduceAdd, List.cons_append, List.nil_append])
  (refine x_seq ?_); (refine x_region ?_)
  (refine r_op ?_)
  refine o_alloc rfl (fun p4 => ?_)
  (refine r_op (o_assign rfl rfl ?_); refine r_nil ?_; refine x_seq ?_; refine x_seq (x_region ?_); refine r_op (o_move rfl rfl ?_))
  (refine r_op ?_)
  refine o_call rfl (rfailed_spec r b ss) rfl ?_
  rintro v B ⟨rfl, rfl⟩
  (simp only [List.cons_append, List.nil_append])
  cases hf : rfail ss with
  | true =>
    have e : rput ss d t = (ss, d, (0, 0), 14) := by unfold rput; rw [hf]; rfl
    (refine r_nil ?_; refine x_true rfl ?_; refine x_seq (x_region ?_))
    (refine r_op ?_)
    refine o_build rfl (by rfl) rfl ?_
    (refine r_do ?_)
    refine o_storeA rfl rfl rfl rfl rfl (Nat.le_refl 2) ?_
    (refine r_op (o_assign rfl rfl ?_); refine r_nil ?_)
    refine x_mem (Γ' := RackI r b ss :: Row p4 0 (refC (0, 0)) :: DiskI b d :: Γ) (.refl _) ?_
    exact x_retC (rs := [.cell 4 98, .tmp 5]) (vs := [refV (0, 0), .int .i64 14]) ⟨rv_row rfl rfl, rv_tmp rfl, trivial⟩ [RackI r b ss, DiskI b d] ⟨by rw [e]; rfl, by rw [e]⟩ Sub.h
  | false =>
    (refine r_nil ?_; refine x_false rfl ?_; refine x_skip ?_; refine x_seq (x_region ?_); refine r_op (o_move rfl rfl ?_); refine r_op (o_lenStr rfl rfl ?_))
    (refine r_op ?_)
    refine o_call rfl (szshelf_spec _) rfl ?_
    rintro v B ⟨rfl, rfl⟩
    rw [bstr_size]
    (simp only [List.nil_append])
    rcases sizeOf_cases t.length with ⟨e1, -⟩ | ⟨k, hk, e1, hk1, -⟩
    · rw [e1]
      have e : rput ss d t = (ss, d, (0, 0), 2) := by unfold rput; rw [hf, e1]; rfl
      (refine r_op (o_move rfl rfl ?_); refine r_op (o_extract rfl rfl rfl ?_); refine r_op (o_extract rfl rfl rfl ?_); refine r_op (o_assign rfl rfl ?_); refine r_op (o_assign rfl rfl ?_); refine r_nil ?_; refine x_seq ?_; refine x_seq (x_region ?_); refine r_op (o_move rfl rfl ?_); refine r_op (o_neq_t rfl rfl (by omega) rfl ?_); refine r_nil ?_; refine x_true rfl ?_; refine x_seq (x_region ?_))
      (refine r_op ?_)
      refine o_build rfl (by rfl) rfl ?_
      (refine r_op ?_)
      (refine o_move rfl rfl ?_)
      (refine r_do ?_)
      refine o_storeA rfl rfl rfl rfl rfl (Nat.le_refl 2) ?_
      (refine r_op (o_assign rfl rfl ?_); refine r_nil ?_)
      refine x_mem (Γ' := RackI r b ss :: Row p4 0 (refC (0, 0)) :: DiskI b d :: Γ) (.refl _) ?_
      exact x_retC (rs := [.cell 4 98, .tmp 5]) (vs := [refV (0, 0), .int .i64 2]) ⟨rv_row rfl rfl, rv_tmp rfl, trivial⟩ [RackI r b ss, DiskI b d] ⟨by rw [e]; rfl, by rw [e]⟩ Sub.h
    · rw [e1]
      (refine r_op (o_move rfl rfl ?_); refine r_op (o_extract rfl rfl rfl ?_); refine r_op (o_extract rfl rfl rfl ?_); refine r_op (o_assign rfl rfl ?_); refine r_op (o_assign rfl rfl ?_); refine r_nil ?_; refine x_seq ?_; refine x_seq (x_region ?_); refine r_op (o_move rfl rfl ?_); refine r_op (o_neq_f rfl rfl (by omega) rfl ?_); refine r_nil ?_; refine x_false rfl ?_; refine x_skip ?_; refine x_seq (x_region ?_); refine r_op (o_move rfl rfl ?_); refine r_op (o_move rfl rfl ?_); refine r_op (o_nilCheck rfl rfl ?_); refine r_op (o_fieldAddr rfl rfl ?_))
      refine r_open (Γ' := fun xs : RX ss => Row r 0 (rpv xs.1) :: Parts (RG b) xs.1 :: DiskI b d :: Row p4 0 [.int .i64 0, .int .i64 0] :: Γ) (fun E w st => by
        have st := (Sub.h (Δ := RackI r b ss :: DiskI b d :: Row p4 0 [.int .i64 0, .int .i64 0] :: Γ)).st st
        exact st.rack) fun xs => ?_
      have hkx : k < xs.1.length := by have := xs.2.2; omega
      have hsk := rsh_get xs hkx
      have hl' := hl _ (List.mem_of_getElem? hsk)
      have hgd : ss.getD k sh0 = xs.1[k].2 := by rw [List.getD_eq_getElem?_getD, hsk]; rfl
      obtain ⟨q, hq⟩ : ∃ q, xs.1[k].2.put d t = q := ⟨_, rfl⟩
      have e : rput ss d t = (ss.set k q.1, q.2.1, if q.2.2.2 ≠ 0 then (0, 0) else ((k : Int), q.2.2.1), q.2.2.2) := by
        unfold rput; rw [hf, e1, Int.toNat_natCast, hgd, hq]; rfl
      have SP := put_spec xs.1[k].1 b xs.1[k].2 d t hok hN hl'.1 hl'.2 ht
      rw [hq] at SP
      have hset := rsh_set xs hkx q.1
      have hout : ∀ us, Ent (ShelfI xs.1[k].1 b q.1 :: Hole (RG b) xs.1 k :: Row r 0 (rpv xs.1) :: DiskI b q.2.1 :: Row p4 0 us :: Γ) (RackI r b (ss.set k q.1) :: DiskI b q.2.1 :: Row p4 0 us :: Γ) := fun us => by
        refine (Ent.unfocus (RG b) xs.1 k (xs.1[k].1, q.1) hkx _).trans ((Ent.perm (.swap _ _ _)).trans ?_)
        have h2 := Ent.rack (r := r) (b := b) (xs.1.set k (xs.1[k].1, q.1)) hset (DiskI b q.2.1 :: Row p4 0 us :: Γ)
        rw [rpv_set hkx] at h2
        exact h2
      refine r_mem (Γ' := ShelfI xs.1[k].1 b xs.1[k].2 :: Hole (RG b) xs.1 k :: Row r 0 (rpv xs.1) :: DiskI b d :: Row p4 0 [.int .i64 0, .int .i64 0] :: Γ) ((Sub.h (Δ := Parts (RG b) xs.1 :: Row r 0 (rpv xs.1) :: DiskI b d :: Row p4 0 [.int .i64 0, .int .i64 0] :: Γ)).trans (Ent.focus (RG b) xs.1 k hkx _)) ?_
      (refine r_op ?_)
      refine o_indexA rfl rfl (j := k) rfl hk rfl ?_
      (refine r_op ?_)
      refine o_loadI (i := k) rfl (by omega) (rpv_get hkx) rfl ?_
      (refine r_op (o_move rfl rfl ?_))
      (refine r_op ?_)
      refine o_call rfl SP rfl ?_
      rintro v B ⟨rfl, rfl⟩
      (simp only [List.cons_append, List.nil_append])
      refine r_mem (Γ' := RackI r b (ss.set k q.1) :: DiskI b q.2.1 :: Row p4 0 [.int .i64 0, .int .i64 0] :: Γ) ((Sub.h (Δ := ShelfI xs.1[k].1 b q.1 :: Hole (RG b) xs.1 k :: Row r 0 (rpv xs.1) :: DiskI b q.2.1 :: Row p4 0 [.int .i64 0, .int .i64 0] :: Γ)).trans (hout _)) ?_
      (refine r_op (o_move rfl rfl ?_); refine r_op (o_extract rfl rfl rfl ?_); refine r_op (o_extract rfl rfl rfl ?_); refine r_op (o_assign rfl rfl ?_); refine r_op (o_assign rfl rfl ?_); refine r_nil ?_; refine x_seq ?_; refine x_seq (x_region ?_); refine r_op (o_move rfl rfl ?_))
      (refine r_op ?_)
      refine o_neq rfl rfl rfl (fun h => ?_) (fun h => ?_)
      · rw [if_pos h] at e
        (refine r_nil ?_; refine x_true rfl ?_; refine x_seq (x_region ?_))
        (refine r_op ?_)
        refine o_build rfl (by rfl) rfl ?_
        (refine r_op ?_)
        (refine o_move rfl rfl ?_)
        (refine r_do ?_)
        refine o_storeA rfl rfl rfl rfl rfl (Nat.le_refl 2) ?_
        (refine r_op (o_assign rfl rfl ?_); refine r_nil ?_)
        refine x_mem (Γ' := RackI r b (ss.set k q.1) :: DiskI b q.2.1 :: Row p4 0 (refC (0, 0)) :: Γ) (.refl _) ?_
        exact x_retC (rs := [.cell 4 98, .tmp 5]) (vs := [refV (0, 0), .int .i64 q.2.2.2]) ⟨rv_row rfl rfl, rv_tmp rfl, trivial⟩ [RackI r b (ss.set k q.1), DiskI b q.2.1] ⟨by rw [e]; rfl, by rw [e]⟩ Sub.h
      · rw [if_neg (by omega)] at e
        have h0 : q.2.2.2 = 0 := h
        (refine r_nil ?_; refine x_false rfl ?_; refine x_skip ?_; refine x_seq (x_region ?_); refine r_op (o_move rfl rfl ?_); refine r_op (o_move rfl rfl ?_))
        (refine r_op ?_)
        refine o_build rfl (by rfl) rfl ?_
        (refine r_do ?_)
        refine o_storeA rfl rfl rfl rfl rfl (Nat.le_refl 2) ?_
        (refine r_op (o_assign rfl rfl ?_); refine r_nil ?_)
        refine x_mem (Γ' := RackI r b (ss.set k q.1) :: DiskI b q.2.1 :: Row p4 0 (refC ((k : Int), q.2.2.1)) :: Γ) (.refl _) ?_
        exact x_retC (rs := [.cell 4 98, .tmp 5]) (vs := [refV ((k : Int), q.2.2.1), .int .i64 0]) ⟨rv_row rfl rfl, rv_tmp rfl, trivial⟩ [RackI r b (ss.set k q.1), DiskI b q.2.1] ⟨by rw [e, h0]; rfl, by rw [e]⟩ Sub.h
end Go.Proofs.Ythneebbmodkjiaa

namespace Go.Proofs.Ythneebbmodkjiaa
open Go.Proofs

theorem rall_spec (r : Nat) : Spec Try.prog 116 [dp r] [] (fun v B => ∃ pc, v = .func (.func 121) #[] #[dp pc] ∧ B = [Row pc 0 [dp r]]) := by
  refine Spec.of_ex Try.func116 rfl Try.ntmps116 rfl fun E cs Γ => ?_
  (simp only [argRho, List.nil_append])
  (refine x_seq ?_); (refine x_region ?_)
  (refine r_op ?_)
  refine o_box rfl rfl rfl (fun pc => ?_)
  (refine r_op (o_assign rfl rfl ?_); refine r_nil ?_; refine x_seq (x_region ?_))
  (refine r_op ?_)
  refine o_makeFunc rfl rfl rfl ?_
  (refine r_op (o_assign rfl rfl ?_); refine r_nil ?_)
  exact x_ret rfl [Row pc 0 [dp r]] ⟨pc, rfl, rfl⟩ Sub.h
/-- A text in a rack, with its place. -/
abbrev RE := (Nat × Nat) × Tx
abbrev rat (y : RE) : Int × Int := ((y.1.1 : Int), (y.1.2 : Int))
def rv (y : RE) : List Value := [refV (rat y), tv y.2]
def tag (k : Nat) (l : List (Nat × Tx)) : List RE := l.map fun y => ((k, y.1), y.2)
/-- All that lies there, by shelves and slots. -/
def rlF : Nat → List (List En) → List RE
  | _, [] => []
  | k, es :: r => tag k (live 0 es) ++ rlF (k + 1) r
theorem rlF_drop : ∀ (ess : List (List En)) (k i : Nat) (h : i < ess.length), rlF (k + i) (ess.drop i) = tag (k + i) (live 0 ess[i]) ++ rlF (k + i + 1) (ess.drop (i + 1)) := by
  intro ess k i h
  rw [List.drop_eq_getElem_cons h]; rfl
abbrev rls (ss : List Sh) : List RE := rlF 0 (ss.map (·.es))
theorem rls_split (ess : List (List En)) : ∀ (i k : Nat), i ≤ ess.length → rlF k ess = rlF k (ess.take i) ++ rlF (k + i) (ess.drop i) := by
  intro i
  induction ess generalizing i with
  | nil => intro k h; simp [rlF]
  | cons es r ih =>
    intro k h
    cases i with
    | zero => rfl
    | succ i =>
      have := ih i (k + 1) (by simpa using h)
      rw [List.take_succ_cons, List.drop_succ_cons]
      show tag k (live 0 es) ++ rlF (k + 1) r = tag k (live 0 es) ++ rlF (k + 1) (r.take i) ++ _
      rw [this, List.append_assoc, show k + (i + 1) = k + 1 + i by omega]
theorem rlF_take (ess : List (List En)) {i : Nat} (h : i < ess.length) : rlF 0 (ess.take (i + 1)) = rlF 0 (ess.take i) ++ tag i (live 0 ess[i]) := by
  have h1 := rls_split (ess.take (i + 1)) i 0 (by simp; omega)
  rw [List.take_take, Nat.min_eq_left (by omega), Nat.zero_add] at h1
  have h2 : (ess.take (i + 1)).drop i = [ess[i]] := by
    rw [List.drop_take, show i + 1 - i = 1 by omega, List.drop_eq_getElem_cons h]; rfl
  rw [h1, h2]
  show _ ++ (tag i (live 0 ess[i]) ++ []) = _
  rw [List.append_nil]
set_option maxHeartbeats 1600000 in
theorem rack_iter (pc r b : Nat) (ss : List Sh) (hl : ∀ s ∈ ss, s.es.length ≤ 2 ^ 40) :
    Iter Try.prog 121 [] [dp pc] [Row pc 0 [dp r], RackI r b ss] [RackI r b ss] ((rls ss).map rv) := by
  intro l I J hy
  refine Spec.of_ex Try.func121 rfl Try.ntmps121 rfl fun E cs Γ => ?_
  (simp only [argRho, List.cons_append, List.nil_append])
  refine x_mem (Γ' := RackI r b ss :: Row pc 0 [dp r] :: I 0 :: Γ) Sub.h ?_
  refine x_open (fun E w st => st.rack) fun xs => ?_
  have hx4 := xs.2.2
  have hs4 : ss.length = 4 := by rw [← xs.2.1]; simp [hx4]
  (refine x_seq ?_); (refine x_region ?_)
  (refine r_op ?_)
  refine o_box rfl rfl rfl (fun p2 => ?_)
  (refine r_nil ?_; refine x_scope ?_; refine x_seq ?_; refine x_label ?_; refine x_seq (x_region ?_); refine r_op (o_load rfl rfl rfl rfl ?_); refine r_op (o_nilCheck rfl rfl ?_); refine r_op (o_fieldAddr rfl rfl ?_))
  (refine r_op ?_)
  refine o_loadA (us := rpv xs.1) rfl rfl (rpv_all hx4).2 (rpv_all hx4).1 rfl ?_
  (refine r_op (o_move rfl rfl ?_); refine r_nil ?_; refine x_block ?_)
  refine x_mem (Γ' := Marks [] :: Row p2 0 [.func (.yield l) #[] #[]] :: Row r 0 (rpv xs.1) :: Parts (RG b) xs.1 :: I 0 :: Γ) ((Ent.marks0 _).trans Sub.h) ?_
  have hlen : ((rls ss).map rv).length = (rlF 0 ((ss.map (·.es)).take 4)).length := by rw [List.length_map, List.take_of_length_le (by simp [hs4])]
  refine x_loopD (α := Nat × List Nat) (fun q => q.1 ≤ 4) (fun q => mks q.2) (fun q => [(1, dp pc), (2, dp p2), (10, .agg (rpv xs.1).toArray), (11, .int .i64 q.1)])
    (fun q => Marks q.2 :: Row p2 0 [.func (.yield l) #[] #[]] :: Row r 0 (rpv xs.1) :: Parts (RG b) xs.1 :: I (rlF 0 ((ss.map (·.es)).take q.1)).length :: Γ) (fun q => 4 - q.1) (0, []) (Nat.zero_le _) ⟨rfl, rfl, rfl, rfl, trivial⟩ (.refl _) ?_
  rintro ⟨k, Ds⟩ hk back
  dsimp only at hk back ⊢
  (refine x_seq (x_region ?_))
  by_cases h : k < 4
  · have hkx : k < xs.1.length := by omega
    have hke : k < (ss.map (·.es)).length := by simp [hs4, h]
    have hsk := rsh_get xs hkx
    have hes : (ss.map (·.es))[k] = xs.1[k].2.es := by
      have : (ss.map (·.es))[k]? = some xs.1[k].2.es := by rw [List.getElem?_map, hsk]; rfl
      rw [List.getElem?_eq_getElem hke] at this
      exact Option.some.inj this
    have htk := rlF_take _ hke
    rw [hes] at htk
    obtain ⟨L, hL⟩ : ∃ L, live 0 xs.1[k].2.es = L := ⟨_, rfl⟩
    rw [hL] at htk
    obtain ⟨off, hoff⟩ : ∃ off, (rlF 0 ((ss.map (·.es)).take k)).length = off := ⟨_, rfl⟩
    have hoff2 : (rlF 0 ((ss.map (·.es)).take (k + 1))).length = off + L.length := by rw [htk, List.length_append, hoff]; simp [tag]
    have hget : ∀ j y, L[j]? = some y → ((rls ss).map rv)[off + j]? = some [refV ((k : Int), (y.1 : Int)), tv y.2] := fun j y hj => by
      have h1 := rls_split (ss.map (·.es)) (k + 1) 0 hke
      rw [List.getElem?_map, show rls ss = rlF 0 (ss.map (·.es)) from rfl, h1, htk, List.append_assoc, List.getElem?_append_right (by omega), hoff, Nat.add_sub_cancel_left, List.getElem?_append_left (by simp [tag]; exact (List.getElem?_eq_some_iff.1 hj).1)]
      simp [tag, hj, rv, rat]
    rw [hoff]
    (refine r_op (o_lss_t rfl rfl (by omega) rfl ?_); refine r_nil ?_; refine x_seq ?_; refine x_true rfl ?_; refine x_skip ?_; refine x_seq ?_; refine x_block ?_; refine x_seq (x_region ?_); refine r_op (o_move rfl rfl ?_))
    (refine r_op ?_)
    refine o_indexV rfl rfl rfl (by omega) (rpv_get hkx) rfl ?_
    skip
    (refine r_op ?_)
    refine o_alloc rfl (fun p3 => ?_)
    (refine r_do (o_store rfl rfl rfl rfl (by simp) ?_); (try dsimp only [Nat.reduceSub, Nat.reduceAdd, List.set]); refine r_op (o_assign rfl rfl ?_); refine r_nil ?_; refine x_seq (x_region ?_); refine r_op (o_move rfl rfl ?_))
    refine r_mem (Γ' := ShelfI xs.1[k].1 b xs.1[k].2 :: Hole (RG b) xs.1 k :: Row p3 0 [.int .i64 k] :: Marks Ds :: Row p2 0 [.func (.yield l) #[] #[]] :: Row r 0 (rpv xs.1) :: I off :: Γ) ((Sub.h (Δ := Parts (RG b) xs.1 :: Row p3 0 [.int .i64 k] :: Marks Ds :: Row p2 0 [.func (.yield l) #[] #[]] :: Row r 0 (rpv xs.1) :: I off :: Γ)).trans (Ent.focus (RG b) xs.1 k hkx _)) ?_
    (refine r_op ?_)
    refine o_call rfl (all_spec xs.1[k].1) rfl ?_
    rintro v B ⟨pc2, rfl, rfl⟩
    (simp only [List.cons_append, List.nil_append])
    (refine r_nil ?_; refine x_block ?_)
    have hit := all_iter pc2 xs.1[k].1 b xs.1[k].2 (hl _ (List.mem_of_getElem? hsk))
    rw [hL] at hit
    refine x_range (Ds := Ds) rfl rfl hit (fun j => [I (off + j), Row p2 0 [.func (.yield l) #[] #[]], Row p3 0 [.int .i64 k]]) (fun cd j => [Fact (cd = .exit 0) (J (off + j))]) (Δ2 := Hole (RG b) xs.1 k :: Row r 0 (rpv xs.1) :: Γ) Sub.h (by rfl) ?_ ?_ ?_ ?_
    · intro j vs hj
      rw [List.getElem?_map, Option.map_eq_some_iff] at hj
      obtain ⟨y, _, rfl⟩ := hj
      rfl
    · intro j vs hj
      rw [List.getElem?_map, Option.map_eq_some_iff] at hj
      obtain ⟨y, hyj, rfl⟩ := hj
      have hyy := hy (off + j) _ (hget j y hyj)
      intro Y l' r' Θ hfn hro hend hexit hret
      (refine x_seq (x_region ?_); refine r_op (o_assign rfl rfl ?_); refine r_nil ?_; refine x_region ?_; refine r_op (o_assign rfl rfl ?_); refine r_nil ?_)
      refine x_beginRound (r := r') hro ?_
      refine x_mem (Γ' := I (off + j) :: Row p2 0 [.func (.yield l) #[] #[]] :: Row p3 0 [.int .i64 k] :: Rec l' r' .busy none :: Θ) (by (simp only [List.cons_append, List.nil_append]); exact Sub.h) ?_
      (refine x_block ?_; refine x_seq (x_region ?_); refine r_op (o_load rfl rfl rfl rfl ?_); refine r_op (o_load rfl rfl rfl rfl ?_); refine r_op (o_move rfl rfl ?_))
      (refine r_op ?_)
      refine o_build rfl (by rfl) rfl ?_
      (refine r_op (o_move rfl rfl ?_))
      (refine r_op ?_)
      refine o_yield rfl rfl hyy rfl ?_
      rintro v B (⟨rfl, rfl⟩ | ⟨rfl, rfl⟩)
      · (simp only [List.cons_append, List.nil_append])
        (refine r_op (o_not rfl rfl ?_); refine r_nil ?_; refine x_false rfl ?_; refine x_skip ?_; refine x_inBlock ?_)
        exact x_mem (by (simp only [List.cons_append, List.nil_append]); exact Sub.h) (hend _)
      · (simp only [List.cons_append, List.nil_append])
        (refine r_op (o_not rfl rfl ?_); refine r_nil ?_; refine x_true rfl ?_)
        refine x_mem ?_ (hexit 0 _ _ rfl)
        refine (Sub.h (Δ := J (off + j + 1) :: Rec l' r' .busy none :: Θ)).trans ((Ent.fact (p := Code.exit 0 = .exit 0) rfl _).trans ?_)
        (simp only [List.cons_append, List.nil_append])
        exact Sub.h
    · intro D
      have hlm : (L.map yv).length = L.length := List.length_map ..
      rw [hlm, ← hoff2]
      (simp only [List.cons_append, List.nil_append])
      refine x_mem (Γ' := Marks (D :: Ds) :: Row p2 0 [.func (.yield l) #[] #[]] :: Row r 0 (rpv xs.1) :: Parts (RG b) xs.1 :: I (rlF 0 ((ss.map (·.es)).take (k + 1))).length :: Γ) ((Sub.h (Δ := ShelfI xs.1[k].1 b xs.1[k].2 :: Hole (RG b) xs.1 k :: Marks (D :: Ds) :: Row p2 0 [.func (.yield l) #[] #[]] :: Row r 0 (rpv xs.1) :: I (rlF 0 ((ss.map (·.es)).take (k + 1))).length :: Γ)).trans ((Ent.unfocus' (RG b) xs.1 k hkx _).trans Sub.h)) ?_
      (refine x_inBlock ?_; refine x_inBlock ?_; refine x_region ?_; refine r_op (o_add rfl rfl (add_i64 (by omega)) rfl ?_); refine r_op (o_move rfl rfl ?_); refine r_nil ?_)
      refine x_weak (back (k + 1, D :: Ds) (by dsimp only; omega) (by dsimp only; omega)) (by (repeat' (first | exact trivial | refine ⟨rfl, ?_⟩))) Sub.h
    · intro D cd j
      refine x_open (α := { _u : Unit // cd = .exit 0 }) (Γ' := fun _ => J (off + j) :: Marks (D :: Ds) :: ShelfI xs.1[k].1 b xs.1[k].2 :: Hole (RG b) xs.1 k :: Row r 0 (rpv xs.1) :: Γ) (fun E w st => by
        simp only [List.cons_append, List.nil_append] at st
        have st := (Sub.h (Δ := Fact (cd = .exit 0) (J (off + j)) :: Marks (D :: Ds) :: ShelfI xs.1[k].1 b xs.1[k].2 :: Hole (RG b) xs.1 k :: Row r 0 (rpv xs.1) :: Γ)).st st
        obtain ⟨h, st⟩ := st.fact
        exact ⟨⟨(), h⟩, st⟩) ?_
      rintro ⟨_, rfl⟩
      (refine x_exit rfl ?_; refine x_inScope ?_)
      exact x_endM (Ds := D :: Ds) ([RackI r b ss] ++ [J (off + j)]) (.inr ⟨_, rfl⟩) (by
        refine (Sub.h (Δ := ShelfI xs.1[k].1 b xs.1[k].2 :: Hole (RG b) xs.1 k :: Row r 0 (rpv xs.1) :: J (off + j) :: Γ)).trans ?_
        refine (Ent.unfocus' (RG b) xs.1 k hkx _).trans ((Ent.perm (.swap _ _ _)).trans ?_)
        exact Ent.rack xs.1 xs.2 _)
  · obtain rfl : k = 4 := by omega
    (refine r_op (o_lss_f rfl rfl (by omega) rfl ?_); refine r_nil ?_; refine x_seq ?_; refine x_false rfl ?_; refine x_exit rfl ?_; refine x_inScope ?_)
    exact x_endM (Ds := Ds) ([RackI r b ss] ++ [I ((rls ss).map rv).length]) (.inl rfl) (by
      rw [hlen]
      refine (Sub.h (Δ := Row r 0 (rpv xs.1) :: Parts (RG b) xs.1 :: I (rlF 0 ((ss.map (·.es)).take 4)).length :: Γ)).trans ?_
      refine (Ent.rack xs.1 xs.2 _).trans ?_
      (simp only [List.cons_append, List.nil_append])
      exact Sub.h)
end Go.Proofs.Ythneebbmodkjiaa

namespace Go.Proofs.Ythneebbmodkjiaa
open Go.Proofs

theorem rlF_shelf : ∀ (ess : List (List En)) (k : Nat), ∀ y ∈ rlF k ess, k ≤ y.1.1 ∧ y.1.1 < k + ess.length
  | [], _, y, h => by simp [rlF] at h
  | es :: r, k, y, h => by
    have h : y ∈ tag k (live 0 es) ++ rlF (k + 1) r := h
    rw [List.mem_append] at h
    rcases h with h | h
    · unfold tag at h
      obtain ⟨z, _, rfl⟩ := List.mem_map.1 h
      simp
    · have := rlF_shelf r (k + 1) y h
      simp; omega
/-- How much they take. -/
def rbytes (l : List RE) : Nat := (l.map fun y => 128 * 2 ^ y.1.1).sum
theorem rbytes_le (l : List RE) (h : ∀ y ∈ l, y.1.1 < 4) : rbytes l ≤ 1024 * l.length := by
  induction l with
  | nil => exact Nat.le_refl _
  | cons y l ih =>
    have h1 := ih fun z hz => h z (by simp [hz])
    have h2 := h y (by simp)
    have h3 : 2 ^ y.1.1 ≤ 2 ^ 3 := Nat.pow_le_pow_right (by decide) (by omega)
    unfold rbytes at h1 ⊢
    simp only [List.map_cons, List.sum_cons, List.length_cons]
    omega
theorem rbytes_take {l : List RE} {j : Nat} {y : RE} (h : l[j]? = some y) : rbytes (l.take (j + 1)) = rbytes (l.take j) + 128 * 2 ^ y.1.1 := by
  rw [List.take_add_one, h]
  unfold rbytes
  rw [List.map_append, List.sum_append]; simp
set_option maxHeartbeats 1600000 in
theorem rbytes_spec (r b : Nat) (ss : List Sh) (h4 : ss.length = 4) (hl : ∀ s ∈ ss, s.es.length ≤ 2 ^ 40) (hn : (rls ss).length ≤ 2 ^ 30) :
    Spec Try.prog 85 [dp r] [RackI r b ss] (fun v B => v = .int .i64 (rbytes (rls ss)) ∧ B = [RackI r b ss]) := by
  refine Spec.of_ex Try.func85 rfl Try.ntmps85 rfl fun E cs Γ => ?_
  (simp only [argRho, List.cons_append, List.nil_append])
  (refine x_seq (x_region ?_); refine r_op (o_assign rfl rfl ?_); refine r_nil ?_; refine x_seq (x_region ?_))
  (refine r_op ?_)
  refine o_alloc rfl (fun pn => ?_)
  (refine r_do (o_store rfl rfl rfl rfl (by simp) ?_); (try dsimp only [Nat.reduceSub, Nat.reduceAdd, List.set]); refine r_nil ?_; refine x_seq ?_; refine x_seq (x_region ?_); refine r_op (o_move rfl rfl ?_))
  (refine r_op ?_)
  refine o_call rfl (rall_spec r) rfl ?_
  rintro v B ⟨pc, rfl, rfl⟩
  (simp only [List.cons_append, List.nil_append])
  (refine r_nil ?_; refine x_block ?_)
  refine x_mem (Ent.marks0 _) ?_
  refine x_range (Ds := []) rfl rfl (rack_iter pc r b ss hl) (fun j => [Row pn 0 [.int .i64 (rbytes ((rls ss).take j))]]) (fun _ _ => [Fact False Emp]) (Δ2 := Γ) (.refl _) (by rfl) ?_ ?_ ?_ ?_
  · intro j vs hj
    rw [List.getElem?_map, Option.map_eq_some_iff] at hj
    obtain ⟨y, _, rfl⟩ := hj
    rfl
  · intro j vs hj
    rw [List.getElem?_map, Option.map_eq_some_iff] at hj
    obtain ⟨y, hyj, rfl⟩ := hj
    have hy4 := rlF_shelf _ _ y (List.mem_of_getElem? hyj)
    simp only [List.length_map, h4] at hy4
    have hbl := rbytes_le ((rls ss).take j) fun z hz => by
      have := rlF_shelf _ _ z (List.mem_of_mem_take hz)
      simp only [List.length_map, h4] at this; omega
    have hjl : j < (rls ss).length := (List.getElem?_eq_some_iff.1 hyj).1
    have h3 : 2 ^ y.1.1 ≤ 2 ^ 3 := Nat.pow_le_pow_right (by decide) (by omega)
    have htl : ((rls ss).take j).length ≤ j := by simp; omega
    intro Y l r' Θ hfn hro hend hexit hret
    (refine x_region ?_)
    (refine r_op ?_)
    refine o_alloc rfl (fun p4 => ?_)
    (refine r_do ?_)
    refine o_storeA (us := refC (rat y)) rfl rfl rfl rfl rfl (Nat.le_refl 2) ?_
    refine r_mem (Ent.row_eq (us := refC (rat y)) rfl _) ?_
    (refine r_nil ?_)
    refine x_beginRound (r := r') hro ?_
    refine x_mem (Γ' := Row pn 0 [.int .i64 (rbytes ((rls ss).take j))] :: Row p4 0 (refC (rat y)) :: Rec l r' .busy none :: Θ) (by (simp only [List.cons_append, List.nil_append]); exact Sub.h) ?_
    (refine x_block ?_; refine x_seq (x_region ?_); refine r_op (o_fieldAddr rfl rfl ?_); refine r_op (o_load rfl rfl rfl rfl ?_))
    (refine r_op ?_)
    refine o_call rfl (slot_spec y.1.1) rfl ?_
    rintro v B ⟨rfl, rfl⟩
    rw [if_neg (by omega), Int.toNat_natCast]
    (simp only [List.nil_append])
    (refine r_op (o_move rfl rfl ?_); refine r_op (o_extract rfl rfl rfl ?_); refine r_op (o_extract rfl rfl rfl ?_); refine r_op (o_assign rfl rfl ?_); refine r_op (o_assign rfl rfl ?_); refine r_nil ?_; refine x_region ?_; refine r_op (o_load rfl rfl rfl rfl ?_); refine r_op (o_move rfl rfl ?_); refine r_op (o_add rfl rfl (add_i64 (by omega)) rfl ?_); refine r_do (o_store rfl rfl rfl rfl (by simp) ?_); (try dsimp only [Nat.reduceSub, Nat.reduceAdd, List.set]); refine r_nil ?_; refine x_inBlock ?_)
    rw [show (rbytes ((rls ss).take j) : Int) + ((128 * 2 ^ y.1.1 : Nat) : Int) = ((rbytes ((rls ss).take (j + 1)) : Nat) : Int) by rw [rbytes_take hyj]; omega]
    refine x_mem ?_ (hend _)
    (simp only [List.cons_append, List.nil_append])
    exact Sub.h
  · intro D
    refine x_mem (Γ' := Row pn 0 [.int .i64 (rbytes (rls ss))] :: Marks [D] :: RackI r b ss :: Γ) (by rw [List.length_map, List.take_length]; (simp only [List.cons_append, List.nil_append]); exact Sub.h) ?_
    (refine x_inBlock ?_; refine x_seq (x_region ?_); refine r_op (o_load rfl rfl rfl rfl ?_); refine r_op (o_assign rfl rfl ?_); refine r_nil ?_)
    exact x_retM rfl [RackI r b ss] ⟨rfl, rfl⟩ Sub.h
  · intro D c j
    refine x_mem (Ent.perm (.swap _ _ _)) ?_
    refine x_fact (p := False) (fun E w s => s.fact.1) fun h => h.elim
/-- An entry's cells. -/
def re (y : RE) : List Value := [.int .i64 y.1.1, .int .i64 y.1.2, tv y.2]
theorem re_cl (y : RE) : (re y).length = 3 := rfl
theorem re_one (l : List RE) : (l.flatMap re).all Value.oneCell' = true := by
  rw [List.all_flatMap, List.all_eq_true]; intro e _; rfl
/-- Entries that are being gathered. -/
def EnR (p5 : Nat) (l : List RE) : HP := Any fun q : Option Addr × Nat => Sep [Row p5 0 [.slice q.1 l.length q.2], Sl 3 q.1 l.length q.2 (l.flatMap re)]
theorem St.enr {E : Env} {p5 : Nat} {l : List RE} {Γ : List HP} {w : World} (st : St E (EnR p5 l :: Γ) w) : ∃ q : Option Addr × Nat, St E (Row p5 0 [.slice q.1 l.length q.2] :: Sl 3 q.1 l.length q.2 (l.flatMap re) :: Γ) w := by
  obtain ⟨q, st⟩ := st.ex
  exact ⟨q, (Ent.sep_out [_, _] Γ).st st⟩
theorem Ent.enr {p5 : Nat} (l : List RE) {a : Option Addr} {c : Nat} (Γ : List HP) : Ent (Row p5 0 [.slice a l.length c] :: Sl 3 a l.length c (l.flatMap re) :: Γ) (EnR p5 l :: Γ) :=
  (Ent.sep_in [_, _] Γ).trans (Ent.ex (A := fun q : Option Addr × Nat => Sep [Row p5 0 [.slice q.1 l.length q.2], Sl 3 q.1 l.length q.2 (l.flatMap re)]) (a, c) Γ)
set_option maxHeartbeats 1600000 in
theorem rentries_spec (r b n : Nat) (ss : List Sh) (hl : ∀ s ∈ ss, s.es.length ≤ 2 ^ 40) (_hll : (rls ss).length ≤ 2 ^ 30) (hn : n ≤ 2 ^ 40) :
    Spec Try.prog 89 [dp r, .int .i64 n] [RackI r b ss] (fun v B => ∃ a c, v = .slice a ((rls ss).take n).length c ∧ B = [RackI r b ss, Sl 3 a ((rls ss).take n).length c (((rls ss).take n).flatMap re)]) := by
  refine Spec.of_ex Try.func89 rfl Try.ntmps89 rfl fun E cs Γ => ?_
  obtain ⟨LL, hLL⟩ : ∃ LL, rls ss = LL := ⟨_, rfl⟩
  rw [hLL]
  (simp only [argRho, Nat.reduceAdd, List.cons_append, List.nil_append])
  (refine x_seq ?_); (refine x_region ?_)
  (refine r_op ?_)
  refine o_box rfl rfl rfl (fun p3 => ?_)
  (refine r_op (o_assign rfl rfl ?_); refine r_nil ?_; refine x_seq (x_region ?_))
  (refine r_op ?_)
  refine o_alloc rfl (fun p5 => ?_)
  (refine r_nil ?_; refine x_seq (x_region ?_); refine r_op (o_move rfl rfl ?_))
  (refine r_op ?_)
  refine o_call rfl (rall_spec r) rfl ?_
  rintro v B ⟨pc, rfl, rfl⟩
  (simp only [List.cons_append, List.nil_append])
  (refine r_op (o_assign rfl rfl ?_); refine r_nil ?_; refine x_seq ?_; refine x_seq (x_region ?_); refine r_op (o_move rfl rfl ?_))
  (refine r_op ?_)
  refine o_feq (.inl rfl) rfl rfl rfl ?_
  (refine r_nil ?_; refine x_false rfl ?_; refine x_skip ?_; refine x_seq ?_; refine x_seq (x_region ?_); refine r_op (o_move rfl rfl ?_); refine r_nil ?_; refine x_block ?_)
  refine x_mem (Ent.marks0 _) ?_
  have hit := rack_iter pc r b ss hl
  rw [hLL] at hit
  refine x_range (Ds := []) rfl rfl hit (fun j => [Fact (j ≤ n) (EnR p5 (LL.take j)), Row p3 0 [.int .i64 n]])
    (fun cd _ => [Fact (cd = .exit 0) (EnR p5 (LL.take n)), Row p3 0 [.int .i64 n]]) (Δ2 := Γ) ?_ (by rfl) ?_ ?_ ?_ ?_
  · refine (Ent.nilSl 3 _).trans ?_
    refine (Sub.h (Δ := Row p5 0 [.slice none 0 0] :: Sl 3 none 0 0 [] :: Row p3 0 [.int .i64 n] :: Γ)).trans ?_
    refine (Ent.enr [] _).trans ?_
    exact Ent.fact (Nat.zero_le n) _
  · intro j vs hj
    rw [List.getElem?_map, Option.map_eq_some_iff] at hj
    obtain ⟨y, _, rfl⟩ := hj
    rfl
  · intro j vs hj
    have hjl : j < LL.length := by have := (List.getElem?_eq_some_iff.1 hj).1; simpa using this
    rw [List.getElem?_map, Option.map_eq_some_iff] at hj
    obtain ⟨y, hy, rfl⟩ := hj
    intro Y l r' Θ hfn hro hend hexit hret
    refine x_mem (Γ' := Fact (j ≤ n) (EnR p5 (LL.take j)) :: Row p3 0 [.int .i64 n] :: Rec l r' .ready none :: Θ) (by (simp only [List.cons_append, List.nil_append]); exact Sub.h) ?_
    refine x_open (α := { _u : Unit // j ≤ n }) (Γ' := fun _ => EnR p5 (LL.take j) :: Row p3 0 [.int .i64 n] :: Rec l r' .ready none :: Θ) (fun E w st => by
      obtain ⟨h, st⟩ := st.fact
      exact ⟨⟨(), h⟩, st⟩) ?_
    rintro ⟨_, hjn⟩
    refine x_open (fun E w st => st.enr) fun ⟨a4, c4⟩ => ?_
    dsimp only
    have hlj : (LL.take j).length = j := by simp; omega
    rw [hlj]
    (refine x_seq (x_region ?_))
    (refine r_op ?_)
    refine o_alloc rfl (fun p7 => ?_)
    (refine r_do ?_)
    refine o_storeA (us := refC (rat y)) rfl rfl rfl rfl rfl (Nat.le_refl 2) ?_
    refine r_mem (Ent.row_eq (us := refC (rat y)) rfl _) ?_
    (refine r_nil ?_; refine x_region ?_; refine r_op (o_assign rfl rfl ?_); refine r_nil ?_)
    refine x_beginRound (r := r') hro ?_
    by_cases e : j = n
    · subst e
      (refine x_block ?_; refine x_seq ?_; refine x_seq (x_region ?_); refine r_op (o_load rfl rfl rfl rfl ?_); refine r_op (o_lenS rfl rfl ?_); refine r_op (o_load rfl rfl rfl rfl ?_); refine r_op (o_eql_t rfl rfl (by omega) rfl ?_); refine r_nil ?_; refine x_true rfl ?_)
      refine x_mem ?_ (hexit 0 _ _ rfl)
      have h1 := Ent.enr (p5 := p5) (LL.take j) (a := a4) (c := c4) (Row p3 0 [.int .i64 j] :: Rec l r' .busy none :: Θ)
      rw [hlj] at h1
      refine (Sub.h (Δ := Row p5 0 [.slice a4 j c4] :: Sl 3 a4 j c4 ((LL.take j).flatMap re) :: Row p3 0 [.int .i64 j] :: Rec l r' .busy none :: Θ)).trans (h1.trans ((Ent.fact (p := Code.exit 0 = .exit 0) rfl _).trans ?_))
      (simp only [List.cons_append, List.nil_append])
      exact Sub.h
    · (refine x_block ?_; refine x_seq ?_; refine x_seq (x_region ?_); refine r_op (o_load rfl rfl rfl rfl ?_); refine r_op (o_lenS rfl rfl ?_); refine r_op (o_load rfl rfl rfl rfl ?_); refine r_op (o_eql_f rfl rfl (by omega) rfl ?_); refine r_nil ?_; refine x_false rfl ?_; refine x_skip ?_; refine x_region ?_; refine r_op (o_load rfl rfl rfl rfl ?_))
      (refine r_op ?_)
      refine o_loadA (us := refC (rat y)) rfl rfl rfl rfl rfl ?_
      (refine r_op (o_move rfl rfl ?_))
      (refine r_op ?_)
      refine o_build (cs := re y) rfl (by rfl) rfl ?_
      (refine r_op ?_)
      refine o_buildSlice rfl (by rfl) (by rfl) (by rfl) (by rfl) rfl (fun a2 => ?_)
      (refine r_op ?_)
      refine o_appendT rfl rfl (by rfl) (by rfl) (by rfl) (by omega) rfl (fun a3 c3 hc => ?_)
      (refine r_do (o_store rfl rfl rfl rfl (by simp) ?_); (try dsimp only [Nat.reduceSub, Nat.reduceAdd, List.set]); refine r_nil ?_; refine x_inBlock ?_)
      refine x_mem ?_ (hend _)
      have h2 : LL.take (j + 1) = LL.take j ++ [y] := by rw [List.take_add_one, hy]; rfl
      have h1 := Ent.enr (p5 := p5) (LL.take (j + 1)) (a := a3) (c := c3) (Row p3 0 [.int .i64 n] :: Rec l r' .busy none :: Θ)
      rw [show (LL.take (j + 1)).length = j + 1 by simp; omega] at h1
      refine (Sub.h (Δ := Row p5 0 [.slice a3 (j + 1) c3] :: Sl 3 a3 (j + 1) c3 ((LL.take j).flatMap re ++ [.int .i64 y.1.1, .int .i64 y.1.2, tv y.2]) :: Row p3 0 [.int .i64 n] :: Rec l r' .busy none :: Θ)).trans ?_
      rw [show (LL.take j).flatMap re ++ [.int .i64 y.1.1, .int .i64 y.1.2, tv y.2] = (LL.take (j + 1)).flatMap re by rw [h2, List.flatMap_append]; simp [re]]
      refine h1.trans ((Ent.fact (p := j + 1 ≤ n) (by omega) _).trans ?_)
      (simp only [List.cons_append, List.nil_append])
      exact Sub.h
  · intro D
    refine x_open (α := { _u : Unit // LL.length ≤ n }) (Γ' := fun _ => EnR p5 LL :: Marks [D] :: RackI r b ss :: Γ) (fun E w st => by
      rw [List.length_map, List.take_length] at st
      simp only [List.cons_append, List.nil_append] at st
      have st := (Sub.h (Δ := Fact (LL.length ≤ n) (EnR p5 LL) :: Marks [D] :: RackI r b ss :: Γ)).st st
      obtain ⟨h, st⟩ := st.fact
      exact ⟨⟨(), h⟩, st⟩) ?_
    rintro ⟨_, hle⟩
    rw [List.take_of_length_le hle]
    refine x_open (fun E w st => st.enr) fun ⟨a4, c4⟩ => ?_
    dsimp only
    (refine x_inBlock ?_; refine x_seq (x_region ?_); refine r_op (o_load rfl rfl rfl rfl ?_); refine r_op (o_assign rfl rfl ?_); refine r_nil ?_)
    exact x_retM rfl [RackI r b ss, Sl 3 a4 LL.length c4 (LL.flatMap re)] ⟨a4, c4, rfl, rfl⟩ Sub.h
  · intro D c j
    refine x_open (α := { _u : Unit // c = .exit 0 }) (Γ' := fun _ => EnR p5 (LL.take n) :: Marks [D] :: RackI r b ss :: Γ) (fun E w st => by
      simp only [List.cons_append, List.nil_append] at st
      have st := (Sub.h (Δ := Fact (c = .exit 0) (EnR p5 (LL.take n)) :: Marks [D] :: RackI r b ss :: Γ)).st st
      obtain ⟨h, st⟩ := st.fact
      exact ⟨⟨(), h⟩, st⟩) ?_
    rintro ⟨_, rfl⟩
    refine x_open (fun E w st => st.enr) fun ⟨a4, c4⟩ => ?_
    dsimp only
    (refine x_exit rfl ?_; refine x_seq (x_region ?_); refine r_op (o_load rfl rfl rfl rfl ?_); refine r_op (o_assign rfl rfl ?_); refine r_nil ?_)
    exact x_retM rfl [RackI r b ss, Sl 3 a4 (LL.take n).length c4 ((LL.take n).flatMap re)] ⟨a4, c4, rfl, rfl⟩ Sub.h
end Go.Proofs.Ythneebbmodkjiaa
