/- Part of a proof over the seat Ythneebbmodkjiaa: module E7. Its claim's last module says what is proved. -/
import Derived.Test.YthneebbmodkjiaaE6
namespace Go.Proofs.Ythneebbmodkjiaa
open Go.Proofs

/-! ### What lies in a file -/
def nSl (n len : Nat) : Nat := (len + n - 1) / n
theorem nSl_iff {n len i : Nat} (hn : 0 < n) : i < nSl n len ↔ i * n < len := by
  unfold nSl
  rw [Nat.lt_iff_add_one_le, Nat.le_div_iff_mul_le hn, Nat.add_mul, Nat.one_mul]
  omega
def lieV (n len : Nat) (a : Option Addr) (c i : Nat) : List Value := [.int .i64 i, .slice (shA 1 a c (i * n)) (min len (i * n + n) - i * n) (c - i * n)]
theorem lies_spec (a : Option Addr) (len c : Nat) (n : Int) : Spec Try.prog 119 [.slice a len c, .int .i64 n] [] (fun v B => ∃ pn pb, v = .func (.func 122) #[] #[dp pn, dp pb] ∧ B = [Row pn 0 [.int .i64 n], Row pb 0 [.slice a len c]]) := by
  refine Spec.of_ex Try.func119 rfl Try.ntmps119 rfl fun E cs Γ => ?_
  (simp only [argRho, Nat.reduceAdd, List.nil_append])
  (refine x_seq ?_); (refine x_region ?_)
  (refine r_op ?_)
  refine o_box rfl rfl rfl (fun pb => ?_)
  (refine r_op ?_)
  refine o_box rfl rfl rfl (fun pn => ?_)
  (refine r_op (o_assign rfl rfl ?_); refine r_nil ?_; refine x_seq (x_region ?_))
  (refine r_op ?_)
  refine o_makeFunc rfl rfl rfl ?_
  (refine r_op (o_assign rfl rfl ?_); refine r_nil ?_)
  exact x_ret rfl [Row pn 0 [.int .i64 n], Row pb 0 [.slice a len c]] ⟨pn, pb, rfl, rfl⟩ Sub.h
theorem lies_iter (pn pb n : Nat) (a : Option Addr) (len c : Nat) (hn : 0 < n ∧ n ≤ 2 ^ 20) (hl : len ≤ 2 ^ 40) (hc : len ≤ c) :
    Iter Try.prog 122 [] [dp pn, dp pb] [Row pn 0 [.int .i64 n], Row pb 0 [.slice a len c]] [] ((List.range (nSl n len)).map (lieV n len a c)) := by
  intro l I J hy
  refine Spec.of_ex Try.func122 rfl Try.ntmps122 rfl fun E cs Γ => ?_
  (simp only [argRho, List.cons_append, List.nil_append])
  (refine x_seq (x_region ?_); refine r_op (o_assign rfl rfl ?_); refine r_nil ?_; refine x_block ?_)
  refine x_loop (α := Nat) (fun i => i ≤ nSl n len) (fun i => [(0, .func (.yield l) #[] #[]), (1, dp pn), (2, dp pb), (4, .int .i64 i)])
    (fun i => Row pn 0 [.int .i64 n] :: Row pb 0 [.slice a len c] :: I i :: Γ)
    (fun i => nSl n len - i) 0 (Nat.zero_le _) ⟨rfl, rfl, rfl, rfl, trivial⟩ Sub.h ?_
  intro i hi back
  have hin : i * n ≤ len + n := by
    cases i with
    | zero => omega
    | succ j =>
      have := (nSl_iff hn.1).1 (show j < nSl n len by omega)
      rw [Nat.add_mul]; omega
  have hib : i ≤ len + n := Nat.le_trans (Nat.le_mul_of_pos_right i hn.1) hin
  (refine x_seq ?_; refine x_seq (x_region ?_); refine r_op (o_move rfl rfl ?_); refine r_op (o_load rfl rfl rfl rfl ?_))
  (refine r_op ?_)
  refine o_mul rfl rfl (in_i64 (by rw [← Int.natCast_mul]; omega)) rfl ?_
  rw [← Int.natCast_mul]
  (refine r_op (o_load rfl rfl rfl rfl ?_); refine r_op (o_lenS rfl rfl ?_))
  (refine r_op ?_)
  refine o_lss rfl rfl rfl (fun h => ?_) (fun h => ?_)
  · have hi1 : i < nSl n len := (nSl_iff hn.1).2 (by omega)
    (refine r_nil ?_; refine x_true rfl ?_; refine x_skip ?_; refine x_seq ?_; refine x_block ?_; refine x_seq (x_region ?_); refine r_op (o_move rfl rfl ?_); refine r_op (o_move rfl rfl ?_); refine r_op (o_load rfl rfl rfl rfl ?_); refine r_op (o_move rfl rfl ?_); refine r_op (o_load rfl rfl rfl rfl ?_))
    (refine r_op ?_)
    refine o_mul rfl rfl (in_i64 (by rw [← Int.natCast_mul]; omega)) rfl ?_
    rw [← Int.natCast_mul]
    (refine r_op (o_load rfl rfl rfl rfl ?_); refine r_op (o_lenS rfl rfl ?_); refine r_op (o_move rfl rfl ?_); refine r_op (o_load rfl rfl rfl rfl ?_))
    (refine r_op ?_)
    refine o_mul rfl rfl (in_i64 (by rw [← Int.natCast_mul]; omega)) rfl ?_
    rw [← Int.natCast_mul]
    (refine r_op (o_load rfl rfl rfl rfl ?_); refine r_op (o_add rfl rfl (add_i64 (by omega)) rfl ?_); refine r_op (o_min rfl rfl rfl ?_))
    rw [show min (len : Int) (((i * n : Nat) : Int) + n) = ((min len (i * n + n) : Nat) : Int) by omega]
    (refine r_op ?_)
    refine o_slice rfl rfl rfl (jl := i * n) (jh := min len (i * n + n)) rfl rfl (by omega) (by omega) rfl ?_
    have hyi := hy i (lieV n len a c i) (by simp [hi1])
    (refine r_op ?_)
    refine o_yield rfl rfl hyi rfl ?_
    rintro y B (⟨rfl, rfl⟩ | ⟨rfl, rfl⟩)
    · (simp only [List.cons_append, List.nil_append])
      (refine r_op (o_not rfl rfl ?_); refine r_nil ?_; refine x_false rfl ?_; refine x_skip ?_; refine x_inBlock ?_; refine x_region ?_; refine r_op (o_move rfl rfl ?_); refine r_op (o_add rfl rfl (add_i64 (by omega)) rfl ?_); refine r_op (o_assign rfl rfl ?_); refine r_nil ?_)
      refine x_weak (back (i + 1) (by omega) (by omega)) (by (repeat' (first | exact trivial | refine ⟨rfl, ?_⟩))) Sub.h
    · (simp only [List.cons_append, List.nil_append])
      (refine r_op (o_not rfl rfl ?_); refine r_nil ?_; refine x_true rfl ?_)
      exact x_ret rfl ([] ++ [J (i + 1)]) (.inr ⟨_, rfl⟩) (by (simp only [List.nil_append]); exact Sub.h)
  · have hi1 : i = nSl n len := by
      apply Nat.le_antisymm hi
      apply Nat.le_of_not_lt
      intro h2
      exact h (by have := (nSl_iff hn.1).1 h2; omega)
    subst hi1
    (refine r_nil ?_; refine x_false rfl ?_; refine x_exit rfl ?_)
    exact x_end ([] ++ [I ((List.range (nSl n len)).map (lieV n len a c)).length]) (.inl rfl) (by
      rw [List.length_map, List.length_range]; (simp only [List.nil_append]); exact Sub.h)
end Go.Proofs.Ythneebbmodkjiaa
namespace Go.Proofs.Ythneebbmodkjiaa
open Go.Proofs
/-- The text's length that a slot tells. -/
def tl (x : List UInt8) : Nat := (x.getD 1 0).toNat * 256 + (x.getD 2 0).toNat
/-- One slot's entry; none: it is none. -/
def parse1 (n : Nat) (x : List UInt8) : Option En :=
  if x.getD 0 0 = 0 then some none else if x.getD 0 0 ≠ 1 ∨ x.length < n then none else if n < 16 + tl x then none else some (some ((x.drop 16).take (tl x)))
def slotOf (n : Nat) (b : List UInt8) (i : Nat) : List UInt8 := (b.drop (i * n)).take n
def pz (n : Nat) (b : List UInt8) (i : Nat) : Option En := if 128 ≤ i then none else parse1 n (slotOf n b i)
/-- All; none: there is none. -/
def parse (n : Nat) (b : List UInt8) : Option (List En) := (List.range (nSl n b.length)).mapM (pz n b)
instance : FunRetC Try.prog 107 [.cell 4 139, .cell 5 4] := ⟨_, Try.func107, rfl⟩
/-- Entries that are being gathered. -/
def FoI (p4 : Nat) (l : List En) : HP := Any fun q : Option Addr × Nat => Sep [Row p4 0 [.slice q.1 l.length q.2], Sl 2 q.1 l.length q.2 (l.flatMap enV)]
theorem St.foi {E : Env} {p4 : Nat} {l : List En} {Γ : List HP} {w : World} (st : St E (FoI p4 l :: Γ) w) : ∃ q : Option Addr × Nat, St E (Row p4 0 [.slice q.1 l.length q.2] :: Sl 2 q.1 l.length q.2 (l.flatMap enV) :: Γ) w := by
  obtain ⟨q, st⟩ := st.ex
  exact ⟨q, (Ent.sep_out [_, _] Γ).st st⟩
theorem Ent.foi {p4 : Nat} (l : List En) {a : Option Addr} {c : Nat} (Γ : List HP) : Ent (Row p4 0 [.slice a l.length c] :: Sl 2 a l.length c (l.flatMap enV) :: Γ) (FoI p4 l :: Γ) :=
  (Ent.sep_in [_, _] Γ).trans (Ent.ex (A := fun q : Option Addr × Nat => Sep [Row p4 0 [.slice q.1 l.length q.2], Sl 2 q.1 l.length q.2 (l.flatMap enV)]) (a, c) Γ)
theorem mapM_take {α β : Type} (g : α → Option β) : ∀ (l : List α) (i : Nat) (x : α) (ys : List β), l[i]? = some x → (l.take i).mapM g = some ys → (l.take (i + 1)).mapM g = (g x).map fun y => ys ++ [y] := by
  intro l i x ys hx hy
  rw [List.take_add_one, hx]
  simp only [Option.toList_some]
  rw [List.mapM_append, hy]
  cases hg : g x <;> simp [hg]
theorem mapM_none {α β : Type} (g : α → Option β) : ∀ (l : List α) (x : α), x ∈ l → g x = none → l.mapM g = none := by
  intro l
  induction l with
  | nil => intro x hx; cases hx
  | cons y l ih =>
    intro x hx hg
    rw [List.mapM_cons]
    rcases List.mem_cons.1 hx with rfl | hx
    · rw [hg]; rfl
    · rw [ih x hx hg]
      cases g y <;> rfl
theorem mapM_len {α β : Type} (g : α → Option β) {l : List α} {ys : List β} (h : l.mapM g = some ys) : ys.length = l.length := (mapM_some_length h)
set_option maxHeartbeats 1600000 in
theorem found_spec {A : HP} {a : Option Addr} {c n : Nat} {b : List UInt8} (R : Reads A 1 a b.length (b.map bv)) (hc : b.length ≤ c) (hb : b.length ≤ 2 ^ 40) (hn16 : 16 ≤ n ∧ n ≤ 2 ^ 20) :
    Spec Try.prog 107 [.slice a b.length c, .int .i64 n] [A] (fun v B => (∃ l a' c', parse n b = some l ∧ v = .tuple #[.slice a' l.length c', .bool true] ∧ B = [A, Sl 2 a' l.length c' (l.flatMap enV)]) ∨ (parse n b = none ∧ v = .tuple #[.slice none 0 0, .bool false] ∧ B = [A])) := by
  have hn : 0 < n ∧ n ≤ 2 ^ 20 := ⟨by omega, hn16.2⟩
  refine Spec.of_ex Try.func107 rfl Try.ntmps107 rfl fun E cs Γ => ?_
  (simp only [argRho, Nat.reduceAdd, List.cons_append, List.nil_append])
  (refine x_seq ?_); (refine x_region ?_)
  (refine r_op ?_)
  refine o_box rfl rfl rfl (fun p3 => ?_)
  (refine r_op ?_)
  refine o_alloc rfl (fun p4 => ?_)
  (refine r_op ?_)
  refine o_alloc rfl (fun p5 => ?_)
  (refine r_nil ?_; refine x_scope ?_; refine x_seq ?_; refine x_label ?_; refine x_seq ?_; refine x_seq (x_region ?_); refine r_op (o_move rfl rfl ?_); refine r_op (o_load rfl rfl rfl rfl ?_))
  (refine r_op ?_)
  refine o_call rfl (lies_spec a b.length c n) rfl ?_
  rintro v B ⟨pn, pb, rfl, rfl⟩
  (simp only [List.cons_append, List.nil_append])
  (refine r_nil ?_; refine x_block ?_)
  refine x_mem (Ent.marks0 _) ?_
  refine x_range (Ds := []) rfl rfl (lies_iter pn pb n a b.length c hn hb hc)
    (fun j => [Any fun l => Fact ((List.range j).mapM (pz n b) = some l) (FoI p4 l), Row p5 0 [.bool false], Row p3 0 [.int .i64 n], A])
    (fun cd _ => [Fact (cd = .ret ∧ parse n b = none) (Row p4 0 [.slice none 0 0]), Row p5 0 [.bool false], A]) (Δ2 := Γ) ?_ (by rfl) ?_ ?_ ?_ ?_
  · refine (Ent.nilSl 2 _).trans ?_
    refine (Sub.h (Δ := Row p4 0 [.slice none 0 0] :: Sl 2 none 0 0 [] :: Row p5 0 [.bool false] :: Row p3 0 [.int .i64 n] :: A :: Γ)).trans ?_
    refine (Ent.foi [] _).trans ?_
    refine (Ent.fact (p := (List.range 0).mapM (pz n b) = some []) rfl _).trans ?_
    exact Ent.ex (A := fun l => Fact ((List.range 0).mapM (pz n b) = some l) (FoI p4 l)) [] _
  · intro j vs hj
    rw [List.getElem?_map, Option.map_eq_some_iff] at hj
    obtain ⟨y, _, rfl⟩ := hj
    rfl
  · intro j vs hj
    have hjl : j < nSl n b.length := by have := (List.getElem?_eq_some_iff.1 hj).1; simpa using this
    rw [List.getElem?_map, List.getElem?_range hjl] at hj
    obtain rfl : lieV n b.length a c j = vs := by simpa using hj
    have hjb := (nSl_iff hn.1).1 hjl
    intro Y l r Θ hfn hro hend hexit hret
    refine x_mem (Γ' := Any (fun l => Fact ((List.range j).mapM (pz n b) = some l) (FoI p4 l)) :: Row p5 0 [.bool false] :: Row p3 0 [.int .i64 n] :: A :: Rec l r .ready none :: Θ) (by (simp only [List.cons_append, List.nil_append]); exact Sub.h) ?_
    refine x_open (α := { l : List En // (List.range j).mapM (pz n b) = some l }) (Γ' := fun z => FoI p4 z.1 :: Row p5 0 [.bool false] :: Row p3 0 [.int .i64 n] :: A :: Rec l r .ready none :: Θ) (fun E w st => by
      obtain ⟨l, st⟩ := st.ex
      obtain ⟨h, st⟩ := st.fact
      exact ⟨⟨l, h⟩, st⟩) ?_
    rintro ⟨es, hes⟩
    dsimp only
    have hel := mapM_len _ hes
    rw [List.length_range] at hel
    refine x_open (fun E w st => st.foi) fun ⟨a4, c4⟩ => ?_
    dsimp only
    obtain ⟨x, hxe⟩ : ∃ x, slotOf n b j = x := ⟨_, rfl⟩
    obtain ⟨m, hm⟩ : ∃ m, min b.length (j * n + n) = m := ⟨_, rfl⟩
    obtain ⟨jn, hjn⟩ : ∃ jn, j * n = jn := ⟨_, rfl⟩
    unfold lieV
    rw [hjn] at hjb hm ⊢
    rw [hm]
    have hxl : x.length = m - jn := by rw [← hxe]; unfold slotOf; rw [hjn]; simp; omega
    have Rx := R.sub c jn m (by omega) (by omega) hc
    have ex : ((b.map bv).drop (jn * 1)).take ((m - jn) * 1) = x.map bv := by
      rw [← hxe, Nat.mul_one, Nat.mul_one, ← List.map_drop, ← List.map_take]
      unfold slotOf
      rw [hjn]
      congr 1
      apply List.take_eq_take_iff.2
      simp; omega
    rw [ex] at Rx
    have hx0 : 0 < x.length := by omega
    have hjm : 0 < m - jn := by omega
    have hgd : ∀ (i : Nat) (h : i < x.length), x.getD i 0 = x[i] := fun i h => by rw [List.getD_eq_getElem?_getD, List.getElem?_eq_getElem h]; rfl
    have hpn : pz n b j = none → parse n b = none := fun h => mapM_none _ _ j (by simpa using hjl) h
    have hret' : ∀ ρ' k' Δ, pz n b j = none → Ent Δ (Row p4 0 [.slice none 0 0] :: Row p5 0 [.bool false] :: A :: Rec l r .busy none :: Θ) → Ex Try.prog Y 60 [] (.code .ret :: k') ρ' Δ := fun ρ' k' Δ h hΔ =>
      x_mem (hΔ.trans ((Ent.fact (p := Code.ret = .ret ∧ parse n b = none) ⟨rfl, hpn h⟩ _).trans (by (simp only [List.cons_append, List.nil_append]); exact Sub.h))) (hret k' ρ')
    have hend' : ∀ ρ' (e : En) (a5 : Option Addr) (c5 : Nat) Δ, pz n b j = some e → Ent Δ (Row p4 0 [.slice a5 (es.length + 1) c5] :: Sl 2 a5 (es.length + 1) c5 (es.flatMap enV ++ enV e) :: Row p5 0 [.bool false] :: Row p3 0 [.int .i64 n] :: A :: Rec l r .busy none :: Θ) → Ex Try.prog Y 60 [] [] ρ' Δ := fun ρ' e a5 c5 Δ h hΔ => by
      refine x_mem (hΔ.trans ?_) (hend ρ')
      have e1 : (es ++ [e]).length = es.length + 1 := by simp
      have e2 : (es ++ [e]).flatMap enV = es.flatMap enV ++ enV e := by simp
      have h1 := Ent.foi (p4 := p4) (es ++ [e]) (a := a5) (c := c5) (Row p5 0 [.bool false] :: Row p3 0 [.int .i64 n] :: A :: Rec l r .busy none :: Θ)
      rw [e1, e2] at h1
      have h2 : (List.range (j + 1)).mapM (pz n b) = some (es ++ [e]) := by
        have := mapM_take (pz n b) (List.range (j + 1)) j j es (by simp) (by rw [List.take_range, Nat.min_eq_left (by omega)]; exact hes)
        rw [List.take_of_length_le (by simp), h] at this
        exact this
      refine h1.trans ((Ent.fact h2 _).trans ((Ent.ex (A := fun l => Fact ((List.range (j + 1)).mapM (pz n b) = some l) (FoI p4 l)) (es ++ [e]) _).trans ?_))
      (simp only [List.cons_append, List.nil_append])
      exact Sub.h
    (refine x_seq (x_region ?_); refine r_op (o_assign rfl rfl ?_); refine r_nil ?_; refine x_region ?_; refine r_op (o_assign rfl rfl ?_); refine r_nil ?_)
    refine x_beginRound (r := r) hro ?_
    by_cases h128 : 128 ≤ j
    · (refine x_block ?_; refine x_seq ?_; refine x_block ?_; refine x_seq (x_region ?_); refine r_op (o_move rfl rfl ?_); refine r_op (o_geq_t rfl rfl (by omega) rfl ?_); refine r_op (o_assign rfl rfl ?_); refine r_nil ?_; refine x_true rfl ?_; refine x_seq (x_region ?_); refine r_do (o_store rfl rfl rfl rfl (by simp) ?_); (try dsimp only [Nat.reduceSub, Nat.reduceAdd, List.set]); refine r_do (o_store rfl rfl rfl rfl (by simp) ?_); (try dsimp only [Nat.reduceSub, Nat.reduceAdd, List.set]); refine r_nil ?_)
      exact hret' _ _ _ (by unfold pz; rw [if_pos h128]) Sub.h
    · have hpz : pz n b j = parse1 n x := by unfold pz; rw [if_neg h128, hxe]
      (refine x_block ?_; refine x_seq ?_; refine x_block ?_; refine x_seq (x_region ?_); refine r_op (o_move rfl rfl ?_); refine r_op (o_geq_f rfl rfl (by omega) rfl ?_); refine r_op (o_assign rfl rfl ?_); refine r_nil ?_; refine x_false rfl ?_; refine x_seq (x_region ?_); refine r_op (o_move rfl rfl ?_))
      (refine r_op ?_)
      refine o_indexR rfl rfl Rx (j := 0) rfl hjm rfl (fun b1 off ha => ?_)
      skip
      (refine r_op ?_)
      refine o_loadR rfl Rx ha (i := 0) (by omega) (bget hx0) rfl ?_
      (refine r_op ?_)
      refine o_eql rfl rfl rfl (fun h => ?_) (fun h => ?_)
      · have h : x[0] = 0 := UInt8.toNat_inj.1 (by simpa using h)
        have hp0 : pz n b j = some none := by rw [hpz]; unfold parse1; rw [hgd 0 hx0, if_pos h]
        (refine r_op (o_assign rfl rfl ?_); refine r_nil ?_; refine x_true rfl ?_; refine x_seq (x_region ?_); refine r_op (o_load rfl rfl rfl rfl ?_))
        (refine r_op ?_)
        refine o_build rfl (by rfl) rfl ?_
        (refine r_op ?_)
        refine o_buildSlice rfl (by rfl) (by rfl) (by rfl) (by rfl) rfl (fun a2 => ?_)
        (refine r_op ?_)
        refine o_appendT rfl rfl (by rfl) (by rfl) (by rfl) (by omega) rfl (fun a3 c3 hc => ?_)
        (refine r_do (o_store rfl rfl rfl rfl (by simp) ?_); (try dsimp only [Nat.reduceSub, Nat.reduceAdd, List.set]); refine r_nil ?_; refine x_exit rfl ?_)
        refine hend' _ none a3 c3 _ hp0 ?_
        show Ent (Sl 2 a3 (es.length + 1) c3 (List.flatMap enV es ++ enV none) :: _) _
        exact Sub.h
      · have h : x[0] ≠ 0 := fun e => h (by rw [e]; rfl)
        (refine r_op (o_assign rfl rfl ?_); refine r_nil ?_; refine x_false rfl ?_; refine x_seq (x_region ?_); refine r_op (o_move rfl rfl ?_))
        (refine r_op ?_)
        refine o_indexR rfl rfl Rx (j := 0) rfl hjm rfl (fun b2 off2 ha2 => ?_)
        obtain ⟨rfl, rfl⟩ : b2 = b1 ∧ off2 = off := by rw [ha] at ha2; simpa using ha2.symm
        skip
        (refine r_op ?_)
        refine o_loadR rfl Rx ha (i := 0) (by omega) (bget hx0) rfl ?_
        have hexi : ∀ ρ', (x[0] ≠ 1 ∨ x.length < n) → Ex Try.prog Y 60 [] (.code .ret :: []) ρ' (Row p4 0 [.slice none 0 0] :: Row p5 0 [.bool false] :: A :: Rec l r .busy none :: Θ) := fun ρ' hh => hret' ρ' _ _ (by rw [hpz]; unfold parse1; rw [hgd 0 hx0, if_neg h, if_pos hh]) Sub.h
        by_cases h1 : x[0] = 1
        · (refine r_op ?_)
          refine o_neq_f rfl rfl (by rw [h1]; rfl) rfl ?_
          (refine r_op (o_move rfl rfl ?_); refine r_guard rfl (o_move rfl rfl ?_); refine r_guard rfl (o_lenS rfl rfl ?_); refine r_guard rfl (o_load rfl rfl rfl rfl ?_))
          (refine r_guard rfl ?_)
          refine o_lss rfl rfl rfl (fun hl => ?_) (fun hl => ?_)
          · (refine r_op (o_pick_f rfl rfl rfl ?_); refine r_op (o_assign rfl rfl ?_); refine r_nil ?_; refine x_true rfl ?_; refine x_seq (x_region ?_); refine r_do (o_store rfl rfl rfl rfl (by simp) ?_); (try dsimp only [Nat.reduceSub, Nat.reduceAdd, List.set]); refine r_do (o_store rfl rfl rfl rfl (by simp) ?_); (try dsimp only [Nat.reduceSub, Nat.reduceAdd, List.set]); refine r_nil ?_)
            exact hret' _ _ _ (by rw [hpz]; unfold parse1; rw [hgd 0 hx0, if_neg h, if_pos (.inr (by omega))]) Sub.h
          · have hxn : n ≤ x.length := by omega
            have x1 : 1 < x.length := by omega
            have x2 : 2 < x.length := by omega
            obtain ⟨hi, hhi⟩ : ∃ hi, (x[1]).toNat = hi := ⟨_, rfl⟩
            obtain ⟨lo, hlo⟩ : ∃ lo, (x[2]).toNat = lo := ⟨_, rfl⟩
            have hb1 : hi < 256 := hhi ▸ x[1].toNat_lt
            have hb2 : lo < 256 := hlo ▸ x[2].toNat_lt
            have htl : tl x = hi * 256 + lo := by unfold tl; rw [hgd 1 x1, hgd 2 x2, hhi, hlo]
            (refine r_op (o_pick_f rfl rfl rfl ?_); refine r_op (o_assign rfl rfl ?_); refine r_nil ?_; refine x_false rfl ?_; refine x_skip ?_; refine x_inBlock ?_; refine x_seq ?_)
            refine x_script 11 [(0,false),(1,false),(2,false),(3,false),(4,false),(5,false),(6,false),(7,false),(8,false),(9,false),(10,false),(11,false)] [A] mixed (by kernel_rfl) permF ?_
            (refine s_v rfl (v_move rfl) ?_)
            refine s_v rfl (v_indexH rfl rfl ha (j := 1) rfl (by omega)) ?_
            refine s_v rfl (v_loadR rfl Rx ha (i := 1) (by omega) (bget x1)) ?_
            refine s_v rfl (v_conv rfl) ?_
            rw [show (IntKind.i64.wrap (x[1].toNat : Int)) = (hi : Int) from by rw [hhi]; exact in_i64 (by omega)]
            have hsh : (hi : Int) * 2 ^ (8 : Int).toNat = ((hi * 256 : Nat) : Int) := by rw [Int.natCast_mul]; rfl
            refine s_v rfl (v_shl rfl rfl (by decide) (by rw [hsh]; exact in_i64 (by omega))) ?_
            rw [hsh]
            refine s_v rfl (v_add rfl rfl (in_i64 (by omega))) ?_
            (refine s_v rfl (v_move rfl) ?_)
            refine s_v rfl (v_indexH rfl rfl ha (j := 2) rfl (by omega)) ?_
            refine s_v rfl (v_loadR rfl Rx ha (i := 2) (by omega) (bget x2)) ?_
            refine s_v rfl (v_conv rfl) ?_
            rw [show (IntKind.i64.wrap (x[2].toNat : Int)) = (lo : Int) from by rw [hlo]; exact in_i64 (by omega)]
            refine s_v rfl (v_add rfl rfl (in_i64 (by omega))) ?_
            (refine s_v rfl (v_assign rfl) ?_)
            refine s_end rfl ?_
            rw [show (16 : Int) + ((hi * 256 : Nat) : Int) + (lo : Int) = ((16 + tl x : Nat) : Int) by omega]
            (refine x_seq ?_; refine x_seq (x_region ?_); refine r_op (o_move rfl rfl ?_); refine r_op (o_load rfl rfl rfl rfl ?_))
            (refine r_op ?_)
            refine o_gtr rfl rfl rfl (fun hg => ?_) (fun hg => ?_)
            · (refine r_nil ?_; refine x_true rfl ?_; refine x_seq (x_region ?_); refine r_do (o_store rfl rfl rfl rfl (by simp) ?_); (try dsimp only [Nat.reduceSub, Nat.reduceAdd, List.set]); refine r_do (o_store rfl rfl rfl rfl (by simp) ?_); (try dsimp only [Nat.reduceSub, Nat.reduceAdd, List.set]); refine r_nil ?_)
              exact hret' _ _ _ (by rw [hpz]; unfold parse1; rw [hgd 0 hx0, if_neg h, if_neg (by rintro (e | e); exact e h1; omega), if_pos (by omega)]) Sub.h
            · have hp1 : pz n b j = some (some ((x.drop 16).take (tl x))) := by rw [hpz]; unfold parse1; rw [hgd 0 hx0, if_neg h, if_neg (by rintro (e | e); exact e h1; omega), if_neg (by omega)]
              (refine r_nil ?_; refine x_false rfl ?_; refine x_skip ?_)
              have Rt := Rx.sub (c - jn) 16 (16 + tl x) (by omega) (by omega) (by omega)
              refine x_script 8 [(0,false),(1,false),(2,false),(3,false),(4,false),(5,false),(6,true),(7,true),(8,true)] [A, Row p4 0 [.slice a4 es.length c4]] mixed (by kernel_rfl) permF ?_
              (refine s_v rfl (v_load rfl rfl rfl) ?_; refine s_v rfl (v_move rfl) ?_; refine s_v rfl (v_move rfl) ?_)
              refine s_v rfl (v_slice rfl rfl rfl (jl := 16) (jh := 16 + tl x) rfl rfl (by omega) (by omega)) ?_
              rw [show (x.map bv).drop (16 * 1) = (x.drop 16).map bv by simp] at Rt
              rw [show ((x.drop 16).map bv).take ((16 + tl x - 16) * 1) = ((x.drop 16).take (tl x)).map bv by simp] at Rt
              refine s_v rfl (v_toStr rfl Rt) ?_
              refine s_v rfl (v_build rfl (by rfl)) ?_
              refine s_x rfl (o_buildSlice rfl (by rfl) (by rfl) (by rfl) (by rfl) rfl (fun a2 => ?_))
              refine ⟨permF, ?_⟩
              refine s_x rfl (o_appendT rfl rfl (by rfl) (by rfl) (by rfl) (by omega) rfl (fun a3 c3 hc => ?_))
              refine ⟨permF, ?_⟩
              refine s_xt rfl rfl ?_
              refine o_store rfl rfl rfl rfl Nat.zero_lt_one ?_
              refine s_end rfl ?_
              (refine x_inBlock ?_)
              refine hend' _ (some ((x.drop 16).take (tl x))) a3 c3 _ hp1 ?_
              show Ent (Sl 2 a3 (es.length + 1) c3 (List.flatMap enV es ++ enV (some ((x.drop 16).take (tl x)))) :: Rec l r .busy none :: Row p4 0 [.slice a3 (es.length + 1) c3] :: _) _
              exact Sub.h
        · (refine r_op ?_)
          refine o_neq_t rfl rfl (fun e => h1 (UInt8.toNat_inj.1 (by have := Int.ofNat.inj e; simpa using this))) rfl ?_
          (refine r_op (o_move rfl rfl ?_); refine r_skip rfl rfl rfl ?_; refine r_skip rfl rfl rfl ?_; refine r_skip rfl rfl rfl ?_; refine r_skip rfl rfl rfl ?_; refine r_op (o_pick_t rfl rfl rfl ?_); refine r_op (o_assign rfl rfl ?_); refine r_nil ?_; refine x_true rfl ?_; refine x_seq (x_region ?_); refine r_do (o_store rfl rfl rfl rfl (by simp) ?_); (try dsimp only [Nat.reduceSub, Nat.reduceAdd, List.set]); refine r_do (o_store rfl rfl rfl rfl (by simp) ?_); (try dsimp only [Nat.reduceSub, Nat.reduceAdd, List.set]); refine r_nil ?_)
          exact hret' _ _ _ (by rw [hpz]; unfold parse1; rw [hgd 0 hx0, if_neg h, if_pos (.inl h1)]) Sub.h
  · intro D
    refine x_open (α := { l : List En // (List.range (nSl n b.length)).mapM (pz n b) = some l }) (Γ' := fun z => Marks [D] :: FoI p4 z.1 :: Row p5 0 [.bool false] :: Row p3 0 [.int .i64 n] :: A :: Γ) (fun E w st => by
      rw [List.length_map, List.length_range] at st
      simp only [List.cons_append, List.nil_append] at st
      have st := (Sub.h (Δ := Any (fun l => Fact ((List.range (nSl n b.length)).mapM (pz n b) = some l) (FoI p4 l)) :: Marks [D] :: Row p5 0 [.bool false] :: Row p3 0 [.int .i64 n] :: A :: Γ)).st st
      obtain ⟨l, st⟩ := st.ex
      obtain ⟨h, st⟩ := st.fact
      exact ⟨⟨l, h⟩, Sub.h.st st⟩) ?_
    rintro ⟨es, hes⟩
    dsimp only
    refine x_open (Γ' := fun q : Option Addr × Nat => Row p4 0 [.slice q.1 es.length q.2] :: Sl 2 q.1 es.length q.2 (es.flatMap enV) :: Marks [D] :: Row p5 0 [.bool false] :: Row p3 0 [.int .i64 n] :: A :: Γ) (fun E w st => ((Sub.h (Δ := FoI p4 es :: Marks [D] :: Row p5 0 [.bool false] :: Row p3 0 [.int .i64 n] :: A :: Γ)).st st).foi) fun ⟨a4, c4⟩ => ?_
    (refine x_inBlock ?_; refine x_seq (x_region ?_); refine r_op (o_load rfl rfl rfl rfl ?_); refine r_do (o_store rfl rfl rfl rfl (by simp) ?_); (try dsimp only [Nat.reduceSub, Nat.reduceAdd, List.set]); refine r_do (o_store rfl rfl rfl rfl (by simp) ?_); (try dsimp only [Nat.reduceSub, Nat.reduceAdd, List.set]); refine r_nil ?_)
    refine x_retCM (rs := [.cell 4 139, .cell 5 4]) (vs := [.slice a4 es.length c4, .bool true]) ⟨rv_cell rfl (Cell.row (off := 0) rfl rfl), rv_cell rfl (Cell.row (off := 0) rfl rfl), trivial⟩ [A, Sl 2 a4 es.length c4 (es.flatMap enV)] (.inl ⟨es, a4, c4, hes, rfl, rfl⟩) Sub.h
  · intro D cd j
    refine x_open (α := { _u : Unit // cd = .ret ∧ parse n b = none }) (Γ' := fun _ => Marks [D] :: Row p4 0 [.slice none 0 0] :: Row p5 0 [.bool false] :: A :: Γ) (fun E w st => by
      simp only [List.cons_append, List.nil_append] at st
      have st := (Sub.h (Δ := Fact (cd = .ret ∧ parse n b = none) (Row p4 0 [.slice none 0 0]) :: Marks [D] :: Row p5 0 [.bool false] :: A :: Γ)).st st
      obtain ⟨h, st⟩ := st.fact
      exact ⟨⟨(), h⟩, Sub.h.st st⟩) ?_
    rintro ⟨_, rfl, hp⟩
    refine x_retCM (rs := [.cell 4 139, .cell 5 4]) (vs := [.slice none 0 0, .bool false]) ⟨rv_cell rfl (Cell.row (off := 0) rfl rfl), rv_cell rfl (Cell.row (off := 0) rfl rfl), trivial⟩ [A] (.inr ⟨hp, rfl, rfl⟩) Sub.h
end Go.Proofs.Ythneebbmodkjiaa

namespace Go.Proofs.Ythneebbmodkjiaa
open Go.Proofs

/-! ### Sizes -/
theorem slot_spec (k : Int) : Spec Try.prog 113 [.int .i64 k] [] (fun v B => v = (if k < 0 ∨ 4 ≤ k then .tuple #[.int .i64 0, .int .i64 1] else .tuple #[.int .i64 ((128 * 2 ^ k.toNat : Nat) : Int), .int .i64 0]) ∧ B = []) := by
  refine Spec.of_ex Try.func113 rfl Try.ntmps113 rfl fun E cs Γ => ?_
  (simp only [argRho, List.nil_append])
  by_cases h1 : k < 0
  · (refine x_seq (x_region ?_); refine r_op (o_assign rfl rfl ?_); refine r_op (o_assign rfl rfl ?_); refine r_nil ?_; refine x_seq ?_; refine x_seq (x_region ?_); refine r_op (o_move rfl rfl ?_); refine r_op (o_lss_t rfl rfl (by omega) rfl ?_); refine r_op (o_move rfl rfl ?_); refine r_skip rfl rfl rfl ?_; refine r_skip rfl rfl rfl ?_; refine r_op (o_pick_t rfl rfl rfl ?_); refine r_nil ?_; refine x_true rfl ?_; refine x_seq (x_region ?_); refine r_op (o_assign rfl rfl ?_); refine r_op (o_assign rfl rfl ?_); refine r_nil ?_)
    exact x_ret rfl [] ⟨by rw [if_pos (.inl h1)]; rfl, rfl⟩ Sub.h
  · by_cases h2 : 4 ≤ k
    · (refine x_seq (x_region ?_); refine r_op (o_assign rfl rfl ?_); refine r_op (o_assign rfl rfl ?_); refine r_nil ?_; refine x_seq ?_; refine x_seq (x_region ?_); refine r_op (o_move rfl rfl ?_); refine r_op (o_lss_f rfl rfl (by omega) rfl ?_); refine r_op (o_move rfl rfl ?_); refine r_guard rfl (o_move rfl rfl ?_); refine r_guard rfl (o_geq_t rfl rfl (by omega) rfl ?_); refine r_op (o_pick_f rfl rfl rfl ?_); refine r_nil ?_; refine x_true rfl ?_; refine x_seq (x_region ?_); refine r_op (o_assign rfl rfl ?_); refine r_op (o_assign rfl rfl ?_); refine r_nil ?_)
      exact x_ret rfl [] ⟨by rw [if_pos (.inr h2)]; rfl, rfl⟩ Sub.h
    · obtain ⟨i, rfl⟩ : ∃ i : Nat, k = i := ⟨k.toNat, by omega⟩
      (refine x_seq (x_region ?_); refine r_op (o_assign rfl rfl ?_); refine r_op (o_assign rfl rfl ?_); refine r_nil ?_; refine x_seq ?_; refine x_seq (x_region ?_); refine r_op (o_move rfl rfl ?_); refine r_op (o_lss_f rfl rfl (by omega) rfl ?_); refine r_op (o_move rfl rfl ?_); refine r_guard rfl (o_move rfl rfl ?_); refine r_guard rfl (o_geq_f rfl rfl (by omega) rfl ?_); refine r_op (o_pick_f rfl rfl rfl ?_); refine r_nil ?_; refine x_false rfl ?_; refine x_skip ?_; refine x_seq (x_region ?_); refine r_op (o_move rfl rfl ?_))
      have hi : i = 0 ∨ i = 1 ∨ i = 2 ∨ i = 3 := by omega
      rw [if_neg (by omega)]
      (refine r_op ?_)
      refine o_shl rfl rfl ⟨by omega, by simp [IntKind.bits]; omega⟩ (in_i64 (by rcases hi with rfl | rfl | rfl | rfl <;> decide)) rfl ?_
      (refine r_op (o_assign rfl rfl ?_); refine r_op (o_assign rfl rfl ?_); refine r_nil ?_)
      exact x_ret rfl [] ⟨by rcases hi with rfl | rfl | rfl | rfl <;> rfl, rfl⟩ Sub.h
def fitsB (n : Int) : Bool := n == 128 || n == 256 || n == 512 || n == 1024
theorem fits_spec (n : Int) : Spec Try.prog 106 [.int .i64 n] [] (fun v B => v = .bool (fitsB n) ∧ B = []) := by
  refine Spec.of_ex Try.func106 rfl Try.ntmps106 rfl fun E cs Γ => ?_
  (simp only [argRho, List.nil_append])
  (refine x_seq (x_region ?_); refine r_op (o_assign rfl rfl ?_); refine r_nil ?_; refine x_seq ?_; refine x_seq (x_region ?_); refine r_op (o_move rfl rfl ?_); refine r_nil ?_; refine x_block ?_)
  refine x_loop (α := Nat) (fun i => i ≤ 4 ∧ ∀ k < i, n ≠ ((128 * 2 ^ k : Nat) : Int)) (fun i => [(0, .int .i64 n), (6, .int .i64 i)]) (fun _ => Γ) (fun i => 4 - i) 0 ⟨by omega, fun k h => by omega⟩ ⟨rfl, rfl, trivial⟩ (.refl _) ?_
  rintro i ⟨hi, hk⟩ back
  (refine x_seq (x_region ?_))
  by_cases h : i < 4
  · (refine r_op (o_lss_t rfl rfl (by omega) rfl ?_); refine r_nil ?_; refine x_seq ?_; refine x_true rfl ?_; refine x_skip ?_; refine x_seq ?_; refine x_block ?_; refine x_seq (x_region ?_); refine r_op (o_move rfl rfl ?_); refine r_op (o_assign rfl rfl ?_); refine r_nil ?_; refine x_seq (x_region ?_); refine r_op (o_move rfl rfl ?_))
    (refine r_op ?_)
    refine o_call rfl (slot_spec i) rfl ?_
    rintro v B ⟨rfl, rfl⟩
    rw [if_neg (by omega)]
    (simp only [List.nil_append])
    rw [Int.toNat_natCast]
    by_cases he : n = ((128 * 2 ^ i : Nat) : Int)
    · have hf : fitsB n = true := by
        have : i = 0 ∨ i = 1 ∨ i = 2 ∨ i = 3 := by omega
        rcases this with rfl | rfl | rfl | rfl <;> rw [he] <;> rfl
      subst he
      (refine r_op (o_move rfl rfl ?_); refine r_op (o_extract rfl rfl rfl ?_); refine r_op (o_extract rfl rfl rfl ?_); refine r_op (o_assign rfl rfl ?_); refine r_op (o_assign rfl rfl ?_); refine r_nil ?_; refine x_seq (x_region ?_); refine r_op (o_move rfl rfl ?_); refine r_op (o_eql_t rfl rfl (by omega) rfl ?_); refine r_op (o_move rfl rfl ?_); refine r_guard rfl (o_move rfl rfl ?_); refine r_guard rfl (o_move rfl rfl ?_); refine r_guard rfl (o_eql_t rfl rfl (by omega) rfl ?_); refine r_op (o_pick_t rfl rfl rfl ?_); refine r_nil ?_; refine x_true rfl ?_; refine x_seq (x_region ?_); refine r_op (o_assign rfl rfl ?_); refine r_nil ?_)
      exact x_ret rfl [] ⟨by rw [hf]; rfl, rfl⟩ Sub.h
    · (refine r_op (o_move rfl rfl ?_); refine r_op (o_extract rfl rfl rfl ?_); refine r_op (o_extract rfl rfl rfl ?_); refine r_op (o_assign rfl rfl ?_); refine r_op (o_assign rfl rfl ?_); refine r_nil ?_; refine x_seq (x_region ?_); refine r_op (o_move rfl rfl ?_); refine r_op (o_eql_t rfl rfl (by omega) rfl ?_); refine r_op (o_move rfl rfl ?_); refine r_guard rfl (o_move rfl rfl ?_); refine r_guard rfl (o_move rfl rfl ?_); refine r_guard rfl (o_eql_f rfl rfl (by omega) rfl ?_); refine r_op (o_pick_t rfl rfl rfl ?_); refine r_nil ?_; refine x_false rfl ?_; refine x_skip ?_; refine x_inBlock ?_; refine x_region ?_; refine r_op (o_add rfl rfl (add_i64 (by omega)) rfl ?_); refine r_op (o_move rfl rfl ?_); refine r_nil ?_)
      refine x_weak (back (i + 1) ⟨by omega, fun k h => by
        rcases Nat.lt_succ_iff_lt_or_eq.1 h with h | rfl
        · exact hk k h
        · exact he⟩ (by omega)) (by (repeat' (first | exact trivial | refine ⟨rfl, ?_⟩))) Sub.h
  · have e : i = 4 := by omega
    subst e
    have hf : fitsB n = false := by
      have h0 := hk 0 (by omega)
      have h1 := hk 1 (by omega)
      have h2 := hk 2 (by omega)
      have h3 := hk 3 (by omega)
      unfold fitsB
      simp only [Bool.or_eq_false_iff, beq_eq_false_iff_ne]
      exact ⟨⟨⟨h0, h1⟩, h2⟩, h3⟩
    (refine r_op (o_lss_f rfl rfl (by omega) rfl ?_); refine r_nil ?_; refine x_seq ?_; refine x_false rfl ?_; refine x_exit rfl ?_; refine x_seq (x_region ?_); refine r_op (o_assign rfl rfl ?_); refine r_nil ?_)
    exact x_ret rfl [] ⟨by rw [hf]; rfl, rfl⟩ Sub.h
/-- The size that a text of so many bytes needs. -/
def sizeOf (n : Int) : Int × Int := if n < 0 then (0, 1) else if n ≤ 112 then (0, 0) else if n ≤ 240 then (1, 0) else if n ≤ 496 then (2, 0) else if n ≤ 1008 then (3, 0) else (0, 2)
theorem sizeOf_at (n : Int) (i : Nat) (hi : i < 4) (h0 : 0 ≤ n) (hk : ∀ k < i, ¬ n ≤ ((128 * 2 ^ k : Nat) : Int) - 16) (h : n ≤ ((128 * 2 ^ i : Nat) : Int) - 16) : sizeOf n = ((i : Int), 0) := by
  have : i = 0 ∨ i = 1 ∨ i = 2 ∨ i = 3 := by omega
  unfold sizeOf
  rw [if_neg (by omega)]
  rcases this with rfl | rfl | rfl | rfl
  · rw [if_pos (show n ≤ 112 from h)]; rfl
  · rw [if_neg (show ¬ n ≤ 112 from hk 0 (by omega)), if_pos (show n ≤ 240 from h)]; rfl
  · rw [if_neg (show ¬ n ≤ 112 from hk 0 (by omega)), if_neg (show ¬ n ≤ 240 from hk 1 (by omega)), if_pos (show n ≤ 496 from h)]; rfl
  · rw [if_neg (show ¬ n ≤ 112 from hk 0 (by omega)), if_neg (show ¬ n ≤ 240 from hk 1 (by omega)), if_neg (show ¬ n ≤ 496 from hk 2 (by omega)), if_pos (show n ≤ 1008 from h)]; rfl
theorem sizeOf_over (n : Int) (h0 : 0 ≤ n) (hk : ∀ k < 4, ¬ n ≤ ((128 * 2 ^ k : Nat) : Int) - 16) : sizeOf n = (0, 2) := by
  unfold sizeOf
  rw [if_neg (by omega), if_neg (show ¬ n ≤ 112 from hk 0 (by omega)), if_neg (show ¬ n ≤ 240 from hk 1 (by omega)), if_neg (show ¬ n ≤ 496 from hk 2 (by omega)), if_neg (show ¬ n ≤ 1008 from hk 3 (by omega))]
theorem szshelf_spec (n : Int) : Spec Try.prog 114 [.int .i64 n] [] (fun v B => v = .tuple #[.int .i64 (sizeOf n).1, .int .i64 (sizeOf n).2] ∧ B = []) := by
  refine Spec.of_ex Try.func114 rfl Try.ntmps114 rfl fun E cs Γ => ?_
  (simp only [argRho, List.nil_append])
  by_cases h0 : n < 0
  · (refine x_seq (x_region ?_); refine r_op (o_assign rfl rfl ?_); refine r_op (o_assign rfl rfl ?_); refine r_nil ?_; refine x_seq ?_; refine x_seq (x_region ?_); refine r_op (o_move rfl rfl ?_); refine r_op (o_lss_t rfl rfl (by omega) rfl ?_); refine r_nil ?_; refine x_true rfl ?_; refine x_seq (x_region ?_); refine r_op (o_assign rfl rfl ?_); refine r_op (o_assign rfl rfl ?_); refine r_nil ?_)
    exact x_ret rfl [] ⟨by unfold sizeOf; rw [if_pos h0]; rfl, rfl⟩ Sub.h
  · (refine x_seq (x_region ?_); refine r_op (o_assign rfl rfl ?_); refine r_op (o_assign rfl rfl ?_); refine r_nil ?_; refine x_seq ?_; refine x_seq (x_region ?_); refine r_op (o_move rfl rfl ?_); refine r_op (o_lss_f rfl rfl (by omega) rfl ?_); refine r_nil ?_; refine x_false rfl ?_; refine x_skip ?_; refine x_seq ?_; refine x_seq (x_region ?_); refine r_op (o_move rfl rfl ?_); refine r_nil ?_; refine x_block ?_)
    refine x_loop (α := Nat) (fun i => i ≤ 4 ∧ ∀ k < i, ¬ n ≤ ((128 * 2 ^ k : Nat) : Int) - 16) (fun i => [(0, .int .i64 n), (7, .int .i64 i)]) (fun _ => Γ) (fun i => 4 - i) 0 ⟨by omega, fun k h => by omega⟩ ⟨rfl, rfl, trivial⟩ (.refl _) ?_
    rintro i ⟨hi, hk⟩ back
    (refine x_seq (x_region ?_))
    by_cases h : i < 4
    · have hi4 : i = 0 ∨ i = 1 ∨ i = 2 ∨ i = 3 := by omega
      have hsh : (128 : Int) * 2 ^ (i : Int).toNat = ((128 * 2 ^ i : Nat) : Int) := by rcases hi4 with rfl | rfl | rfl | rfl <;> rfl
      have hsb : 128 * 2 ^ i ≤ 1024 := by rcases hi4 with rfl | rfl | rfl | rfl <;> decide
      (refine r_op (o_lss_t rfl rfl (by omega) rfl ?_); refine r_nil ?_; refine x_seq ?_; refine x_true rfl ?_; refine x_skip ?_; refine x_seq ?_; refine x_block ?_; refine x_seq (x_region ?_); refine r_op (o_move rfl rfl ?_); refine r_op (o_assign rfl rfl ?_); refine r_nil ?_; refine x_seq (x_region ?_); refine r_op (o_move rfl rfl ?_); refine r_op (o_move rfl rfl ?_))
      (refine r_op ?_)
      refine o_shl rfl rfl ⟨by omega, by simp [IntKind.bits]; omega⟩ (by rw [hsh]; exact in_i64 (by omega)) rfl ?_
      rw [hsh]
      (refine r_op ?_)
      refine o_sub rfl rfl (in_i64 (by omega)) rfl ?_
      (refine r_op ?_)
      refine o_leq rfl rfl rfl (fun hl => ?_) (fun hl => ?_)
      · (refine r_nil ?_; refine x_true rfl ?_; refine x_seq (x_region ?_); refine r_op (o_move rfl rfl ?_); refine r_op (o_assign rfl rfl ?_); refine r_op (o_assign rfl rfl ?_); refine r_nil ?_)
        exact x_ret rfl [] ⟨by rw [sizeOf_at n i h (by omega) hk hl]; rfl, rfl⟩ Sub.h
      · (refine r_nil ?_; refine x_false rfl ?_; refine x_skip ?_; refine x_inBlock ?_; refine x_region ?_; refine r_op (o_add rfl rfl (add_i64 (by omega)) rfl ?_); refine r_op (o_move rfl rfl ?_); refine r_nil ?_)
        refine x_weak (back (i + 1) ⟨by omega, fun k h => by
          rcases Nat.lt_succ_iff_lt_or_eq.1 h with h | rfl
          · exact hk k h
          · exact hl⟩ (by omega)) (by (repeat' (first | exact trivial | refine ⟨rfl, ?_⟩))) Sub.h
    · have e : i = 4 := by omega
      subst e
      (refine r_op (o_lss_f rfl rfl (by omega) rfl ?_); refine r_nil ?_; refine x_seq ?_; refine x_false rfl ?_; refine x_exit rfl ?_; refine x_seq (x_region ?_); refine r_op (o_assign rfl rfl ?_); refine r_op (o_assign rfl rfl ?_); refine r_nil ?_)
      exact x_ret rfl [] ⟨by rw [sizeOf_over n (by omega) hk]; rfl, rfl⟩ Sub.h
end Go.Proofs.Ythneebbmodkjiaa

namespace Go.Proofs.Ythneebbmodkjiaa
open Go.Proofs

/-! ### Entries laid anew, in order -/
def movedP (f n : Nat) : Dk → Nat → List En → List En → Dk × List En × Int
  | d, _, [], acc => (d, acc, 0)
  | d, i, none :: r, acc => movedP f n d (i + 1) r acc
  | d, i, some t :: r, acc =>
    if acc.length = i then movedP f n d (i + 1) r (acc ++ [some t])
    else if (layS d f n acc.length t).2 ≠ 0 then ((layS d f n acc.length t).1, acc ++ [some t], (layS d f n acc.length t).2)
    else if (mark (layS d f n acc.length t).1 f n i 0).2 ≠ 0 then ((mark (layS d f n acc.length t).1 f n i 0).1, acc ++ [some t], (mark (layS d f n acc.length t).1 f n i 0).2)
    else movedP f n (mark (layS d f n acc.length t).1 f n i 0).1 (i + 1) r (acc ++ [some t])
theorem okn_movedP (f n : Nat) : ∀ (r : List En) (d : Dk) (i : Nat) (acc : List En) (N : Nat), d.okn N → (movedP f n d i r acc).1.okn (N + 6 * r.length)
  | [], d, i, acc, N, h => h
  | none :: r, d, i, acc, N, h => (okn_movedP f n r d (i + 1) acc N h).mono (by simp; omega)
  | some t :: r, d, i, acc, N, h => by
    unfold movedP
    have h1 := okn_layS h f n acc.length t
    have h2 := okn_mark h1 f n i 0
    split
    · exact (okn_movedP f n r d (i + 1) _ N h).mono (by simp; omega)
    · split
      · exact h1.mono (by simp; omega)
      · split
        · exact h2.mono (by simp; omega)
        · exact (okn_movedP f n r _ (i + 1) _ _ h2).mono (by simp; omega)
theorem movedP_some (f n : Nat) (d : Dk) (i : Nat) (t : Tx) (r acc : List En) : movedP f n d i (some t :: r) acc =
    if acc.length = i then movedP f n d (i + 1) r (acc ++ [some t])
    else if (layS d f n acc.length t).2 ≠ 0 then ((layS d f n acc.length t).1, acc ++ [some t], (layS d f n acc.length t).2)
    else if (mark (layS d f n acc.length t).1 f n i 0).2 ≠ 0 then ((mark (layS d f n acc.length t).1 f n i 0).1, acc ++ [some t], (mark (layS d f n acc.length t).1 f n i 0).2)
    else movedP f n (mark (layS d f n acc.length t).1 f n i 0).1 (i + 1) r (acc ++ [some t]) := by rw [movedP]
set_option maxHeartbeats 1600000 in
theorem moved_spec {N : Nat} {A : HP} (ps b : Nat) (s : Sh) (d : Dk) (es : List En) (a : Option Addr) (c : Nat) (R : Reads A 2 a es.length (es.flatMap enV)) (hs : s.es = []) (hok : d.okn N) (hl : es.length ≤ 128) (hN : N + 800 ≤ 2 ^ 20) (hn : 16 ≤ s.n ∧ s.n ≤ 2 ^ 20) (_hcl : es.length ≤ c)
    (ht : ∀ t, some t ∈ es → t.length + 16 ≤ s.n) :
    Spec Try.prog 108 [dp ps, .slice a es.length c] [ShelfI ps b s, DiskI b d, A] (fun v B => v = .int .i64 (movedP s.f s.n d 0 es []).2.2 ∧ B = [ShelfI ps b { s with es := (movedP s.f s.n d 0 es []).2.1 }, DiskI b (movedP s.f s.n d 0 es []).1, A]) := by
  refine Spec.of_ex Try.func108 rfl Try.ntmps108 rfl fun E cs Γ => ?_
  (simp only [argRho, Nat.reduceAdd, List.cons_append, List.nil_append])
  (refine x_seq (x_region ?_); refine r_op (o_assign rfl rfl ?_); refine r_nil ?_; refine x_scope ?_; refine x_seq ?_; refine x_label ?_; refine x_seq ?_; refine x_seq (x_region ?_); refine r_op (o_move rfl rfl ?_); refine r_op (o_lenS rfl rfl ?_); refine r_op (o_move rfl rfl ?_); refine r_nil ?_; refine x_block ?_)
  refine x_loop (α := Dk × Nat × List En) (fun q => q.2.1 ≤ es.length ∧ q.2.2.length ≤ q.2.1 ∧ q.1.okn (N + 6 * q.2.1) ∧ movedP s.f s.n d 0 es [] = movedP s.f s.n q.1 q.2.1 (es.drop q.2.1) q.2.2)
    (fun q => [(0, dp ps), (1, .slice a es.length c), (10, .slice a es.length c), (11, .int .i64 es.length), (12, .int .i64 q.2.1)])
    (fun q => ShelfI ps b { s with es := q.2.2 } :: DiskI b q.1 :: A :: Γ) (fun q => es.length - q.2.1) (d, 0, []) ⟨by simp, by simp, by simpa using hok, by simp⟩ ⟨rfl, rfl, rfl, rfl, rfl, trivial⟩ ?_ ?_
  · dsimp only
    rw [← hs]
    exact Sub.h
  rintro ⟨d', i, acc⟩ ⟨hi, ha, hok', he⟩ back
  dsimp only at hi ha hok' he ⊢
  (refine x_seq (x_region ?_))
  (refine r_op ?_)
  refine o_lss rfl rfl rfl (fun h => ?_) (fun h => ?_)
  · have hi1 : i < es.length := by omega
    (refine r_nil ?_; refine x_seq ?_; refine x_true rfl ?_; refine x_skip ?_; refine x_seq ?_)
    refine x_open (fun E w st => st.shelf) fun ⟨a2, c2⟩ => ?_
    dsimp only
    (refine x_block ?_; refine x_seq (x_region ?_); refine r_op (o_move rfl rfl ?_))
    (refine r_op ?_)
    refine o_indexR rfl rfl R (j := i) rfl hi1 rfl (fun b1 off ha1 => ?_)
    (refine r_op ?_)
    refine o_loadAR rfl R ha1 (i := i * 2) (us := enV es[i]) (by omega) (enV_cl _) (fun jj v hv => ?_) rfl ?_
    · have hjj : jj < 2 := by have := (List.getElem?_eq_some_iff.1 hv).1; rwa [enV_cl] at this
      rw [en_get hi1 jj hjj, hv]
    rw [enV_eq]
    (refine r_op ?_)
    refine o_alloc rfl (fun px => ?_)
    (refine r_op (o_assign rfl rfl ?_))
    (refine r_do ?_)
    refine o_storeA rfl rfl rfl rfl rfl (Nat.le_refl 2) ?_
    refine r_mem (Γ' := Row px 0 [.bool es[i].isSome, .string (bstr (Tx.of es[i]))] :: Row ps 0 (shRow b s.f s.n (.slice a2 acc.length c2) s.failed) :: Sl 2 a2 acc.length c2 (acc.flatMap enV) :: DiskI b d' :: A :: Γ) (Ent.row_eq rfl _) ?_
    have hdr : es.drop i = es[i] :: es.drop (i + 1) := (List.drop_eq_getElem_cons hi1)
    cases hei : es[i] with
    | none =>
      rw [show (none : En).isSome = false from rfl]
      rw [hdr, hei] at he
      (refine r_nil ?_; refine x_seq (x_region ?_); refine r_op (o_move rfl rfl ?_); refine r_op (o_nilCheck rfl rfl ?_); refine r_op (o_fieldAddr rfl rfl ?_); refine r_op (o_load rfl rfl rfl rfl ?_); refine r_op (o_lenS rfl rfl ?_); refine r_op (o_assign rfl rfl ?_); refine r_nil ?_; refine x_seq ?_; refine x_seq (x_region ?_); refine r_op (o_fieldAddr rfl rfl ?_); refine r_op (o_load rfl rfl rfl rfl ?_); refine r_nil ?_; refine x_false rfl ?_; refine x_skip ?_; refine x_seq ?_; refine x_seq (x_region ?_); refine r_op (o_fieldAddr rfl rfl ?_); refine r_op (o_load rfl rfl rfl rfl ?_); refine r_op (o_not rfl rfl ?_); refine r_op (o_move rfl rfl ?_); refine r_skip rfl rfl rfl ?_; refine r_skip rfl rfl rfl ?_; refine r_skip rfl rfl rfl ?_; refine r_op (o_pick_t rfl rfl rfl ?_); refine r_nil ?_; refine x_true rfl ?_; refine x_exit rfl ?_; refine x_region ?_; refine r_op (o_add rfl rfl (add_i64 (by omega)) rfl ?_); refine r_op (o_move rfl rfl ?_); refine r_nil ?_)
      refine x_mem (Γ' := ShelfI ps b { s with es := acc } :: DiskI b d' :: A :: Γ) ((Sub.h (Δ := Row ps 0 (shRow b s.f s.n (Value.slice a2 acc.length c2) s.failed) :: Sl 2 a2 acc.length c2 (List.flatMap enV acc) :: DiskI b d' :: A :: Γ)).trans (Ent.shelf { s with es := acc } _)) ?_
      refine x_weak (back (d', i + 1, acc) ⟨by dsimp only; omega, by dsimp only; omega, hok'.mono (by dsimp only; omega), by dsimp only; rw [he]; simp only [movedP]⟩ (by dsimp only; omega)) (by (repeat' (first | exact trivial | refine ⟨rfl, ?_⟩))) Sub.h
    | some t =>
      rw [show (some t : En).isSome = true from rfl]
      rw [hdr, hei] at he
      have htl := ht t (by rw [← hei]; exact List.getElem_mem _)
      (refine r_nil ?_; refine x_seq (x_region ?_); refine r_op (o_move rfl rfl ?_); refine r_op (o_nilCheck rfl rfl ?_); refine r_op (o_fieldAddr rfl rfl ?_); refine r_op (o_load rfl rfl rfl rfl ?_); refine r_op (o_lenS rfl rfl ?_); refine r_op (o_assign rfl rfl ?_); refine r_nil ?_; refine x_seq ?_; refine x_seq (x_region ?_); refine r_op (o_fieldAddr rfl rfl ?_); refine r_op (o_load rfl rfl rfl rfl ?_); refine r_nil ?_; refine x_true rfl ?_)
      refine x_script 10 [(0,false),(1,false),(2,false),(3,false),(4,false),(5,false),(8,false),(9,false),(6,true),(7,true),(10,true)] [Row ps 0 (shRow b s.f s.n (Value.slice a2 acc.length c2) s.failed), Row px 0 [Value.bool true, Value.string (bstr (Tx.of (some t)))]] mixed (by kernel_rfl) permF ?_
      (refine s_v rfl (v_move rfl) ?_; refine s_v rfl (v_move rfl) ?_; refine s_v rfl (v_nilCheck rfl) ?_; refine s_v rfl (v_fieldAddr rfl) ?_; refine s_v rfl (v_load rfl rfl rfl) ?_)
      refine s_v rfl (v_loadA (us := [.bool true, .string (bstr t)]) rfl rfl rfl rfl) ?_
      (refine s_v rfl (v_nilCheck rfl) ?_; refine s_v rfl (v_fieldAddr rfl) ?_)
      refine s_x rfl (o_buildSlice rfl (by rfl) (by rfl) (by rfl) (by rfl) rfl (fun a4 => ?_))
      refine ⟨permF, ?_⟩
      refine s_x rfl (o_appendT rfl rfl (by rfl) (by rfl) (by rfl) (by omega) rfl (fun a3 c3 hc => ?_))
      refine ⟨permF, ?_⟩
      refine s_xt rfl rfl ?_
      refine o_store rfl rfl rfl rfl (show 3 < 5 by decide) ?_
      refine s_end rfl ?_
      refine x_mem (Γ' := Row ps 0 (shRow b s.f s.n (Value.slice a3 (acc.length + 1) c3) s.failed) :: Sl 2 a3 (acc.length + 1) c3 (acc.flatMap enV ++ enV (some t)) :: Row px 0 [Value.bool true, Value.string (bstr t)] :: DiskI b d' :: A :: Γ) ?_ ?_
      · show Ent (Sl 2 a3 (acc.length + 1) c3 (List.flatMap enV acc ++ enV (some t)) :: Row px 0 [Value.bool true, Value.string (bstr t)] :: Row ps 0 (shRow b s.f s.n (Value.slice a3 (acc.length + 1) c3) s.failed) :: _) _
        exact Sub.h
      have hel : (acc ++ [some t]).length = acc.length + 1 := by simp
      have hef : (acc ++ [some t]).flatMap enV = acc.flatMap enV ++ enV (some t) := by simp
      have hback : ∀ Γ', Ent (Row ps 0 (shRow b s.f s.n (Value.slice a3 (acc.length + 1) c3) s.failed) :: Sl 2 a3 (acc.length + 1) c3 (acc.flatMap enV ++ enV (some t)) :: Γ') (ShelfI ps b { s with es := acc ++ [some t] } :: Γ') := fun Γ' => by
        have := Ent.shelf (ps := ps) (b := b) { s with es := acc ++ [some t] } (a := a3) (c := c3) Γ'
        dsimp only at this
        rwa [hel, hef] at this
      by_cases hai : acc.length = i
      · rw [movedP_some, if_pos hai] at he
        (refine x_seq ?_; refine x_seq (x_region ?_); refine r_op (o_fieldAddr rfl rfl ?_); refine r_op (o_load rfl rfl rfl rfl ?_); refine r_op (o_not rfl rfl ?_); refine r_op (o_move rfl rfl ?_); refine r_guard rfl (o_move rfl rfl ?_); refine r_guard rfl (o_move rfl rfl ?_); refine r_guard rfl (o_eql_t rfl rfl (by omega) rfl ?_); refine r_op (o_pick_f rfl rfl rfl ?_); refine r_nil ?_; refine x_true rfl ?_; refine x_exit rfl ?_; refine x_region ?_; refine r_op (o_add rfl rfl (add_i64 (by omega)) rfl ?_); refine r_op (o_move rfl rfl ?_); refine r_nil ?_)
        refine x_mem ((hback _).trans (Sub.h (Δ := ShelfI ps b { s with es := acc ++ [some t] } :: DiskI b d' :: A :: Γ))) ?_
        refine x_weak (back (d', i + 1, acc ++ [some t]) ⟨by dsimp only; omega, by dsimp only; omega, hok'.mono (by dsimp only; omega), he⟩ (by dsimp only; omega)) (by (repeat' (first | exact trivial | refine ⟨rfl, ?_⟩))) Sub.h
      · rw [movedP_some, if_neg hai] at he
        (refine x_seq ?_; refine x_seq (x_region ?_); refine r_op (o_fieldAddr rfl rfl ?_); refine r_op (o_load rfl rfl rfl rfl ?_); refine r_op (o_not rfl rfl ?_); refine r_op (o_move rfl rfl ?_); refine r_guard rfl (o_move rfl rfl ?_); refine r_guard rfl (o_move rfl rfl ?_); refine r_guard rfl (o_eql_f rfl rfl (by omega) rfl ?_); refine r_op (o_pick_f rfl rfl rfl ?_); refine r_nil ?_; refine x_false rfl ?_; refine x_skip ?_; refine x_seq ?_; refine x_seq (x_region ?_); refine r_op (o_move rfl rfl ?_); refine r_op (o_move rfl rfl ?_); refine r_op (o_fieldAddr rfl rfl ?_); refine r_op (o_load rfl rfl rfl rfl ?_))
        (refine r_op ?_)
        refine o_call rfl (lay_spec ps b s.f s.n (.slice a3 (acc.length + 1) c3) s.failed d' acc.length t hok' (by omega) hn.2 (by omega) htl) rfl ?_
        rintro v B ⟨rfl, rfl⟩
        (simp only [List.cons_append, List.nil_append])
        have hk1 := okn_layS hok' s.f s.n acc.length t
        obtain ⟨d1, e1, hd1⟩ : ∃ x y, layS d' s.f s.n acc.length t = (x, y) := ⟨_, _, rfl⟩
        rw [hd1] at hk1 he ⊢
        dsimp only at hk1 he ⊢
        by_cases h1 : e1 = 0
        · subst h1
          rw [if_neg (by simp)] at he
          (refine r_op (o_assign rfl rfl ?_); refine r_nil ?_; refine x_seq (x_region ?_); refine r_op (o_move rfl rfl ?_); refine r_op (o_neq_f rfl rfl (by omega) rfl ?_); refine r_nil ?_; refine x_false rfl ?_; refine x_skip ?_; refine x_seq (x_region ?_); refine r_op (o_move rfl rfl ?_); refine r_op (o_move rfl rfl ?_))
          (refine r_op ?_)
          refine o_call rfl (mark_spec ps b s.f s.n (.slice a3 (acc.length + 1) c3) s.failed d1 i 0 hk1 (by omega) hn.2 (by omega)) rfl ?_
          rintro v B ⟨rfl, rfl⟩
          (simp only [List.cons_append, List.nil_append])
          have hk2 := okn_mark hk1 s.f s.n i 0
          obtain ⟨d2, e2, hd2⟩ : ∃ d' e', mark d1 s.f s.n i 0 = (d', e') := ⟨_, _, rfl⟩
          rw [hd2] at hk2 he ⊢
          dsimp only at hk2 he ⊢
          by_cases h2 : e2 = 0
          · subst h2
            rw [if_neg (by simp)] at he
            (refine r_op (o_assign rfl rfl ?_); refine r_nil ?_; refine x_seq (x_region ?_); refine r_op (o_move rfl rfl ?_); refine r_op (o_neq_f rfl rfl (by omega) rfl ?_); refine r_nil ?_; refine x_false rfl ?_; refine x_skip ?_; refine x_inBlock ?_; refine x_region ?_; refine r_op (o_add rfl rfl (add_i64 (by omega)) rfl ?_); refine r_op (o_move rfl rfl ?_); refine r_nil ?_)
            refine x_mem ((Sub.h (Δ := Row ps 0 (shRow b s.f s.n (Value.slice a3 (acc.length + 1) c3) s.failed) :: Sl 2 a3 (acc.length + 1) c3 (acc.flatMap enV ++ enV (some t)) :: DiskI b d2 :: A :: Γ)).trans (hback _)) ?_
            refine x_weak (back (d2, i + 1, acc ++ [some t]) ⟨by dsimp only; omega, by dsimp only; omega, hk2.mono (by dsimp only; omega), he⟩ (by dsimp only; omega)) (by (repeat' (first | exact trivial | refine ⟨rfl, ?_⟩))) Sub.h
          · rw [if_pos h2] at he
            (refine r_op (o_assign rfl rfl ?_); refine r_nil ?_; refine x_seq (x_region ?_); refine r_op (o_move rfl rfl ?_); refine r_op (o_neq_t rfl rfl (by omega) rfl ?_); refine r_nil ?_; refine x_true rfl ?_; refine x_seq (x_region ?_); refine r_op (o_move rfl rfl ?_); refine r_op (o_assign rfl rfl ?_); refine r_nil ?_)
            exact x_ret rfl [ShelfI ps b { s with es := (movedP s.f s.n d 0 es []).2.1 }, DiskI b (movedP s.f s.n d 0 es []).1, A] ⟨by rw [he]; rfl, rfl⟩ (by rw [he]; exact (Sub.h (Δ := Row ps 0 (shRow b s.f s.n (Value.slice a3 (acc.length + 1) c3) s.failed) :: Sl 2 a3 (acc.length + 1) c3 (acc.flatMap enV ++ enV (some t)) :: DiskI b d2 :: A :: Γ)).trans ((hback _).trans Sub.h))
        · rw [if_pos h1] at he
          (refine r_op (o_assign rfl rfl ?_); refine r_nil ?_; refine x_seq (x_region ?_); refine r_op (o_move rfl rfl ?_); refine r_op (o_neq_t rfl rfl (by omega) rfl ?_); refine r_nil ?_; refine x_true rfl ?_; refine x_seq (x_region ?_); refine r_op (o_move rfl rfl ?_); refine r_op (o_assign rfl rfl ?_); refine r_nil ?_)
          exact x_ret rfl [ShelfI ps b { s with es := (movedP s.f s.n d 0 es []).2.1 }, DiskI b (movedP s.f s.n d 0 es []).1, A] ⟨by rw [he]; rfl, rfl⟩ (by rw [he]; exact (Sub.h (Δ := Row ps 0 (shRow b s.f s.n (Value.slice a3 (acc.length + 1) c3) s.failed) :: Sl 2 a3 (acc.length + 1) c3 (acc.flatMap enV ++ enV (some t)) :: DiskI b d1 :: A :: Γ)).trans ((hback _).trans Sub.h))
  · have e : i = es.length := by omega
    subst e
    rw [List.drop_length, show movedP s.f s.n d' es.length [] acc = (d', acc, 0) by simp [movedP]] at he
    (refine r_nil ?_; refine x_seq ?_; refine x_false rfl ?_; refine x_exit rfl ?_; refine x_seq (x_region ?_); refine r_op (o_assign rfl rfl ?_); refine r_nil ?_)
    exact x_ret rfl [ShelfI ps b { s with es := (movedP s.f s.n d 0 es []).2.1 }, DiskI b (movedP s.f s.n d 0 es []).1, A] ⟨by rw [he]; rfl, rfl⟩ (by rw [he]; exact Sub.h)
end Go.Proofs.Ythneebbmodkjiaa

namespace Go.Proofs.Ythneebbmodkjiaa
open Go.Proofs

/-! ### Opening -/
theorem parse_len {n : Nat} {b : List UInt8} {l : List En} (_hn : 0 < n) (h : parse n b = some l) : l.length = nSl n b.length ∧ l.length ≤ 128 := by
  have e := mapM_len _ h
  rw [List.length_range] at e
  refine ⟨e, Nat.le_of_not_lt fun hl => ?_⟩
  have : parse n b = none := mapM_none _ _ 128 (by simp; omega) (by unfold pz; rw [if_pos (Nat.le_refl _)])
  rw [this] at h; cases h
theorem mapM_mem {α β : Type} (g : α → Option β) : ∀ (l : List α) (ys : List β), l.mapM g = some ys → ∀ y ∈ ys, ∃ x ∈ l, g x = some y := by
  intro l
  induction l with
  | nil => intro ys h y hy; simp at h; subst h; cases hy
  | cons x l ih =>
    intro ys h y hy
    rw [List.mapM_cons] at h
    cases hg : g x with
    | none => simp [hg] at h
    | some z =>
      cases hm : l.mapM g with
      | none => simp [hg, hm] at h
      | some zs =>
        simp [hg, hm] at h
        subst h
        rcases List.mem_cons.1 hy with rfl | hy
        · exact ⟨x, by simp, hg⟩
        · obtain ⟨x', hx', h'⟩ := ih zs hm y hy
          exact ⟨x', by simp [hx'], h'⟩
theorem parse1_txt {n : Nat} {x : List UInt8} {t : Tx} (h : parse1 n x = some (some t)) : t.length + 16 ≤ n := by
  unfold parse1 at h
  split at h
  · cases h
  · split at h
    · cases h
    · split at h
      · cases h
      · simp at h; subst h; simp; omega
theorem parse_txt {n : Nat} {b : List UInt8} {l : List En} (h : parse n b = some l) : ∀ t, some t ∈ l → t.length + 16 ≤ n := by
  intro t ht
  obtain ⟨i, _, hi⟩ := mapM_mem _ _ _ h _ ht
  unfold pz at hi
  split at hi
  · cases hi
  · exact parse1_txt hi
theorem movedP_len (f n : Nat) : ∀ (r : List En) (d : Dk) (i : Nat) (acc : List En), (movedP f n d i r acc).2.1.length ≤ acc.length + r.length
  | [], d, i, acc => by simp [movedP]
  | none :: r, d, i, acc => by
    have := movedP_len f n r d (i + 1) acc
    rw [movedP]; simp; omega
  | some t :: r, d, i, acc => by
    rw [movedP]
    split
    · have := movedP_len f n r d (i + 1) (acc ++ [some t])
      simp at this ⊢; omega
    · split
      · simp
      · split
        · simp
        · have := movedP_len f n r (mark (layS d f n acc.length t).1 f n i 0).1 (i + 1) (acc ++ [some t])
          simp at this ⊢; omega
def cutTo (d : Dk) (f : Int) (c : Nat) : Dk × Int := if c < (d.file f).now.length then d.cut f c else (d, 0)
def openS (d : Dk) (f n : Nat) (l : List En) : Dk × Option Sh × Int :=
  let m := movedP f n d 0 l []
  if m.2.2 ≠ 0 then (m.1, none, m.2.2)
  else
    if m.2.1.length * n < (d.file f).now.length then
      let q := m.1.cut f ((m.2.1.length * n : Nat) : Int)
      if q.2 ≠ 0 then (q.1, none, q.2)
      else if (q.1.sync f).2 ≠ 0 then ((q.1.sync f).1, none, (q.1.sync f).2)
      else ((q.1.sync f).1, some ⟨f, n, m.2.1, false⟩, 0)
    else (m.1, some ⟨f, n, m.2.1, false⟩, 0)
def openD (d : Dk) (f n : Int) : Dk × Option Sh × Int :=
  if f < 0 ∨ 8 ≤ f ∨ fitsB n = false then (d, none, 1)
  else if d.asks f ≠ 0 then (d, none, d.asks f)
  else match parse n.toNat (d.file f).now with
    | none => (d, none, 1)
    | some l => openS d f.toNat n.toNat l
def OpenR (b : Nat) (r : Dk × Option Sh × Int) (v : Value) (B : List HP) : Prop :=
  match r.2.1 with
  | none => v = .tuple #[.pointer none, .int .i64 r.2.2] ∧ B = [DiskI b r.1]
  | some s => ∃ ps, v = .tuple #[dp ps, .int .i64 r.2.2] ∧ B = [ShelfI ps b s, DiskI b r.1]
theorem fits_in {n : Int} (h : fitsB n = true) : 16 ≤ n ∧ n ≤ 2 ^ 20 := by
  unfold fitsB at h
  simp only [Bool.or_eq_true, beq_iff_eq] at h
  omega
set_option maxHeartbeats 3200000 in
theorem open_spec {N : Nat} (b : Nat) (d : Dk) (f n : Int) (hok : d.okn N) (hN : N + 900 ≤ 2 ^ 20) :
    Spec Try.prog 62 [dp b, .int .i64 f, .int .i64 n] [DiskI b d] (OpenR b (openD d f n)) := by
  refine Spec.of_ex Try.func62 rfl Try.ntmps62 rfl fun E cs Γ => ?_
  (simp only [argRho, Nat.reduceAdd, List.cons_append, List.nil_append])
  have hsm := hok.small (by omega)
  have hbad : f < 0 ∨ 8 ≤ f ∨ fitsB n = false → OpenR b (openD d f n) (retV [.pointer none, .int .i64 1]) [DiskI b d] := fun h => by
    unfold openD; rw [if_pos h]; exact ⟨rfl, rfl⟩
  (refine x_seq (x_region ?_); refine r_op (o_assign rfl rfl ?_); refine r_op (o_assign rfl rfl ?_); refine r_nil ?_; refine x_seq ?_; refine x_seq (x_region ?_); refine r_op (o_move rfl rfl ?_))
  (refine r_op ?_)
  refine o_peq (.inl rfl) rfl rfl (.inr rfl) rfl ?_
  by_cases h1 : f < 0
  · (refine r_op (o_move rfl rfl ?_); refine r_guard rfl (o_move rfl rfl ?_); refine r_guard rfl (o_lss_t rfl rfl (by omega) rfl ?_); refine r_op (o_pick_f rfl rfl rfl ?_); refine r_op (o_move rfl rfl ?_); refine r_skip rfl rfl rfl ?_; refine r_skip rfl rfl rfl ?_; refine r_op (o_pick_t rfl rfl rfl ?_); refine r_op (o_move rfl rfl ?_); refine r_skip rfl rfl rfl ?_; refine r_skip rfl rfl rfl ?_; refine r_skip rfl rfl rfl ?_; refine r_op (o_pick_t rfl rfl rfl ?_); refine r_nil ?_; refine x_true rfl ?_; refine x_seq (x_region ?_); refine r_op (o_assign rfl rfl ?_); refine r_op (o_assign rfl rfl ?_); refine r_nil ?_)
    exact x_ret rfl [DiskI b d] (hbad (.inl h1)) Sub.h
  by_cases h2 : 8 ≤ f
  · (refine r_op (o_move rfl rfl ?_); refine r_guard rfl (o_move rfl rfl ?_); refine r_guard rfl (o_lss_f rfl rfl (by omega) rfl ?_); refine r_op (o_pick_f rfl rfl rfl ?_); refine r_op (o_move rfl rfl ?_); refine r_guard rfl (o_move rfl rfl ?_); refine r_guard rfl (o_geq_t rfl rfl (by omega) rfl ?_); refine r_op (o_pick_f rfl rfl rfl ?_); refine r_op (o_move rfl rfl ?_); refine r_skip rfl rfl rfl ?_; refine r_skip rfl rfl rfl ?_; refine r_skip rfl rfl rfl ?_; refine r_op (o_pick_t rfl rfl rfl ?_); refine r_nil ?_; refine x_true rfl ?_; refine x_seq (x_region ?_); refine r_op (o_assign rfl rfl ?_); refine r_op (o_assign rfl rfl ?_); refine r_nil ?_)
    exact x_ret rfl [DiskI b d] (hbad (.inr (.inl h2))) Sub.h
  (refine r_op (o_move rfl rfl ?_); refine r_guard rfl (o_move rfl rfl ?_); refine r_guard rfl (o_lss_f rfl rfl (by omega) rfl ?_); refine r_op (o_pick_f rfl rfl rfl ?_); refine r_op (o_move rfl rfl ?_); refine r_guard rfl (o_move rfl rfl ?_); refine r_guard rfl (o_geq_f rfl rfl (by omega) rfl ?_); refine r_op (o_pick_f rfl rfl rfl ?_); refine r_op (o_move rfl rfl ?_); refine r_guard rfl (o_move rfl rfl ?_))
  (refine r_guard rfl ?_)
  refine o_call rfl (fits_spec n) rfl ?_
  rintro v B ⟨rfl, rfl⟩
  (simp only [List.nil_append])
  cases h3 : fitsB n
  · (refine r_guard rfl (o_not rfl rfl ?_); refine r_op (o_pick_f rfl rfl rfl ?_); refine r_nil ?_; refine x_true rfl ?_; refine x_seq (x_region ?_); refine r_op (o_assign rfl rfl ?_); refine r_op (o_assign rfl rfl ?_); refine r_nil ?_)
    exact x_ret rfl [DiskI b d] (hbad (.inr (.inr h3))) Sub.h
  have hn := fits_in h3
  obtain ⟨n, rfl⟩ : ∃ i : Nat, n = i := ⟨n.toNat, by omega⟩
  obtain ⟨f, rfl⟩ : ∃ i : Nat, f = i := ⟨f.toNat, by omega⟩
  have ho1 : openD d f n = if d.asks f ≠ 0 then (d, none, d.asks f) else match parse n (d.file f).now with
    | none => (d, none, 1)
    | some l => openS d f n l := by
    unfold openD; rw [if_neg (by rw [h3]; simp; omega)]; rfl
  (refine r_guard rfl (o_not rfl rfl ?_); refine r_op (o_pick_f rfl rfl rfl ?_); refine r_nil ?_; refine x_false rfl ?_; refine x_skip ?_; refine x_seq (x_region ?_); refine r_op (o_move rfl rfl ?_); refine r_op (o_move rfl rfl ?_))
  (refine r_op ?_)
  refine o_call rfl (size_spec b d f) rfl ?_
  rintro v B ⟨rfl, rfl⟩
  (simp only [List.cons_append, List.nil_append])
  by_cases h4 : d.asks f = 0
  · rw [if_neg (by simpa using h4)] at ho1
    have es1 : d.size f = (((d.file f).now.length : Int), 0) := by unfold Dk.size; rw [if_pos h4]
    rw [es1]
    obtain ⟨z, hz⟩ : ∃ z, (d.file f).now = z := ⟨_, rfl⟩
    rw [hz] at ho1 ⊢
    have hzl : z.length ≤ 2 ^ 40 := by
      have hm : d.file f ∈ d.fs := by
        unfold Dk.file
        rw [List.getD_eq_getElem?_getD, List.getElem?_eq_getElem (by rw [hok.1]; omega)]
        exact List.getElem_mem _
      rw [← hz]
      exact (hsm _ hm).1
    have er : d.read f 0 z.length = (z, 0) := by
      unfold Dk.read
      rw [if_neg (by simpa using h4), hz, if_neg (by omega)]
      simp
    (refine r_op (o_move rfl rfl ?_); refine r_op (o_extract rfl rfl rfl ?_); refine r_op (o_extract rfl rfl rfl ?_); refine r_op (o_assign rfl rfl ?_); refine r_op (o_assign rfl rfl ?_); refine r_nil ?_; refine x_seq ?_; refine x_seq (x_region ?_); refine r_op (o_move rfl rfl ?_); refine r_op (o_neq_f rfl rfl (by omega) rfl ?_); refine r_nil ?_; refine x_false rfl ?_; refine x_skip ?_; refine x_seq (x_region ?_); refine r_op (o_move rfl rfl ?_); refine r_op (o_move rfl rfl ?_); refine r_op (o_move rfl rfl ?_))
    (refine r_op ?_)
    refine o_call rfl (read_spec b d f 0 z.length (fun x hx => by have := (hsm x hx).1; omega)) rfl ?_
    rw [er]
    rintro v B ⟨a, c, rfl, rfl⟩
    (simp only [List.cons_append, List.nil_append])
    refine r_sl a fun _ hac => ?_
    have R := Sl.reads 1 a z.length c (z.map bv) (by simp)
    (refine r_op (o_move rfl rfl ?_); refine r_op (o_extract rfl rfl rfl ?_); refine r_op (o_extract rfl rfl rfl ?_); refine r_op (o_assign rfl rfl ?_); refine r_op (o_assign rfl rfl ?_); refine r_nil ?_; refine x_seq ?_; refine x_seq (x_region ?_); refine r_op (o_move rfl rfl ?_); refine r_op (o_neq_f rfl rfl (by omega) rfl ?_); refine r_nil ?_; refine x_false rfl ?_; refine x_skip ?_; refine x_seq (x_region ?_); refine r_op (o_move rfl rfl ?_); refine r_op (o_move rfl rfl ?_))
    (refine r_op ?_)
    refine o_call rfl (found_spec R hac hzl (by omega)) rfl ?_
    rintro v B (⟨l, a', c', hp, rfl, rfl⟩ | ⟨hp, rfl, rfl⟩)
    · (simp only [List.cons_append, List.nil_append])
      rw [hp] at ho1
      dsimp only at ho1
      have hpl := parse_len (by omega) hp
      refine r_sl a' fun _ hac' => ?_
      (refine r_op (o_move rfl rfl ?_); refine r_op (o_extract rfl rfl rfl ?_); refine r_op (o_extract rfl rfl rfl ?_); refine r_op (o_assign rfl rfl ?_); refine r_op (o_assign rfl rfl ?_); refine r_nil ?_; refine x_seq ?_; refine x_seq (x_region ?_); refine r_op (o_move rfl rfl ?_); refine r_op (o_not rfl rfl ?_); refine r_nil ?_; refine x_false rfl ?_; refine x_skip ?_; refine x_seq (x_region ?_); refine r_op (o_move rfl rfl ?_); refine r_op (o_move rfl rfl ?_); refine r_op (o_move rfl rfl ?_))
      (refine r_op ?_)
      refine o_build rfl (by rfl) rfl ?_
      (refine r_op ?_)
      refine o_boxA (vs := shRow b f n (.slice none 0 0) false) rfl rfl (fun ps => ?_)
      (refine r_op (o_assign rfl rfl ?_); refine r_nil ?_; refine x_seq ?_; refine x_seq (x_region ?_); refine r_op (o_move rfl rfl ?_); refine r_op (o_move rfl rfl ?_))
      refine r_mem (Γ' := ShelfI ps b ⟨f, n, [], false⟩ :: DiskI b d :: Sl 2 a' l.length c' (l.flatMap enV) :: Γ) ?_ ?_
      · refine (Ent.nilSl 2 _).trans ?_
        refine (Sub.h (Δ := Row ps 0 (shRow b f n (.slice none 0 0) false) :: Sl 2 none 0 0 [] :: DiskI b d :: Sl 2 a' l.length c' (l.flatMap enV) :: Γ)).trans ?_
        exact Ent.shelf ⟨f, n, [], false⟩ _
      (refine r_op ?_)
      refine o_call rfl (moved_spec ps b ⟨f, n, [], false⟩ d l a' c' (Sl.reads 2 a' l.length c' _ (flen enV_cl l)) rfl hok hpl.2 (by omega) (by dsimp only; omega) hac' (parse_txt hp)) rfl ?_
      rintro v B ⟨rfl, rfl⟩
      (simp only [List.cons_append, List.nil_append])
      have hk1 := okn_movedP f n l d 0 [] N hok
      unfold openS at ho1
      dsimp only at ho1 ⊢
      obtain ⟨d1, m1, e1, hm1⟩ : ∃ x y z, movedP f n d 0 l [] = (x, y, z) := ⟨_, _, _, rfl⟩
      rw [hm1] at ho1 hk1 ⊢
      dsimp only at ho1 hk1 ⊢
      have hm1l := movedP_len f n l d 0 []
      rw [hm1] at hm1l
      simp only [List.length_nil, Nat.zero_add] at hm1l
      by_cases h5 : e1 = 0
      · subst h5
        rw [if_neg (by simp), hz] at ho1
        (refine r_op (o_assign rfl rfl ?_); refine r_nil ?_; refine x_seq (x_region ?_); refine r_op (o_move rfl rfl ?_); refine r_op (o_neq_f rfl rfl (by omega) rfl ?_); refine r_nil ?_; refine x_false rfl ?_; refine x_skip ?_; refine x_seq ?_; refine x_seq (x_region ?_); refine r_op (o_move rfl rfl ?_); refine r_op (o_nilCheck rfl rfl ?_); refine r_op (o_fieldAddr rfl rfl ?_))
        refine r_open (fun E w st => st.shelf) fun ⟨a2, c2⟩ => ?_
        dsimp only
        have hback : ∀ Γ', Ent (Row ps 0 (shRow b f n (Value.slice a2 m1.length c2) false) :: Sl 2 a2 m1.length c2 (m1.flatMap enV) :: Γ') (ShelfI ps b ⟨f, n, m1, false⟩ :: Γ') := fun Γ' => Ent.shelf (ps := ps) (b := b) ⟨f, n, m1, false⟩ (a := a2) (c := c2) Γ'
        have hmul := mul_le (show m1.length ≤ 2 ^ 10 by omega) (show n ≤ 2 ^ 20 by omega)
        (refine r_op (o_load rfl rfl rfl rfl ?_); refine r_op (o_lenS rfl rfl ?_); refine r_op (o_move rfl rfl ?_); refine r_op (o_mul rfl rfl (in_i64 (by omega)) rfl ?_); refine r_op (o_assign rfl rfl ?_); refine r_nil ?_; refine x_seq (x_region ?_); refine r_op (o_move rfl rfl ?_); refine r_op (o_move rfl rfl ?_))
        rw [← Int.natCast_mul]
        obtain ⟨mn, hmn⟩ : ∃ mn, m1.length * n = mn := ⟨_, rfl⟩
        rw [hmn] at ho1 hmul ⊢
        (refine r_op ?_)
        refine o_lss rfl rfl rfl (fun h6 => ?_) (fun h6 => ?_)
        · rw [if_pos (show mn < z.length by omega)] at ho1
          have hk2 := okn_cut hk1 f (mn : Int)
          (refine r_nil ?_; refine x_true rfl ?_; refine x_seq ?_; refine x_seq (x_region ?_); refine r_op (o_move rfl rfl ?_); refine r_op (o_move rfl rfl ?_); refine r_op (o_move rfl rfl ?_))
          (refine r_op ?_)
          refine o_call rfl (cut_spec b d1 f mn (hk1.small (by omega))) rfl ?_
          rintro v B ⟨rfl, rfl⟩
          (simp only [List.cons_append, List.nil_append])
          obtain ⟨d2, e2, hd2⟩ : ∃ x y, d1.cut f mn = (x, y) := ⟨_, _, rfl⟩
          rw [hd2] at ho1 hk2 ⊢
          dsimp only at ho1 hk2 ⊢
          by_cases h7 : e2 = 0
          · subst h7
            rw [if_neg (by simp)] at ho1
            have hk3 := okn_sync hk2 f
            (refine r_op (o_assign rfl rfl ?_); refine r_nil ?_; refine x_seq (x_region ?_); refine r_op (o_move rfl rfl ?_); refine r_op (o_neq_f rfl rfl (by omega) rfl ?_); refine r_nil ?_; refine x_false rfl ?_; refine x_skip ?_; refine x_seq (x_region ?_); refine r_op (o_move rfl rfl ?_); refine r_op (o_move rfl rfl ?_))
            (refine r_op ?_)
            refine o_call rfl (sync_spec b d2 f (hk2.small (by omega))) rfl ?_
            rintro v B ⟨rfl, rfl⟩
            (simp only [List.cons_append, List.nil_append])
            obtain ⟨d3, e3, hd3⟩ : ∃ x y, d2.sync f = (x, y) := ⟨_, _, rfl⟩
            rw [hd3] at ho1 ⊢
            dsimp only at ho1 ⊢
            by_cases h8 : e3 = 0
            · subst h8
              rw [if_neg (by simp)] at ho1
              (refine r_op (o_assign rfl rfl ?_); refine r_nil ?_; refine x_seq (x_region ?_); refine r_op (o_move rfl rfl ?_); refine r_op (o_neq_f rfl rfl (by omega) rfl ?_); refine r_nil ?_; refine x_false rfl ?_; refine x_skip ?_; refine x_seq (x_region ?_); refine r_op (o_move rfl rfl ?_); refine r_op (o_assign rfl rfl ?_); refine r_op (o_assign rfl rfl ?_); refine r_nil ?_)
              exact x_ret rfl [ShelfI ps b ⟨f, n, m1, false⟩, DiskI b d3] (by rw [ho1]; exact ⟨ps, rfl, rfl⟩) ((Sub.h (Δ := Row ps 0 (shRow b f n (Value.slice a2 m1.length c2) false) :: Sl 2 a2 m1.length c2 (m1.flatMap enV) :: DiskI b d3 :: Γ)).trans ((hback _).trans Sub.h))
            · rw [if_pos h8] at ho1
              (refine r_op (o_assign rfl rfl ?_); refine r_nil ?_; refine x_seq (x_region ?_); refine r_op (o_move rfl rfl ?_); refine r_op (o_neq_t rfl rfl (by omega) rfl ?_); refine r_nil ?_; refine x_true rfl ?_; refine x_seq (x_region ?_); refine r_op (o_move rfl rfl ?_); refine r_op (o_assign rfl rfl ?_); refine r_op (o_assign rfl rfl ?_); refine r_nil ?_)
              exact x_ret rfl [DiskI b d3] (by rw [ho1]; exact ⟨rfl, rfl⟩) Sub.h
          · rw [if_pos h7] at ho1
            (refine r_op (o_assign rfl rfl ?_); refine r_nil ?_; refine x_seq (x_region ?_); refine r_op (o_move rfl rfl ?_); refine r_op (o_neq_t rfl rfl (by omega) rfl ?_); refine r_nil ?_; refine x_true rfl ?_; refine x_seq (x_region ?_); refine r_op (o_move rfl rfl ?_); refine r_op (o_assign rfl rfl ?_); refine r_op (o_assign rfl rfl ?_); refine r_nil ?_)
            exact x_ret rfl [DiskI b d2] (by rw [ho1]; exact ⟨rfl, rfl⟩) Sub.h
        · rw [if_neg (show ¬ mn < z.length by omega)] at ho1
          (refine r_nil ?_; refine x_false rfl ?_; refine x_skip ?_; refine x_seq (x_region ?_); refine r_op (o_move rfl rfl ?_); refine r_op (o_assign rfl rfl ?_); refine r_op (o_assign rfl rfl ?_); refine r_nil ?_)
          exact x_ret rfl [ShelfI ps b ⟨f, n, m1, false⟩, DiskI b d1] (by rw [ho1]; exact ⟨ps, rfl, rfl⟩) ((hback _).trans Sub.h)
      · rw [if_pos h5] at ho1
        (refine r_op (o_assign rfl rfl ?_); refine r_nil ?_; refine x_seq (x_region ?_); refine r_op (o_move rfl rfl ?_); refine r_op (o_neq_t rfl rfl (by omega) rfl ?_); refine r_nil ?_; refine x_true rfl ?_; refine x_seq (x_region ?_); refine r_op (o_move rfl rfl ?_); refine r_op (o_assign rfl rfl ?_); refine r_op (o_assign rfl rfl ?_); refine r_nil ?_)
        exact x_ret rfl [DiskI b d1] (by rw [ho1]; exact ⟨rfl, rfl⟩) Sub.h
    · (simp only [List.cons_append, List.nil_append])
      rw [hp] at ho1
      dsimp only at ho1
      (refine r_op (o_move rfl rfl ?_); refine r_op (o_extract rfl rfl rfl ?_); refine r_op (o_extract rfl rfl rfl ?_); refine r_op (o_assign rfl rfl ?_); refine r_op (o_assign rfl rfl ?_); refine r_nil ?_; refine x_seq ?_; refine x_seq (x_region ?_); refine r_op (o_move rfl rfl ?_); refine r_op (o_not rfl rfl ?_); refine r_nil ?_; refine x_true rfl ?_; refine x_seq (x_region ?_); refine r_op (o_assign rfl rfl ?_); refine r_op (o_assign rfl rfl ?_); refine r_nil ?_)
      exact x_ret rfl [DiskI b d] (by rw [ho1]; exact ⟨rfl, rfl⟩) Sub.h
  · rw [if_pos h4] at ho1
    have es1 : d.size f = (0, d.asks f) := by unfold Dk.size; rw [if_neg h4]
    rw [es1]
    (refine r_op (o_move rfl rfl ?_); refine r_op (o_extract rfl rfl rfl ?_); refine r_op (o_extract rfl rfl rfl ?_); refine r_op (o_assign rfl rfl ?_); refine r_op (o_assign rfl rfl ?_); refine r_nil ?_; refine x_seq ?_; refine x_seq (x_region ?_); refine r_op (o_move rfl rfl ?_); refine r_op (o_neq_t rfl rfl (by omega) rfl ?_); refine r_nil ?_; refine x_true rfl ?_; refine x_seq (x_region ?_); refine r_op (o_move rfl rfl ?_); refine r_op (o_assign rfl rfl ?_); refine r_op (o_assign rfl rfl ?_); refine r_nil ?_)
    exact x_ret rfl [DiskI b d] (by rw [ho1]; exact ⟨rfl, rfl⟩) Sub.h
end Go.Proofs.Ythneebbmodkjiaa
