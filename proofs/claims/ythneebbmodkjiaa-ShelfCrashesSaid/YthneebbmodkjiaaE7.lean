/- Part of a proof over the seat Ythneebbmodkjiaa: module E7. Its claim's last module says what is proved. -/
import Derived.Test.YthneebbmodkjiaaE6
namespace Go.Proofs.Ythneebbmodkjiaa
open Go.Proofs

/-! ### What lies in a file -/
def nSl (n len : Nat) : Nat := (len + n - 1) / n
theorem nSl_iff {n len i : Nat} (hn : 0 < n) : i < nSl n len ↔ i * n < len := by
  unfold nSl
  rw [Nat.lt_iff_add_one_le, Nat.le_div_iff_mul_le hn, Nat.add_mul, Nat.one_mul]
  omega
def lieV (n len : Nat) (a : Option Addr) (c i : Nat) : List Value := [.int .i64 i, .slice (shA 1 a c (i * n)) (min len (i * n + n) - i * n) (c - i * n)]
theorem lies_spec (a : Option Addr) (len c : Nat) (n : Int) : Spec Try.prog 119 [.slice a len c, .int .i64 n] [] (fun v B => ∃ pn pb, v = .func (.func 122) #[] #[dp pn, dp pb] ∧ B = [Row pn 0 [.int .i64 n], Row pb 0 [.slice a len c]]) := by
  refine Spec.of_ex Try.func119 rfl Try.ntmps119 rfl fun E cs Γ => ?_
  (simp only [argRho, Nat.reduceAdd, List.nil_append])
  (refine x_seq ?_); (refine x_region ?_)
  (refine r_op ?_)
  refine o_box rfl rfl rfl (fun pb => ?_)
  (refine r_op ?_)
  refine o_box rfl rfl rfl (fun pn => ?_)
  (refine r_op (o_assign rfl rfl ?_); refine r_nil ?_; refine x_seq (x_region ?_))
  (refine r_op ?_)
  refine o_makeFunc rfl rfl rfl ?_
  (refine r_op (o_assign rfl rfl ?_); refine r_nil ?_)
  exact x_ret rfl [Row pn 0 [.int .i64 n], Row pb 0 [.slice a len c]] ⟨pn, pb, rfl, rfl⟩ Sub.h
theorem lies_iter (pn pb n : Nat) (a : Option Addr) (len c : Nat) (hn : 0 < n ∧ n ≤ 2 ^ 20) (hl : len ≤ 2 ^ 40) (hc : len ≤ c) :
    Iter Try.prog 122 [] [dp pn, dp pb] [Row pn 0 [.int .i64 n], Row pb 0 [.slice a len c]] [] ((List.range (nSl n len)).map (lieV n len a c)) := by
  intro l I J hy
  refine Spec.of_ex Try.func122 rfl Try.ntmps122 rfl fun E cs Γ => ?_
  (simp only [argRho, List.cons_append, List.nil_append])
  (refine x_seq (x_region ?_); refine r_op (o_assign rfl rfl ?_); refine r_nil ?_; refine x_block ?_)
  refine x_loop (α := Nat) (fun i => i ≤ nSl n len) (fun i => [(0, .func (.yield l) #[] #[]), (1, dp pn), (2, dp pb), (4, .int .i64 i)])
    (fun i => Row pn 0 [.int .i64 n] :: Row pb 0 [.slice a len c] :: I i :: Γ)
    (fun i => nSl n len - i) 0 (Nat.zero_le _) ⟨rfl, rfl, rfl, rfl, trivial⟩ Sub.h ?_
  intro i hi back
  have hin : i * n ≤ len + n := by
    cases i with
    | zero => omega
    | succ j =>
      have := (nSl_iff hn.1).1 (show j < nSl n len by omega)
      rw [Nat.add_mul]; omega
  have hib : i ≤ len + n := Nat.le_trans (Nat.le_mul_of_pos_right i hn.1) hin
  (refine x_seq ?_; refine x_seq (x_region ?_); refine r_op (o_move rfl rfl ?_); refine r_op (o_load rfl rfl rfl rfl ?_))
  (refine r_op ?_)
  refine o_mul rfl rfl (in_i64 (by rw [← Int.natCast_mul]; omega)) rfl ?_
  rw [← Int.natCast_mul]
  (refine r_op (o_load rfl rfl rfl rfl ?_); refine r_op (o_lenS rfl rfl ?_))
  (refine r_op ?_)
  refine o_lss rfl rfl rfl (fun h => ?_) (fun h => ?_)
  · have hi1 : i < nSl n len := (nSl_iff hn.1).2 (by omega)
    (refine r_nil ?_; refine x_true rfl ?_; refine x_skip ?_; refine x_seq ?_; refine x_block ?_; refine x_seq (x_region ?_); refine r_op (o_move rfl rfl ?_); refine r_op (o_move rfl rfl ?_); refine r_op (o_load rfl rfl rfl rfl ?_); refine r_op (o_move rfl rfl ?_); refine r_op (o_load rfl rfl rfl rfl ?_))
    (refine r_op ?_)
    refine o_mul rfl rfl (in_i64 (by rw [← Int.natCast_mul]; omega)) rfl ?_
    rw [← Int.natCast_mul]
    (refine r_op (o_load rfl rfl rfl rfl ?_); refine r_op (o_lenS rfl rfl ?_); refine r_op (o_move rfl rfl ?_); refine r_op (o_load rfl rfl rfl rfl ?_))
    (refine r_op ?_)
    refine o_mul rfl rfl (in_i64 (by rw [← Int.natCast_mul]; omega)) rfl ?_
    rw [← Int.natCast_mul]
    (refine r_op (o_load rfl rfl rfl rfl ?_); refine r_op (o_add rfl rfl (add_i64 (by omega)) rfl ?_); refine r_op (o_min rfl rfl rfl ?_))
    rw [show min (len : Int) (((i * n : Nat) : Int) + n) = ((min len (i * n + n) : Nat) : Int) by omega]
    (refine r_op ?_)
    refine o_slice rfl rfl rfl (jl := i * n) (jh := min len (i * n + n)) rfl rfl (by omega) (by omega) rfl ?_
    have hyi := hy i (lieV n len a c i) (by simp [hi1])
    (refine r_op ?_)
    refine o_yield rfl rfl hyi rfl ?_
    rintro y B (⟨rfl, rfl⟩ | ⟨rfl, rfl⟩)
    · (simp only [List.cons_append, List.nil_append])
      (refine r_op (o_not rfl rfl ?_); refine r_nil ?_; refine x_false rfl ?_; refine x_skip ?_; refine x_inBlock ?_; refine x_region ?_; refine r_op (o_move rfl rfl ?_); refine r_op (o_add rfl rfl (add_i64 (by omega)) rfl ?_); refine r_op (o_assign rfl rfl ?_); refine r_nil ?_)
      refine x_weak (back (i + 1) (by omega) (by omega)) (by (repeat' (first | exact trivial | refine ⟨rfl, ?_⟩))) Sub.h
    · (simp only [List.cons_append, List.nil_append])
      (refine r_op (o_not rfl rfl ?_); refine r_nil ?_; refine x_true rfl ?_)
      exact x_ret rfl ([] ++ [J (i + 1)]) (.inr ⟨_, rfl⟩) (by (simp only [List.nil_append]); exact Sub.h)
  · have hi1 : i = nSl n len := by
      apply Nat.le_antisymm hi
      apply Nat.le_of_not_lt
      intro h2
      exact h (by have := (nSl_iff hn.1).1 h2; omega)
    subst hi1
    (refine r_nil ?_; refine x_false rfl ?_; refine x_exit rfl ?_)
    exact x_end ([] ++ [I ((List.range (nSl n len)).map (lieV n len a c)).length]) (.inl rfl) (by
      rw [List.length_map, List.length_range]; (simp only [List.nil_append]); exact Sub.h)
end Go.Proofs.Ythneebbmodkjiaa
namespace Go.Proofs.Ythneebbmodkjiaa
open Go.Proofs
/-- The text's length that a slot tells. -/
def tl (x : List UInt8) : Nat := (x.getD 1 0).toNat * 256 + (x.getD 2 0).toNat
/-- One slot's entry; none: it is none. -/
def parse1 (n : Nat) (x : List UInt8) : Option En :=
  if x.getD 0 0 = 0 then some none else if x.getD 0 0 ≠ 1 ∨ x.length < n then none else if n < 16 + tl x then none else some (some ((x.drop 16).take (tl x)))
def slotOf (n : Nat) (b : List UInt8) (i : Nat) : List UInt8 := (b.drop (i * n)).take n
def pz (n : Nat) (b : List UInt8) (i : Nat) : Option En := if 128 ≤ i then none else parse1 n (slotOf n b i)
/-- All; none: there is none. -/
def parse (n : Nat) (b : List UInt8) : Option (List En) := (List.range (nSl n b.length)).mapM (pz n b)
instance : FunRetC Try.prog 107 [.cell 4 139, .cell 5 4] := ⟨_, Try.func107, rfl⟩
/-- Entries that are being gathered. -/
def FoI (p4 : Nat) (l : List En) : HP := Any fun q : Option Addr × Nat => Sep [Row p4 0 [.slice q.1 l.length q.2], Sl 2 q.1 l.length q.2 (l.flatMap enV)]
theorem St.foi {E : Env} {p4 : Nat} {l : List En} {Γ : List HP} {w : World} (st : St E (FoI p4 l :: Γ) w) : ∃ q : Option Addr × Nat, St E (Row p4 0 [.slice q.1 l.length q.2] :: Sl 2 q.1 l.length q.2 (l.flatMap enV) :: Γ) w := by
  obtain ⟨q, st⟩ := st.ex
  exact ⟨q, (Ent.sep_out [_, _] Γ).st st⟩
theorem Ent.foi {p4 : Nat} (l : List En) {a : Option Addr} {c : Nat} (Γ : List HP) : Ent (Row p4 0 [.slice a l.length c] :: Sl 2 a l.length c (l.flatMap enV) :: Γ) (FoI p4 l :: Γ) :=
  (Ent.sep_in [_, _] Γ).trans (Ent.ex (A := fun q : Option Addr × Nat => Sep [Row p4 0 [.slice q.1 l.length q.2], Sl 2 q.1 l.length q.2 (l.flatMap enV)]) (a, c) Γ)
theorem mapM_take {α β : Type} (g : α → Option β) : ∀ (l : List α) (i : Nat) (x : α) (ys : List β), l[i]? = some x → (l.take i).mapM g = some ys → (l.take (i + 1)).mapM g = (g x).map fun y => ys ++ [y] := by
  intro l i x ys hx hy
  rw [List.take_add_one, hx]
  simp only [Option.toList_some]
  rw [List.mapM_append, hy]
  cases hg : g x <;> simp [hg]
theorem mapM_none {α β : Type} (g : α → Option β) : ∀ (l : List α) (x : α), x ∈ l → g x = none → l.mapM g = none := by
  intro l
  induction l with
  | nil => intro x hx; cases hx
  | cons y l ih =>
    intro x hx hg
    rw [List.mapM_cons]
    rcases List.mem_cons.1 hx with rfl | hx
    · rw [hg]; rfl
    · rw [ih x hx hg]
      cases g y <;> rfl
theorem mapM_len {α β : Type} (g : α → Option β) {l : List α} {ys : List β} (h : l.mapM g = some ys) : ys.length = l.length := (mapM_some_length h)
set_option maxHeartbeats 1600000 in
theorem found_spec {A : HP} {a : Option Addr} {c n : Nat} {b : List UInt8} (R : Reads A 1 a b.length (b.map bv)) (hc : b.length ≤ c) (hb : b.length ≤ 2 ^ 40) (hn16 : 16 ≤ n ∧ n ≤ 2 ^ 20) :
    Spec Try.prog 107 [.slice a b.length c, .int .i64 n] [A] (fun v B => (∃ l a' c', parse n b = some l ∧ v = .tuple #[.slice a' l.length c', .bool true] ∧ B = [A, Sl 2 a' l.length c' (l.flatMap enV)]) ∨ (parse n b = none ∧ v = .tuple #[.slice none 0 0, .bool false] ∧ B = [A])) := by
  have hn : 0 < n ∧ n ≤ 2 ^ 20 := ⟨by omega, hn16.2⟩
  refine Spec.of_ex Try.func107 rfl Try.ntmps107 rfl fun E cs Γ => ?_
  (simp only [argRho, Nat.reduceAdd, List.cons_append, List.nil_append])
  (refine x_seq ?_); (refine x_region ?_)
  (refine r_op ?_)
  refine o_box rfl rfl rfl (fun p3 => ?_)
  (refine r_op ?_)
  refine o_alloc rfl (fun p4 => ?_)
  (refine r_op ?_)
  refine o_alloc rfl (fun p5 => ?_)
  (refine r_nil ?_; refine x_scope ?_; refine x_seq ?_; refine x_label ?_; refine x_seq ?_; refine x_seq (x_region ?_); refine r_op (o_move rfl rfl ?_); refine r_op (o_load rfl rfl rfl rfl ?_))
  (refine r_op ?_)
  refine o_call rfl (lies_spec a b.length c n) rfl ?_
  rintro v B ⟨pn, pb, rfl, rfl⟩
  (simp only [List.cons_append, List.nil_append])
  (refine r_nil ?_; refine x_block ?_)
  refine x_mem (Ent.marks0 _) ?_
  refine x_range (Ds := []) rfl rfl (lies_iter pn pb n a b.length c hn hb hc)
    (fun j => [Any fun l => Fact ((List.range j).mapM (pz n b) = some l) (FoI p4 l), Row p5 0 [.bool false], Row p3 0 [.int .i64 n], A])
    (fun cd _ => [Fact (cd = .ret ∧ parse n b = none) (Row p4 0 [.slice none 0 0]), Row p5 0 [.bool false], A]) (Δ2 := Γ) ?_ (by rfl) ?_ ?_ ?_ ?_
  · refine (Ent.nilSl 2 _).trans ?_
    refine (Sub.h (Δ := Row p4 0 [.slice none 0 0] :: Sl 2 none 0 0 [] :: Row p5 0 [.bool false] :: Row p3 0 [.int .i64 n] :: A :: Γ)).trans ?_
    refine (Ent.foi [] _).trans ?_
    refine (Ent.fact (p := (List.range 0).mapM (pz n b) = some []) rfl _).trans ?_
    exact Ent.ex (A := fun l => Fact ((List.range 0).mapM (pz n b) = some l) (FoI p4 l)) [] _
  · intro j vs hj
    rw [List.getElem?_map, Option.map_eq_some_iff] at hj
    obtain ⟨y, _, rfl⟩ := hj
    rfl
  · intro j vs hj
    have hjl : j < nSl n b.length := by have := (List.getElem?_eq_some_iff.1 hj).1; simpa using this
    rw [List.getElem?_map, List.getElem?_range hjl] at hj
    obtain rfl : lieV n b.length a c j = vs := by simpa using hj
    have hjb := (nSl_iff hn.1).1 hjl
    intro Y l r Θ hfn hro hend hexit hret
    refine x_mem (Γ' := Any (fun l => Fact ((List.range j).mapM (pz n b) = some l) (FoI p4 l)) :: Row p5 0 [.bool false] :: Row p3 0 [.int .i64 n] :: A :: Rec l r .ready none :: Θ) (by (simp only [List.cons_append, List.nil_append]); exact Sub.h) ?_
    refine x_open (α := { l : List En // (List.range j).mapM (pz n b) = some l }) (Γ' := fun z => FoI p4 z.1 :: Row p5 0 [.bool false] :: Row p3 0 [.int .i64 n] :: A :: Rec l r .ready none :: Θ) (fun E w st => by
      obtain ⟨l, st⟩ := st.ex
      obtain ⟨h, st⟩ := st.fact
      exact ⟨⟨l, h⟩, st⟩) ?_
    rintro ⟨es, hes⟩
    dsimp only
    have hel := mapM_len _ hes
    rw [List.length_range] at hel
    refine x_open (fun E w st => st.foi) fun ⟨a4, c4⟩ => ?_
    dsimp only
    obtain ⟨x, hxe⟩ : ∃ x, slotOf n b j = x := ⟨_, rfl⟩
    obtain ⟨m, hm⟩ : ∃ m, min b.length (j * n + n) = m := ⟨_, rfl⟩
    obtain ⟨jn, hjn⟩ : ∃ jn, j * n = jn := ⟨_, rfl⟩
    unfold lieV
    rw [hjn] at hjb hm ⊢
    rw [hm]
    have hxl : x.length = m - jn := by rw [← hxe]; unfold slotOf; rw [hjn]; simp; omega
    have Rx := R.sub c jn m (by omega) (by omega) hc
    have ex : ((b.map bv).drop (jn * 1)).take ((m - jn) * 1) = x.map bv := by
      rw [← hxe, Nat.mul_one, Nat.mul_one, ← List.map_drop, ← List.map_take]
      unfold slotOf
      rw [hjn]
      congr 1
      apply List.take_eq_take_iff.2
      simp; omega
    rw [ex] at Rx
    have hx0 : 0 < x.length := by omega
    have hjm : 0 < m - jn := by omega
    have hgd : ∀ (i : Nat) (h : i < x.length), x.getD i 0 = x[i] := fun i h => by rw [List.getD_eq_getElem?_getD, List.getElem?_eq_getElem h]; rfl
    have hpn : pz n b j = none → parse n b = none := fun h => mapM_none _ _ j (by simpa using hjl) h
    have hret' : ∀ ρ' k' Δ, pz n b j = none → Ent Δ (Row p4 0 [.slice none 0 0] :: Row p5 0 [.bool false] :: A :: Rec l r .busy none :: Θ) → Ex Try.prog Y 60 [] (.code .ret :: k') ρ' Δ := fun ρ' k' Δ h hΔ =>
      x_mem (hΔ.trans ((Ent.fact (p := Code.ret = .ret ∧ parse n b = none) ⟨rfl, hpn h⟩ _).trans (by (simp only [List.cons_append, List.nil_append]); exact Sub.h))) (hret k' ρ')
    have hend' : ∀ ρ' (e : En) (a5 : Option Addr) (c5 : Nat) Δ, pz n b j = some e → Ent Δ (Row p4 0 [.slice a5 (es.length + 1) c5] :: Sl 2 a5 (es.length + 1) c5 (es.flatMap enV ++ enV e) :: Row p5 0 [.bool false] :: Row p3 0 [.int .i64 n] :: A :: Rec l r .busy none :: Θ) → Ex Try.prog Y 60 [] [] ρ' Δ := fun ρ' e a5 c5 Δ h hΔ => by
      refine x_mem (hΔ.trans ?_) (hend ρ')
      have e1 : (es ++ [e]).length = es.length + 1 := by simp
      have e2 : (es ++ [e]).flatMap enV = es.flatMap enV ++ enV e := by simp
      have h1 := Ent.foi (p4 := p4) (es ++ [e]) (a := a5) (c := c5) (Row p5 0 [.bool false] :: Row p3 0 [.int .i64 n] :: A :: Rec l r .busy none :: Θ)
      rw [e1, e2] at h1
      have h2 : (List.range (j + 1)).mapM (pz n b) = some (es ++ [e]) := by
        have := mapM_take (pz n b) (List.range (j + 1)) j j es (by simp) (by rw [List.take_range, Nat.min_eq_left (by omega)]; exact hes)
        rw [List.take_of_length_le (by simp), h] at this
        exact this
      refine h1.trans ((Ent.fact h2 _).trans ((Ent.ex (A := fun l => Fact ((List.range (j + 1)).mapM (pz n b) = some l) (FoI p4 l)) (es ++ [e]) _).trans ?_))
      (simp only [List.cons_append, List.nil_append])
      exact Sub.h
    (refine x_seq (x_region ?_); refine r_op (o_assign rfl rfl ?_); refine r_nil ?_; refine x_region ?_; refine r_op (o_assign rfl rfl ?_); refine r_nil ?_)
    refine x_beginRound (r := r) hro ?_
    by_cases h128 : 128 ≤ j
    · (refine x_block ?_; refine x_seq ?_; refine x_block ?_; refine x_seq (x_region ?_); refine r_op (o_move rfl rfl ?_); refine r_op (o_geq_t rfl rfl (by omega) rfl ?_); refine r_op (o_assign rfl rfl ?_); refine r_nil ?_; refine x_true rfl ?_; refine x_seq (x_region ?_); refine r_do (o_store rfl rfl rfl rfl (by simp) ?_); (try dsimp only [Nat.reduceSub, Nat.reduceAdd, List.set]); refine r_do (o_store rfl rfl rfl rfl (by simp) ?_); (try dsimp only [Nat.reduceSub, Nat.reduceAdd, List.set]); refine r_nil ?_)
      exact hret' _ _ _ (by unfold pz; rw [if_pos h128]) Sub.h
    · have hpz : pz n b j = parse1 n x := by unfold pz; rw [if_neg h128, hxe]
      (refine x_block ?_; refine x_seq ?_; refine x_block ?_; refine x_seq (x_region ?_); refine r_op (o_move rfl rfl ?_); refine r_op (o_geq_f rfl rfl (by omega) rfl ?_); refine r_op (o_assign rfl rfl ?_); refine r_nil ?_; refine x_false rfl ?_; refine x_seq (x_region ?_); refine r_op (o_move rfl rfl ?_))
      (refine r_op ?_)
      refine o_indexR rfl rfl Rx (j := 0) rfl hjm rfl (fun b1 off ha => ?_)
      skip
      (refine r_op ?_)
      refine o_loadR rfl Rx ha (i := 0) (by omega) (bget hx0) rfl ?_
      (refine r_op ?_)
      refine o_eql rfl rfl rfl (fun h => ?_) (fun h => ?_)
      · have h : x[0] = 0 := UInt8.toNat_inj.1 (by simpa using h)
        have hp0 : pz n b j = some none := by rw [hpz]; unfold parse1; rw [hgd 0 hx0, if_pos h]
        (refine r_op (o_assign rfl rfl ?_); refine r_nil ?_; refine x_true rfl ?_; refine x_seq (x_region ?_); refine r_op (o_load rfl rfl rfl rfl ?_))
        (refine r_op ?_)
        refine o_build rfl (by rfl) rfl ?_
        (refine r_op ?_)
        refine o_buildSlice rfl (by rfl) (by rfl) (by rfl) (by rfl) rfl (fun a2 => ?_)
        (refine r_op ?_)
        refine o_appendT rfl rfl (by rfl) (by rfl) (by rfl) (by omega) rfl (fun a3 c3 hc => ?_)
        (refine r_do (o_store rfl rfl rfl rfl (by simp) ?_); (try dsimp only [Nat.reduceSub, Nat.reduceAdd, List.set]); refine r_nil ?_; refine x_exit rfl ?_)
        refine hend' _ none a3 c3 _ hp0 ?_
        show Ent (Sl 2 a3 (es.length + 1) c3 (List.flatMap enV es ++ enV none) :: _) _
        exact Sub.h
      · have h : x[0] ≠ 0 := fun e => h (by rw [e]; rfl)
        (refine r_op (o_assign rfl rfl ?_); refine r_nil ?_; refine x_false rfl ?_; refine x_seq (x_region ?_); refine r_op (o_move rfl rfl ?_))
        (refine r_op ?_)
        refine o_indexR rfl rfl Rx (j := 0) rfl hjm rfl (fun b2 off2 ha2 => ?_)
        obtain ⟨rfl, rfl⟩ : b2 = b1 ∧ off2 = off := by rw [ha] at ha2; simpa using ha2.symm
        skip
        (refine r_op ?_)
        refine o_loadR rfl Rx ha (i := 0) (by omega) (bget hx0) rfl ?_
        have hexi : ∀ ρ', (x[0] ≠ 1 ∨ x.length < n) → Ex Try.prog Y 60 [] (.code .ret :: []) ρ' (Row p4 0 [.slice none 0 0] :: Row p5 0 [.bool false] :: A :: Rec l r .busy none :: Θ) := fun ρ' hh => hret' ρ' _ _ (by rw [hpz]; unfold parse1; rw [hgd 0 hx0, if_neg h, if_pos hh]) Sub.h
        by_cases h1 : x[0] = 1
        · (refine r_op ?_)
          refine o_neq_f rfl rfl (by rw [h1]; rfl) rfl ?_
          (refine r_op (o_move rfl rfl ?_); refine r_guard rfl (o_move rfl rfl ?_); refine r_guard rfl (o_lenS rfl rfl ?_); refine r_guard rfl (o_load rfl rfl rfl rfl ?_))
          (refine r_guard rfl ?_)
          refine o_lss rfl rfl rfl (fun hl => ?_) (fun hl => ?_)
          · (refine r_op (o_pick_f rfl rfl rfl ?_); refine r_op (o_assign rfl rfl ?_); refine r_nil ?_; refine x_true rfl ?_; refine x_seq (x_region ?_); refine r_do (o_store rfl rfl rfl rfl (by simp) ?_); (try dsimp only [Nat.reduceSub, Nat.reduceAdd, List.set]); refine r_do (o_store rfl rfl rfl rfl (by simp) ?_); (try dsimp only [Nat.reduceSub, Nat.reduceAdd, List.set]); refine r_nil ?_)
            exact hret' _ _ _ (by rw [hpz]; unfold parse1; rw [hgd 0 hx0, if_neg h, if_pos (.inr (by omega))]) Sub.h
          · have hxn : n ≤ x.length := by omega
            have x1 : 1 < x.length := by omega
            have x2 : 2 < x.length := by omega
            obtain ⟨hi, hhi⟩ : ∃ hi, (x[1]).toNat = hi := ⟨_, rfl⟩
            obtain ⟨lo, hlo⟩ : ∃ lo, (x[2]).toNat = lo := ⟨_, rfl⟩
            have hb1 : hi < 256 := hhi ▸ x[1].toNat_lt
            have hb2 : lo < 256 := hlo ▸ x[2].toNat_lt
            have htl : tl x = hi * 256 + lo := by unfold tl; rw [hgd 1 x1, hgd 2 x2, hhi, hlo]
            (refine r_op (o_pick_f rfl rfl rfl ?_); refine r_op (o_assign rfl rfl ?_); refine r_nil ?_; refine x_false rfl ?_; refine x_skip ?_; refine x_inBlock ?_; refine x_seq ?_)
            refine x_script 11 [(0,false),(1,false),(2,false),(3,false),(4,false),(5,false),(6,false),(7,false),(8,false),(9,false),(10,false),(11,false)] [A] mixed (by kernel_rfl) permF ?_
            (refine s_v rfl (v_move rfl) ?_)
            refine s_v rfl (v_indexH rfl rfl ha (j := 1) rfl (by omega)) ?_
            refine s_v rfl (v_loadR rfl Rx ha (i := 1) (by omega) (bget x1)) ?_
            refine s_v rfl (v_conv rfl) ?_
            rw [show (IntKind.i64.wrap (x[1].toNat : Int)) = (hi : Int) from by rw [hhi]; exact in_i64 (by omega)]
            have hsh : (hi : Int) * 2 ^ (8 : Int).toNat = ((hi * 256 : Nat) : Int) := by rw [Int.natCast_mul]; rfl
            refine s_v rfl (v_shl rfl rfl (by decide) (by rw [hsh]; exact in_i64 (by omega))) ?_
            rw [hsh]
            refine s_v rfl (v_add rfl rfl (in_i64 (by omega))) ?_
            (refine s_v rfl (v_move rfl) ?_)
            refine s_v rfl (v_indexH rfl rfl ha (j := 2) rfl (by omega)) ?_
            refine s_v rfl (v_loadR rfl Rx ha (i := 2) (by omega) (bget x2)) ?_
            refine s_v rfl (v_conv rfl) ?_
            rw [show (IntKind.i64.wrap (x[2].toNat : Int)) = (lo : Int) from by rw [hlo]; exact in_i64 (by omega)]
            refine s_v rfl (v_add rfl rfl (in_i64 (by omega))) ?_
            (refine s_v rfl (v_assign rfl) ?_)
            refine s_end rfl ?_
            rw [show (16 : Int) + ((hi * 256 : Nat) : Int) + (lo : Int) = ((16 + tl x : Nat) : Int) by omega]
            (refine x_seq ?_; refine x_seq (x_region ?_); refine r_op (o_move rfl rfl ?_); refine r_op (o_load rfl rfl rfl rfl ?_))
            (refine r_op ?_)
            refine o_gtr rfl rfl rfl (fun hg => ?_) (fun hg => ?_)
            · (refine r_nil ?_; refine x_true rfl ?_; refine x_seq (x_region ?_); refine r_do (o_store rfl rfl rfl rfl (by simp) ?_); (try dsimp only [Nat.reduceSub, Nat.reduceAdd, List.set]); refine r_do (o_store rfl rfl rfl rfl (by simp) ?_); (try dsimp only [Nat.reduceSub, Nat.reduceAdd, List.set]); refine r_nil ?_)
              exact hret' _ _ _ (by rw [hpz]; unfold parse1; rw [hgd 0 hx0, if_neg h, if_neg (by rintro (e | e); exact e h1; omega), if_pos (by omega)]) Sub.h
            · have hp1 : pz n b j = some (some ((x.drop 16).take (tl x))) := by rw [hpz]; unfold parse1; rw [hgd 0 hx0, if_neg h, if_neg (by rintro (e | e); exact e h1; omega), if_neg (by omega)]
              (refine r_nil ?_; refine x_false rfl ?_; refine x_skip ?_)
              have Rt := Rx.sub (c - jn) 16 (16 + tl x) (by omega) (by omega) (by omega)
              refine x_script 8 [(0,false),(1,false),(2,false),(3,false),(4,false),(5,false),(6,true),(7,true),(8,true)] [A, Row p4 0 [.slice a4 es.length c4]] mixed (by kernel_rfl) permF ?_
              (refine s_v rfl (v_load rfl rfl rfl) ?_; refine s_v rfl (v_move rfl) ?_; refine s_v rfl (v_move rfl) ?_)
              refine s_v rfl (v_slice rfl rfl rfl (jl := 16) (jh := 16 + tl x) rfl rfl (by omega) (by omega)) ?_
              rw [show (x.map bv).drop (16 * 1) = (x.drop 16).map bv by simp] at Rt
              rw [show ((x.drop 16).map bv).take ((16 + tl x - 16) * 1) = ((x.drop 16).take (tl x)).map bv by simp] at Rt
              refine s_v rfl (v_toStr rfl Rt) ?_
              refine s_v rfl (v_build rfl (by rfl)) ?_
              refine s_x rfl (o_buildSlice rfl (by rfl) (by rfl) (by rfl) (by rfl) rfl (fun a2 => ?_))
              refine ⟨permF, ?_⟩
              refine s_x rfl (o_appendT rfl rfl (by rfl) (by rfl) (by rfl) (by omega) rfl (fun a3 c3 hc => ?_))
              refine ⟨permF, ?_⟩
              refine s_xt rfl rfl ?_
              refine o_store rfl rfl rfl rfl Nat.zero_lt_one ?_
              refine s_end rfl ?_
              (refine x_inBlock ?_)
              refine hend' _ (some ((x.drop 16).take (tl x))) a3 c3 _ hp1 ?_
              show Ent (Sl 2 a3 (es.length + 1) c3 (List.flatMap enV es ++ enV (some ((x.drop 16).take (tl x)))) :: Rec l r .busy none :: Row p4 0 [.slice a3 (es.length + 1) c3] :: _) _
              exact Sub.h
        · (refine r_op ?_)
          refine o_neq_t rfl rfl (fun e => h1 (UInt8.toNat_inj.1 (by have := Int.ofNat.inj e; simpa using this))) rfl ?_
          (refine r_op (o_move rfl rfl ?_); refine r_skip rfl rfl rfl ?_; refine r_skip rfl rfl rfl ?_; refine r_skip rfl rfl rfl ?_; refine r_skip rfl rfl rfl ?_; refine r_op (o_pick_t rfl rfl rfl ?_); refine r_op (o_assign rfl rfl ?_); refine r_nil ?_; refine x_true rfl ?_; refine x_seq (x_region ?_); refine r_do (o_store rfl rfl rfl rfl (by simp) ?_); (try dsimp only [Nat.reduceSub, Nat.reduceAdd, List.set]); refine r_do (o_store rfl rfl rfl rfl (by simp) ?_); (try dsimp only [Nat.reduceSub, Nat.reduceAdd, List.set]); refine r_nil ?_)
          exact hret' _ _ _ (by rw [hpz]; unfold parse1; rw [hgd 0 hx0, if_neg h, if_pos (.inl h1)]) Sub.h
  · intro D
    refine x_open (α := { l : List En // (List.range (nSl n b.length)).mapM (pz n b) = some l }) (Γ' := fun z => Marks [D] :: FoI p4 z.1 :: Row p5 0 [.bool false] :: Row p3 0 [.int .i64 n] :: A :: Γ) (fun E w st => by
      rw [List.length_map, List.length_range] at st
      simp only [List.cons_append, List.nil_append] at st
      have st := (Sub.h (Δ := Any (fun l => Fact ((List.range (nSl n b.length)).mapM (pz n b) = some l) (FoI p4 l)) :: Marks [D] :: Row p5 0 [.bool false] :: Row p3 0 [.int .i64 n] :: A :: Γ)).st st
      obtain ⟨l, st⟩ := st.ex
      obtain ⟨h, st⟩ := st.fact
      exact ⟨⟨l, h⟩, Sub.h.st st⟩) ?_
    rintro ⟨es, hes⟩
    dsimp only
    refine x_open (Γ' := fun q : Option Addr × Nat => Row p4 0 [.slice q.1 es.length q.2] :: Sl 2 q.1 es.length q.2 (es.flatMap enV) :: Marks [D] :: Row p5 0 [.bool false] :: Row p3 0 [.int .i64 n] :: A :: Γ) (fun E w st => ((Sub.h (Δ := FoI p4 es :: Marks [D] :: Row p5 0 [.bool false] :: Row p3 0 [.int .i64 n] :: A :: Γ)).st st).foi) fun ⟨a4, c4⟩ => ?_
    (refine x_inBlock ?_; refine x_seq (x_region ?_); refine r_op (o_load rfl rfl rfl rfl ?_); refine r_do (o_store rfl rfl rfl rfl (by simp) ?_); (try dsimp only [Nat.reduceSub, Nat.reduceAdd, List.set]); refine r_do (o_store rfl rfl rfl rfl (by simp) ?_); (try dsimp only [Nat.reduceSub, Nat.reduceAdd, List.set]); refine r_nil ?_)
    refine x_retCM (rs := [.cell 4 139, .cell 5 4]) (vs := [.slice a4 es.length c4, .bool true]) ⟨rv_cell rfl (Cell.row (off := 0) rfl rfl), rv_cell rfl (Cell.row (off := 0) rfl rfl), trivial⟩ [A, Sl 2 a4 es.length c4 (es.flatMap enV)] (.inl ⟨es, a4, c4, hes, rfl, rfl⟩) Sub.h
  · intro D cd j
    refine x_open (α := { _u : Unit // cd = .ret ∧ parse n b = none }) (Γ' := fun _ => Marks [D] :: Row p4 0 [.slice none 0 0] :: Row p5 0 [.bool false] :: A :: Γ) (fun E w st => by
      simp only [List.cons_append, List.nil_append] at st
      have st := (Sub.h (Δ := Fact (cd = .ret ∧ parse n b = none) (Row p4 0 [.slice none 0 0]) :: Marks [D] :: Row p5 0 [.bool false] :: A :: Γ)).st st
      obtain ⟨h, st⟩ := st.fact
      exact ⟨⟨(), h⟩, Sub.h.st st⟩) ?_
    rintro ⟨_, rfl, hp⟩
    refine x_retCM (rs := [.cell 4 139, .cell 5 4]) (vs := [.slice none 0 0, .bool false]) ⟨rv_cell rfl (Cell.row (off := 0) rfl rfl), rv_cell rfl (Cell.row (off := 0) rfl rfl), trivial⟩ [A] (.inr ⟨hp, rfl, rfl⟩) Sub.h
end Go.Proofs.Ythneebbmodkjiaa
