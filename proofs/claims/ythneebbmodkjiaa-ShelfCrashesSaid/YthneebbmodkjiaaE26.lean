/- Part of a proof over the seat Ythneebbmodkjiaa: module E26. Its claim's last module says what is proved. -/
import Derived.Test.YthneebbmodkjiaaG8
import Derived.Test.YthneebbmodkjiaaSLp
namespace Go.Proofs.Ythneebbmodkjiaa
open Go.Proofs

theorem bx_cell {l : List BX} {i : Nat} (h : i < l.length) {x : BX} (hx : l[i] = x) (j : Nat) (v : Value) (hv : x.cells[j]? = some v) : (l.flatMap BX.cells)[i * 4 + j]? = some v := by
  have hj : j < 4 := (List.getElem?_eq_some_iff.1 hv).1
  rw [bx_get h j hj, hx, hv]
theorem yv_cell {l : List (Nat × Tx)} {i : Nat} (h : i < l.length) {y : Nat × Tx} (hy : l[i] = y) (j : Nat) (v : Value) (hv : (yv y)[j]? = some v) : (l.flatMap yv)[i * 2 + j]? = some v := by
  have hj : j < 2 := (List.getElem?_eq_some_iff.1 hv).1
  rw [fget yv_cl h j hj, hy, hv]
theorem shl_fit {k : Nat} (hk : k < 4) : fitsB ((128 * 2 ^ k : Nat) : Int) = true ∧ 16 ≤ 128 * 2 ^ k ∧ 128 * 2 ^ k ≤ 1024 := by
  have : k = 0 ∨ k = 1 ∨ k = 2 ∨ k = 3 := by omega
  rcases this with rfl | rfl | rfl | rfl <;> decide
theorem reads_nil (A : HP) (s : Nat) : Reads A s none 0 [] := ⟨by simp, fun h w H W => .inl (by simp)⟩
theorem Left.imp {n : Nat} {M M' : List Tx → Prop} {b : List UInt8} (h : Left n M b) (hm : ∀ T, M T → M' T) : Left n M' b := ⟨h.1, h.2.imp fun _ x => ⟨x.1, hm _ x.2⟩⟩
structure CS where
  i : Nat
  fl : Nat
  sh : Sh
  d : Dk
  l : List Tx
  mb : List Tx
  lost : Tx
  al : Option Addr
  cl : Nat
  am : Option Addr
  cm : Nat
structure KS where
  t : Nat
  b : Nat
  d : Dk
  l : List Tx
  fl : Nat
  ov : Nat
  al : Option Addr
  cl : Nat
structure CS.Ok (f n : Nat) (q : CS) : Prop where
  h20 : q.i ≤ 20
  hl : q.l.length ≤ 20
  ho : q.fl = 0 → ∃ bs u es, Calm bs ∧ q.sh = ⟨f, n, es, false⟩ ∧ Holds n es (bs.getD f []) ∧ q.d = QD bs u ∧ (txts es).Perm q.l ∧ es.length ≤ q.i ∧ q.mb = []
  hd : q.fl ≠ 0 → q.sh.failed = true ∧ q.sh.es.length ≤ 20 ∧ q.sh.n = n ∧ (txts q.sh.es).Perm q.l ∧ q.mb.length ≤ 21 ∧ (q.fl = 2 → q.lost ∈ q.l) ∧ Cr f n (fun T => T.Perm q.l ∨ (q.fl = 1 ∧ T.Perm q.mb) ∨ (q.fl = 2 ∧ T.Perm (q.l.erase q.lost))) q.d
  h2 : q.fl ≤ 2
theorem CS.live {f n i : Nat} {bs : List (List UInt8)} {u : Nat} {es : List En} {l : List Tx} {lost : Tx} {al am : Option Addr} {cl cm : Nat} (hi : i ≤ 20) (hc : Calm bs) (hH : Holds n es (bs.getD f [])) (hp : (txts es).Perm l) (hes : es.length ≤ i) : CS.Ok f n ⟨i, 0, ⟨f, n, es, false⟩, QD bs u, l, [], lost, al, cl, am, cm⟩ :=
  ⟨hi, by
    have h1 := hp.length_eq
    have h2 : (txts es).length ≤ es.length := List.length_filterMap_le _ _
    dsimp only; omega, fun _ => ⟨bs, u, es, hc, rfl, hH, rfl, hp, hes, rfl⟩, fun h => absurd rfl h, Nat.zero_le _⟩
set_option maxHeartbeats 6400000 in
theorem crashes_spec {A : HP} {p : TV} (R : TV.Rd A p) (Fi : p.Fi) : Spec Try.prog 21 [p.val] [A] (fun v B => v = .bool true ∧ B = [A]) := by
  refine Spec.of_ex Try.func21 rfl Try.ntmps21 rfl fun E cs Γ => ?_
  (simp only [argRho, List.cons_append, List.nil_append])
  (refine x_seq ?_); (refine x_region ?_)
  (refine r_op ?_)
  refine o_boxA (vs := p.cells) rfl rfl (fun b0 => ?_)
  have lb := R.lb
  have ob := R.ob
  (refine r_op (o_assign rfl rfl ?_); refine r_nil ?_; refine x_seq ?_; refine x_seq (x_region ?_))
  (refine r_op ?_)
  refine o_loadA (us := p.cells) rfl rfl rfl rfl rfl ?_
  (refine r_op ?_)
  refine o_call rfl (heavy10_spec R) rfl ?_
  rintro v B ⟨⟨hb, rfl, hbl⟩, rfl⟩
  (simp only [List.cons_append, List.nil_append])
  cases hb
  · (refine r_nil ?_; refine x_false rfl ?_; refine x_skip ?_; refine x_seq (x_region ?_); refine r_op (o_fieldAddr rfl rfl ?_); refine r_op (o_load rfl rfl rfl rfl ?_))
    (refine r_op ?_)
    refine o_call rfl (within_spec p.f 8 (by decide)) rfl ?_
    rintro v B ⟨⟨f, rfl, hf0, hf1, -⟩, rfl⟩
    obtain ⟨f, rfl⟩ : ∃ i : Nat, f = i := ⟨f.toNat, by omega⟩
    have hf : f < 8 := by omega
    (simp only [List.nil_append])
    (refine r_op (o_assign rfl rfl ?_); refine r_nil ?_; refine x_seq (x_region ?_); refine r_op (o_fieldAddr rfl rfl ?_); refine r_op (o_load rfl rfl rfl rfl ?_))
    (refine r_op ?_)
    refine o_call rfl (within_spec p.k 4 (by decide)) rfl ?_
    rintro v B ⟨⟨k, rfl, hk0, hk1, -⟩, rfl⟩
    obtain ⟨k, rfl⟩ : ∃ i : Nat, k = i := ⟨k.toNat, by omega⟩
    have hk : k < 4 := by omega
    obtain ⟨hfit, hn1, hn2⟩ := shl_fit hk
    have hsh : (128 : Int) * 2 ^ (k : Int).toNat = ((128 * 2 ^ k : Nat) : Int) := by rw [Int.toNat_natCast]; simp
    obtain ⟨n, hn⟩ : ∃ n, 128 * 2 ^ k = n := ⟨_, rfl⟩
    rw [hn] at hsh hfit hn1 hn2
    (simp only [List.nil_append])
    (refine r_op ?_)
    refine o_shl rfl rfl ⟨by omega, by simp [IntKind.bits]; omega⟩ (by rw [hsh]; exact in_i64 (by omega)) rfl ?_
    rw [hsh]
    (refine r_op (o_assign rfl rfl ?_); refine r_nil ?_; refine x_seq (x_region ?_))
    (refine r_op ?_)
    refine o_call rfl disk0_spec rfl ?_
    rintro v B ⟨b, rfl, rfl⟩
    (simp only [List.cons_append, List.nil_append])
    (refine r_op (o_assign rfl rfl ?_); refine r_nil ?_; refine x_seq (x_region ?_); refine r_op (o_move rfl rfl ?_); refine r_op (o_move rfl rfl ?_); refine r_op (o_move rfl rfl ?_))
    (refine r_op ?_)
    refine o_call rfl (open0C_spec b calm0 (f := f) (n := n) hf hfit (getD_0 f)) rfl ?_
    rintro v B ⟨ps, rfl, rfl⟩
    (simp only [List.cons_append, List.nil_append])
    (refine r_op (o_move rfl rfl ?_); refine r_op (o_extract rfl rfl rfl ?_); refine r_op (o_extract rfl rfl rfl ?_); refine r_op (o_assign rfl rfl ?_); refine r_op (o_assign rfl rfl ?_); refine r_nil ?_; refine x_seq ?_; refine x_seq (x_region ?_); refine r_op (o_move rfl rfl ?_))
    (refine r_op ?_)
    refine o_peq (.inl rfl) rfl rfl (.inr rfl) rfl ?_
    (refine r_op (o_move rfl rfl ?_); refine r_guard rfl (o_move rfl rfl ?_))
    (refine r_guard rfl ?_)
    refine o_call rfl (num10_spec 0) rfl ?_
    rintro v B ⟨rfl, rfl⟩
    (simp only [List.nil_append])
    (refine r_guard rfl (o_neq_f rfl rfl (by omega) rfl ?_); refine r_op (o_pick_f rfl rfl rfl ?_); refine r_op (o_move rfl rfl ?_); refine r_guard rfl (o_move rfl rfl ?_))
    (refine r_guard rfl ?_)
    refine o_peq (.inl rfl) rfl rfl (.inr rfl) rfl ?_
    (refine r_op ?_); (refine o_pick_f rfl rfl rfl ?_)
    (refine r_nil ?_); (refine x_false rfl ?_); (refine x_skip ?_)
    rw [qd_new calm0]
    refine x_cut (α := Nat) (fun _ => True) (fun _ => [(1, dp b0), (3, .int .i64 f), (4, .int .i64 n), (5, dp b), (6, dp ps)]) (fun u => ShelfI ps b ⟨f, n, [], false⟩ :: DiskI b (QD (List.replicate 8 []) u) :: A :: Row b0 0 p.cells :: Γ) ?_ ?_
    · rintro u -
      (refine x_seq (x_region ?_); refine r_op (o_assign rfl rfl ?_); refine r_op (o_assign rfl rfl ?_); refine r_nil ?_; refine x_seq (x_region ?_); refine r_op (o_assign rfl rfl ?_); refine r_nil ?_; refine x_seq (x_region ?_); refine r_op (o_assign rfl rfl ?_); refine r_nil ?_; refine x_seq ?_; refine x_seq (x_region ?_); refine r_op (o_assign rfl rfl ?_); refine r_nil ?_)
      refine x_mem (Γ' := ShelfI ps b ⟨f, n, [], false⟩ :: DiskI b (QD (List.replicate 8 []) u) :: Sl 1 none 0 0 ([] : List Value) :: Sl 1 none 0 0 ([] : List Value) :: A :: Row b0 0 p.cells :: Γ) (((Ent.nilSl 1 _).trans (Ent.nilSl 1 _)).trans Sub.h) ?_
      refine x_cutK (α := CS) (fun q => q.Ok f n) (fun q => [(1, dp b0), (3, .int .i64 f), (4, .int .i64 n), (5, dp b), (6, dp ps), (8, .slice q.al q.l.length q.cl), (9, .slice q.am q.mb.length q.cm), (10, tv q.lost), (11, .int .i64 q.fl)])
        (fun q => ShelfI ps b q.sh :: DiskI b q.d :: Sl 1 q.al q.l.length q.cl (q.l.map tv) :: Sl 1 q.am q.mb.length q.cm (q.mb.map tv) :: A :: Row b0 0 p.cells :: Γ) ?_ ?_
      · rintro ⟨i, fl, sh, d, l, mb, lost, al, cl, am, cm⟩ ⟨-, hl, ho, hd, h2⟩
        dsimp only at hl ho hd h2 ⊢
        refine x_cut (α := List Tx × Option Addr × Nat) (fun q => q.1.length ≤ 21 ∧ Cr f n (May (decide (fl ≠ 0)) l q.1 0) d) (fun q => [(1, dp b0), (3, .int .i64 f), (4, .int .i64 n), (5, dp b), (6, dp ps), (8, .slice al l.length cl), (9, .slice q.2.1 q.1.length q.2.2), (11, .int .i64 fl)])
          (fun q => ShelfI ps b sh :: DiskI b d :: Sl 1 al l.length cl (l.map tv) :: Sl 1 q.2.1 q.1.length q.2.2 (q.1.map tv) :: A :: Row b0 0 p.cells :: Γ) ?_ ?_
        · rintro ⟨mb, am, cm⟩ ⟨hml, hCr⟩
          dsimp only at hml hCr ⊢
          refine x_cut (α := Unit) (fun _ => True) (fun _ => [(1, dp b0), (3, .int .i64 f), (4, .int .i64 n), (5, dp b), (8, .slice al l.length cl), (9, .slice am mb.length cm), (11, .int .i64 fl)])
            (fun _ => DiskI b d :: Sl 1 al l.length cl (l.map tv) :: Sl 1 am mb.length cm (mb.map tv) :: A :: Row b0 0 p.cells :: Γ) ?_ ?_
          · rintro - -
            (refine x_seq (x_region ?_); refine r_op (o_assign rfl rfl ?_); refine r_nil ?_; refine x_seq ?_; refine x_seq (x_region ?_); refine r_op (o_assign rfl rfl ?_); refine r_nil ?_)
            (refine x_block ?_)
            refine x_loop (α := KS) (fun q => q.t ≤ 4 ∧ q.l.length ≤ 128 ∧ q.ov ≤ q.t ∧ Cr f n (May (decide (q.fl ≠ 0)) q.l mb q.ov) q.d)
              (fun q => [(1, dp b0), (3, .int .i64 f), (4, .int .i64 n), (5, dp q.b), (8, .slice q.al q.l.length q.cl), (9, .slice am mb.length cm), (11, .int .i64 q.fl), (21, .int .i64 q.ov), (22, .int .i64 q.t)])
              (fun q => DiskI q.b q.d :: Sl 1 q.al q.l.length q.cl (q.l.map tv) :: Sl 1 am mb.length cm (mb.map tv) :: A :: Row b0 0 p.cells :: Γ) (fun q => 4 - q.t) ⟨0, b, d, l, fl, 0, al, cl⟩
              ⟨Nat.zero_le _, by dsimp only; omega, Nat.le_refl _, hCr⟩ ⟨rfl, rfl, rfl, rfl, rfl, rfl, rfl, rfl, rfl, trivial⟩ (.refl _) ?_
            clear hd ho hCr
            rintro ⟨t, b, d, l, fl, ov, al, cl⟩ ⟨ht4, hl, hov, hCr⟩ back
            dsimp only at ht4 hl hov hCr back ⊢
            (refine x_seq ?_; refine x_seq (x_region ?_); refine r_op (o_move rfl rfl ?_))
            (refine r_op ?_)
            refine o_lss rfl rfl rfl (fun h => ?_) (fun h => ?_)
            · (refine r_nil ?_; refine x_true rfl ?_; refine x_skip ?_; refine x_seq ?_)
              (refine x_block ?_); (refine x_seq ?_); (refine x_region ?_)
              (refine r_op ?_); (refine o_assign rfl rfl ?_)
              (refine r_nil ?_)
              refine x_cut (α := Option Addr × Nat × List Int) (fun q => Reads A 1 q.1 q.2.2.length (q.2.2.map iv) ∧ q.2.2.length ≤ 2 ^ 47 ∧ ∀ z ∈ q.2.2, z ≤ 9223372036854775807)
                (fun q => [(1, dp b0), (3, .int .i64 f), (4, .int .i64 n), (5, dp b), (8, .slice al l.length cl), (9, .slice am mb.length cm), (11, .int .i64 fl), (21, .int .i64 ov), (22, .int .i64 t), (23, .slice q.1 q.2.2.length q.2.1)])
                (fun _ => DiskI b d :: Sl 1 al l.length cl (l.map tv) :: Sl 1 am mb.length cm (mb.map tv) :: A :: Row b0 0 p.cells :: Γ) ?_ ?_
              · rintro ⟨pa, pc, ps⟩ ⟨RP, hps, hpz⟩
                dsimp only at RP hps hpz ⊢
                obtain ⟨hCa, es, hes, hM⟩ := hCr.cr ps
                (refine x_seq (x_region ?_); refine r_op (o_move rfl rfl ?_); refine r_op (o_move rfl rfl ?_))
                (refine r_op ?_)
                refine o_call rfl (again2_spec b (hCr.ok.fit (by decide)) hCa RP (by omega) hpz) rfl ?_
                rintro v B ⟨b2, rfl, rfl⟩
                rw [qd_new hCa]
                (simp only [List.cons_append, List.nil_append])
                (refine r_op (o_assign rfl rfl ?_); refine r_nil ?_; refine x_seq ?_; refine x_seq (x_region ?_); refine r_op (o_move rfl rfl ?_))
                (refine r_op ?_)
                refine o_peq (.inl rfl) rfl rfl (.inr rfl) rfl ?_
                obtain ⟨bs, hbs⟩ : ∃ bs, keepAll d.fs ps = bs := ⟨_, rfl⟩
                rw [hbs] at hCa hes ⊢
                (refine r_nil ?_); (refine x_false rfl ?_); (refine x_skip ?_)
                refine x_cut (α := Nat) (fun u => u ≠ 0 → t < 2) (fun _ => [(1, dp b0), (3, .int .i64 f), (4, .int .i64 n), (5, dp b2), (8, .slice al l.length cl), (9, .slice am mb.length cm), (11, .int .i64 fl), (21, .int .i64 ov), (22, .int .i64 t)])
                  (fun u => DiskI b2 (QD bs u) :: Sl 1 al l.length cl (l.map tv) :: Sl 1 am mb.length cm (mb.map tv) :: A :: Row b0 0 p.cells :: Γ) ?_ ?_
                · intro u hu
                  have hdk := okn_openD (qd_okn hCa u) f n
                  (refine x_seq (x_region ?_); refine r_op (o_move rfl rfl ?_); refine r_op (o_move rfl rfl ?_); refine r_op (o_move rfl rfl ?_))
                  (refine r_op ?_)
                  refine o_call rfl (open_spec b2 (QD bs u) f n (qd_okn hCa u) (by decide)) rfl ?_
                  rcases open_q hCa u hf hfit hes with ⟨b', u', e1, hH2, -⟩ | ⟨hu0, d2, e1, hG⟩
                  · rw [e1]
                    rintro v B ⟨ps2, rfl, rfl⟩
                    (simp only [List.cons_append, List.nil_append])
                    (refine r_op (o_move rfl rfl ?_); refine r_op (o_extract rfl rfl rfl ?_); refine r_op (o_extract rfl rfl rfl ?_); refine r_op (o_assign rfl rfl ?_); refine r_op (o_assign rfl rfl ?_); refine r_nil ?_; refine x_seq ?_; refine x_seq (x_region ?_); refine r_op (o_move rfl rfl ?_))
                    (refine r_op ?_)
                    refine o_call rfl (num10_spec 0) rfl ?_
                    rintro v B ⟨rfl, rfl⟩
                    (simp only [List.nil_append])
                    (refine r_op (o_eql_f rfl rfl (by omega) rfl ?_); refine r_op (o_move rfl rfl ?_); refine r_skip rfl rfl rfl ?_; refine r_skip rfl rfl rfl ?_; refine r_op (o_pick_f rfl rfl rfl ?_); refine r_op (o_move rfl rfl ?_); refine r_skip rfl rfl rfl ?_; refine r_skip rfl rfl rfl ?_; refine r_op (o_pick_f rfl rfl rfl ?_); refine r_nil ?_; refine x_false rfl ?_; refine x_skip ?_; refine x_seq ?_; refine x_seq (x_region ?_); refine r_op (o_move rfl rfl ?_))
                    (refine r_op ?_)
                    refine o_call rfl (num10_spec 0) rfl ?_
                    rintro v B ⟨rfl, rfl⟩
                    (simp only [List.nil_append])
                    (refine r_op (o_neq_f rfl rfl (by omega) rfl ?_); refine r_op (o_move rfl rfl ?_); refine r_guard rfl (o_move rfl rfl ?_))
                    (refine r_guard rfl ?_)
                    refine o_peq (.inl rfl) rfl rfl (.inr rfl) rfl ?_
                    (refine r_op (o_pick_f rfl rfl rfl ?_); refine r_nil ?_; refine x_false rfl ?_; refine x_skip ?_; refine x_seq (x_region ?_); refine r_op (o_move rfl rfl ?_))
                    (refine r_op ?_)
                    refine o_call rfl (texts_spec ps2 b2 ⟨f, n, es.filter Option.isSome, false⟩ (by have := hH2.len (by omega); show (es.filter Option.isSome).length ≤ _; omega)) rfl ?_
                    rintro v B ⟨a5, c5, rfl, rfl⟩
                    rw [texts_txts]
                    dsimp only
                    rw [txts_filter]
                    obtain ⟨T, hT⟩ : ∃ T, txts es = T := ⟨_, rfl⟩
                    have hTl : T.length ≤ 128 := by
                      have h1 := parse_len' hes
                      have h2 : (txts es).length ≤ es.length := List.length_filterMap_le _ _
                      rw [← hT]; omega
                    have hT2 : txts (es.filter Option.isSome) = T := by rw [txts_filter, hT]
                    rw [hT] at hM ⊢
                    have RT := Sl.reads 1 a5 T.length c5 (T.map tv) (by simp)
                    (simp only [List.cons_append, List.nil_append])
                    (refine r_op (o_assign rfl rfl ?_); refine r_nil ?_; refine x_seq ?_; refine x_seq (x_region ?_); refine r_op (o_move rfl rfl ?_); refine r_op (o_move rfl rfl ?_); refine r_op (o_move rfl rfl ?_))
                    refine r_sl a5 fun _ hcap => ?_
                    (refine r_op ?_)
                    refine o_call rfl (bag_spec ov (Sl.reads 1 al l.length cl (l.map tv) (by simp)) RT hcap (by omega) (by omega)) rfl ?_
                    rintro v B ⟨rfl, rfl⟩
                    cases hbg : bagL l T ov with
                    | true =>
                      (simp only [List.cons_append, List.nil_append])
                      (refine r_op (o_not rfl rfl ?_); refine r_op (o_move rfl rfl ?_); refine r_skip rfl rfl rfl ?_; refine r_skip rfl rfl rfl ?_; refine r_skip rfl rfl rfl ?_; refine r_skip' rfl rfl ?_; refine r_skip' rfl rfl ?_; refine r_skip' rfl rfl ?_; refine r_skip' rfl rfl ?_; refine r_skip' rfl rfl ?_; refine r_skip rfl rfl rfl ?_; refine r_op (o_pick_f rfl rfl rfl ?_); refine r_nil ?_; refine x_false rfl ?_; refine x_skip ?_; refine x_seq ?_; refine x_seq (x_region ?_); refine r_op (o_assign rfl rfl ?_); refine r_nil ?_; refine x_block ?_)
                      refine x_loop (α := Nat) (fun k => k ≤ T.length) (fun k => [(1, dp b0), (3, .int .i64 f), (4, .int .i64 n), (5, dp b2), (8, .slice al l.length cl), (9, .slice am mb.length cm), (22, .int .i64 t), (26, .slice a5 T.length c5), (27, .int .i64 k)])
                        (fun _ => Sl 1 al l.length cl (l.map tv) :: Sl 1 a5 T.length c5 (T.map tv) :: DiskI b2 (QD (bs.set f b') u') :: Sl 1 am mb.length cm (mb.map tv) :: A :: Row b0 0 p.cells :: Γ) (fun k => T.length - k) 0 (Nat.zero_le _) ⟨rfl, rfl, rfl, rfl, rfl, rfl, rfl, rfl, rfl, trivial⟩ Sub.h ?_
                      intro k hk back3
                      (refine x_seq ?_; refine x_seq (x_region ?_); refine r_op (o_move rfl rfl ?_); refine r_op (o_move rfl rfl ?_); refine r_op (o_lenS rfl rfl ?_))
                      (refine r_op ?_)
                      refine o_lss rfl rfl rfl (fun h8 => ?_) (fun h8 => ?_)
                      · have hk1 : k < T.length := by omega
                        (refine r_nil ?_; refine x_true rfl ?_; refine x_skip ?_; refine x_seq ?_; refine x_block ?_; refine x_seq (x_region ?_); refine r_op (o_move rfl rfl ?_); refine r_op (o_move rfl rfl ?_); refine r_op (o_move rfl rfl ?_))
                        (refine r_op ?_)
                        refine o_indexR rfl rfl RT (j := k) rfl hk1 rfl (fun b1 off ha => ?_)
                        skip
                        (refine r_op ?_)
                        refine o_loadR rfl RT ha (i := k) (by omega) (tget hk1) rfl ?_
                        (refine r_op ?_)
                        refine o_call rfl (inStr_spec T[k] (Sl.reads 1 al l.length cl (l.map tv) (by simp)) (by omega)) rfl ?_
                        rintro v B ⟨⟨q, rfl, hq⟩, rfl⟩
                        (simp only [List.cons_append, List.nil_append])
                        rcases hq with ⟨rfl, hq⟩ | ⟨q, rfl, hq, -, -⟩
                        · (refine r_op (o_lss_t rfl rfl (by omega) rfl ?_); refine r_op (o_move rfl rfl ?_); refine r_guard rfl (o_move rfl rfl ?_); refine r_guard rfl (o_move rfl rfl ?_); refine r_guard rfl (o_move rfl rfl ?_))
                          (refine r_guard rfl ?_)
                          refine o_indexR rfl rfl RT (j := k) rfl hk1 rfl (fun b1 off ha => ?_)
                          skip
                          (refine r_guard rfl ?_)
                          refine o_loadR rfl RT ha (i := k) (by omega) (tget hk1) rfl ?_
                          (refine r_guard rfl ?_)
                          refine o_call rfl (inStr_spec T[k] (Sl.reads 1 am mb.length cm (mb.map tv) (by simp)) (by omega)) rfl ?_
                          rintro v B ⟨⟨q, rfl, hq2⟩, rfl⟩
                          (simp only [List.cons_append, List.nil_append])
                          rcases hq2 with ⟨rfl, hq2⟩ | ⟨q, rfl, hq2, -, -⟩
                          · exact absurd (hM.2 _ (List.getElem_mem hk1)) (by rintro (h | h); exact hq h; exact hq2 h)
                          · (refine r_guard rfl (o_lss_f rfl rfl (by omega) rfl ?_); refine r_op (o_pick_t rfl rfl rfl ?_); refine r_nil ?_; refine x_false rfl ?_; refine x_skip ?_; refine x_inBlock ?_; refine x_region ?_; refine r_op (o_move rfl rfl ?_); refine r_op (o_add rfl rfl (add_i64 (by omega)) rfl ?_); refine r_op (o_assign rfl rfl ?_); refine r_nil ?_)
                            refine x_weak (back3 (k + 1) (by omega) (by omega)) (by (repeat' (first | exact trivial | refine ⟨rfl, ?_⟩))) Sub.h
                        · (refine r_op (o_lss_f rfl rfl (by omega) rfl ?_); refine r_op (o_move rfl rfl ?_); refine r_skip rfl rfl rfl ?_; refine r_skip rfl rfl rfl ?_; refine r_skip rfl rfl rfl ?_; refine r_skip rfl rfl rfl ?_; refine r_skip rfl rfl rfl ?_; refine r_skip rfl rfl rfl ?_; refine r_skip rfl rfl rfl ?_; refine r_op (o_pick_f rfl rfl rfl ?_); refine r_nil ?_; refine x_false rfl ?_; refine x_skip ?_; refine x_inBlock ?_; refine x_region ?_; refine r_op (o_move rfl rfl ?_); refine r_op (o_add rfl rfl (add_i64 (by omega)) rfl ?_); refine r_op (o_assign rfl rfl ?_); refine r_nil ?_)
                          refine x_weak (back3 (k + 1) (by omega) (by omega)) (by (repeat' (first | exact trivial | refine ⟨rfl, ?_⟩))) Sub.h
                      · (refine r_nil ?_; refine x_false rfl ?_; refine x_exit rfl ?_; refine x_region ?_; refine r_op (o_move rfl rfl ?_); refine r_op (o_assign rfl rfl ?_); refine r_op (o_assign rfl rfl ?_); refine r_op (o_assign rfl rfl ?_); refine r_nil ?_; refine x_inBlock ?_; refine x_region ?_; refine r_op (o_move rfl rfl ?_); refine r_op (o_add rfl rfl (add_i64 (by omega)) rfl ?_); refine r_op (o_assign rfl rfl ?_); refine r_nil ?_)
                        refine x_mem (Γ' := DiskI b2 (QD (bs.set f b') u') :: Sl 1 a5 T.length c5 (T.map tv) :: Sl 1 am mb.length cm (mb.map tv) :: A :: Row b0 0 p.cells :: Γ) Sub.h ?_
                        refine x_weak (back ⟨t + 1, b2, QD (bs.set f b') u', T, 0, 0, a5, c5⟩ ⟨by dsimp only; omega, hTl, Nat.zero_le _, qd_cr (hCa.set f (hH2.size ⟨hn1, hn2⟩)) u' (by rw [getD_set hCa.h8 hf]; exact hH2.1) (by dsimp only; rw [hT2]; exact ⟨.inl (near_perm (.refl _)), fun x hx => .inl hx⟩)⟩ (by dsimp only; omega)) (by (repeat' (first | exact trivial | refine ⟨rfl, ?_⟩))) Sub.h
                    | false =>
                      have hM1 : fl ≠ 0 ∧ Near ov mb T := by
                        rcases hM.1 with h | ⟨h, h'⟩
                        · rw [h.bag] at hbg; cases hbg
                        · exact ⟨by simpa using h, h'⟩
                      (simp only [List.cons_append, List.nil_append])
                      (refine r_op (o_not rfl rfl ?_); refine r_op (o_move rfl rfl ?_); refine r_guard rfl (o_move rfl rfl ?_); refine r_guard rfl (o_eql_f rfl rfl (by omega) rfl ?_); refine r_guard rfl (o_move rfl rfl ?_); refine r_guard rfl (o_move rfl rfl ?_); refine r_guard rfl (o_move rfl rfl ?_); refine r_guard rfl (o_move rfl rfl ?_))
                      (refine r_guard rfl ?_)
                      refine o_call rfl (bag_spec ov (Sl.reads 1 am mb.length cm (mb.map tv) (by simp)) RT hcap (by omega) (by omega)) rfl ?_
                      rintro v B ⟨rfl, rfl⟩
                      rw [hM1.2.bag]
                      (simp only [List.cons_append, List.nil_append])
                      (refine r_guard rfl (o_not rfl rfl ?_); refine r_guard rfl (o_pick_f rfl rfl rfl ?_); refine r_op (o_pick_t rfl rfl rfl ?_); refine r_nil ?_; refine x_false rfl ?_; refine x_skip ?_; refine x_seq ?_; refine x_seq (x_region ?_); refine r_op (o_assign rfl rfl ?_); refine r_nil ?_; refine x_block ?_)
                      refine x_loop (α := Nat) (fun k => k ≤ T.length) (fun k => [(1, dp b0), (3, .int .i64 f), (4, .int .i64 n), (5, dp b2), (8, .slice al l.length cl), (9, .slice am mb.length cm), (22, .int .i64 t), (26, .slice a5 T.length c5), (27, .int .i64 k)])
                        (fun _ => Sl 1 al l.length cl (l.map tv) :: Sl 1 a5 T.length c5 (T.map tv) :: DiskI b2 (QD (bs.set f b') u') :: Sl 1 am mb.length cm (mb.map tv) :: A :: Row b0 0 p.cells :: Γ) (fun k => T.length - k) 0 (Nat.zero_le _) ⟨rfl, rfl, rfl, rfl, rfl, rfl, rfl, rfl, rfl, trivial⟩ Sub.h ?_
                      intro k hk back3
                      (refine x_seq ?_; refine x_seq (x_region ?_); refine r_op (o_move rfl rfl ?_); refine r_op (o_move rfl rfl ?_); refine r_op (o_lenS rfl rfl ?_))
                      (refine r_op ?_)
                      refine o_lss rfl rfl rfl (fun h8 => ?_) (fun h8 => ?_)
                      · have hk1 : k < T.length := by omega
                        (refine r_nil ?_; refine x_true rfl ?_; refine x_skip ?_; refine x_seq ?_; refine x_block ?_; refine x_seq (x_region ?_); refine r_op (o_move rfl rfl ?_); refine r_op (o_move rfl rfl ?_); refine r_op (o_move rfl rfl ?_))
                        (refine r_op ?_)
                        refine o_indexR rfl rfl RT (j := k) rfl hk1 rfl (fun b1 off ha => ?_)
                        skip
                        (refine r_op ?_)
                        refine o_loadR rfl RT ha (i := k) (by omega) (tget hk1) rfl ?_
                        (refine r_op ?_)
                        refine o_call rfl (inStr_spec T[k] (Sl.reads 1 al l.length cl (l.map tv) (by simp)) (by omega)) rfl ?_
                        rintro v B ⟨⟨q, rfl, hq⟩, rfl⟩
                        (simp only [List.cons_append, List.nil_append])
                        rcases hq with ⟨rfl, hq⟩ | ⟨q, rfl, hq, -, -⟩
                        · (refine r_op (o_lss_t rfl rfl (by omega) rfl ?_); refine r_op (o_move rfl rfl ?_); refine r_guard rfl (o_move rfl rfl ?_); refine r_guard rfl (o_move rfl rfl ?_); refine r_guard rfl (o_move rfl rfl ?_))
                          (refine r_guard rfl ?_)
                          refine o_indexR rfl rfl RT (j := k) rfl hk1 rfl (fun b1 off ha => ?_)
                          skip
                          (refine r_guard rfl ?_)
                          refine o_loadR rfl RT ha (i := k) (by omega) (tget hk1) rfl ?_
                          (refine r_guard rfl ?_)
                          refine o_call rfl (inStr_spec T[k] (Sl.reads 1 am mb.length cm (mb.map tv) (by simp)) (by omega)) rfl ?_
                          rintro v B ⟨⟨q, rfl, hq2⟩, rfl⟩
                          (simp only [List.cons_append, List.nil_append])
                          rcases hq2 with ⟨rfl, hq2⟩ | ⟨q, rfl, hq2, -, -⟩
                          · exact absurd (hM.2 _ (List.getElem_mem hk1)) (by rintro (h | h); exact hq h; exact hq2 h)
                          · (refine r_guard rfl (o_lss_f rfl rfl (by omega) rfl ?_); refine r_op (o_pick_t rfl rfl rfl ?_); refine r_nil ?_; refine x_false rfl ?_; refine x_skip ?_; refine x_inBlock ?_; refine x_region ?_; refine r_op (o_move rfl rfl ?_); refine r_op (o_add rfl rfl (add_i64 (by omega)) rfl ?_); refine r_op (o_assign rfl rfl ?_); refine r_nil ?_)
                            refine x_weak (back3 (k + 1) (by omega) (by omega)) (by (repeat' (first | exact trivial | refine ⟨rfl, ?_⟩))) Sub.h
                        · (refine r_op (o_lss_f rfl rfl (by omega) rfl ?_); refine r_op (o_move rfl rfl ?_); refine r_skip rfl rfl rfl ?_; refine r_skip rfl rfl rfl ?_; refine r_skip rfl rfl rfl ?_; refine r_skip rfl rfl rfl ?_; refine r_skip rfl rfl rfl ?_; refine r_skip rfl rfl rfl ?_; refine r_skip rfl rfl rfl ?_; refine r_op (o_pick_f rfl rfl rfl ?_); refine r_nil ?_; refine x_false rfl ?_; refine x_skip ?_; refine x_inBlock ?_; refine x_region ?_; refine r_op (o_move rfl rfl ?_); refine r_op (o_add rfl rfl (add_i64 (by omega)) rfl ?_); refine r_op (o_assign rfl rfl ?_); refine r_nil ?_)
                          refine x_weak (back3 (k + 1) (by omega) (by omega)) (by (repeat' (first | exact trivial | refine ⟨rfl, ?_⟩))) Sub.h
                      · (refine r_nil ?_; refine x_false rfl ?_; refine x_exit rfl ?_; refine x_region ?_; refine r_op (o_move rfl rfl ?_); refine r_op (o_assign rfl rfl ?_); refine r_op (o_assign rfl rfl ?_); refine r_op (o_assign rfl rfl ?_); refine r_nil ?_; refine x_inBlock ?_; refine x_region ?_; refine r_op (o_move rfl rfl ?_); refine r_op (o_add rfl rfl (add_i64 (by omega)) rfl ?_); refine r_op (o_assign rfl rfl ?_); refine r_nil ?_)
                        refine x_mem (Γ' := DiskI b2 (QD (bs.set f b') u') :: Sl 1 a5 T.length c5 (T.map tv) :: Sl 1 am mb.length cm (mb.map tv) :: A :: Row b0 0 p.cells :: Γ) Sub.h ?_
                        refine x_weak (back ⟨t + 1, b2, QD (bs.set f b') u', T, 0, 0, a5, c5⟩ ⟨by dsimp only; omega, hTl, Nat.zero_le _, qd_cr (hCa.set f (hH2.size ⟨hn1, hn2⟩)) u' (by rw [getD_set hCa.h8 hf]; exact hH2.1) (by dsimp only; rw [hT2]; exact ⟨.inl (near_perm (.refl _)), fun x hx => .inl hx⟩)⟩ (by dsimp only; omega)) (by (repeat' (first | exact trivial | refine ⟨rfl, ?_⟩))) Sub.h
                  · rw [e1] at hdk ⊢
                    have ht2 := hu hu0
                    rintro v B ⟨rfl, rfl⟩
                    (simp only [List.cons_append, List.nil_append])
                    (refine r_op (o_move rfl rfl ?_); refine r_op (o_extract rfl rfl rfl ?_); refine r_op (o_extract rfl rfl rfl ?_); refine r_op (o_assign rfl rfl ?_); refine r_op (o_assign rfl rfl ?_); refine r_nil ?_; refine x_seq ?_; refine x_seq (x_region ?_); refine r_op (o_move rfl rfl ?_))
                    (refine r_op ?_)
                    refine o_call rfl (num10_spec 13) rfl ?_
                    rintro v B ⟨rfl, rfl⟩
                    (simp only [List.nil_append])
                    (refine r_op (o_eql_t rfl rfl (by omega) rfl ?_); refine r_op (o_move rfl rfl ?_); refine r_guard rfl (o_move rfl rfl ?_); refine r_guard rfl (o_lss_t rfl rfl (by omega) rfl ?_); refine r_op (o_pick_t rfl rfl rfl ?_); refine r_op (o_move rfl rfl ?_); refine r_guard rfl (o_move rfl rfl ?_))
                    (refine r_guard rfl ?_)
                    refine o_peq (.inl rfl) rfl rfl (.inr rfl) rfl ?_
                    (refine r_op (o_pick_t rfl rfl rfl ?_); refine r_nil ?_; refine x_true rfl ?_; refine x_seq (x_region ?_); refine r_op (o_move rfl rfl ?_); refine r_op (o_add rfl rfl (add_i64 (by omega)) rfl ?_); refine r_op (o_assign rfl rfl ?_); refine r_nil ?_; refine x_exit rfl ?_; refine x_region ?_; refine r_op (o_move rfl rfl ?_); refine r_op (o_add rfl rfl (add_i64 (by omega)) rfl ?_); refine r_op (o_assign rfl rfl ?_); refine r_nil ?_)
                    refine x_weak (back ⟨t + 1, b2, d2, l, fl, ov + 1, al, cl⟩ ⟨by dsimp only; omega, hl, by dsimp only; omega, gone_cr hf hCa (hdk.mono (by omega)) (hG.imp fun b' hb' => hb'.imp fun T hT => hM.dup hT)⟩ (by dsimp only; omega)) (by (repeat' (first | exact trivial | refine ⟨rfl, ?_⟩))) Sub.h
                · intro td tail
                  (refine x_seq (x_region ?_); refine r_op (o_move rfl rfl ?_); refine r_op (o_add rfl rfl (add_i64 (by omega)) rfl ?_); refine r_op (o_fieldAddr rfl rfl ?_); refine r_op (o_load rfl rfl rfl rfl ?_); refine r_op (o_lenS rfl rfl ?_))
                  (refine r_op ?_)
                  refine o_lss rfl rfl rfl (fun h5 => ?_) (fun h5 => ?_)
                  · have ho1 : t + 1 < p.o.length := by omega
                    (refine r_op (o_move rfl rfl ?_); refine r_guard rfl (o_move rfl rfl ?_))
                    (refine r_guard rfl ?_)
                    refine o_lss rfl rfl rfl (fun h6 => ?_) (fun h6 => ?_)
                    · (refine r_op (o_pick_t rfl rfl rfl ?_); refine r_nil ?_; refine x_true rfl ?_; refine x_region ?_; refine r_op (o_move rfl rfl ?_); refine r_op (o_fieldAddr rfl rfl ?_); refine r_op (o_load rfl rfl rfl rfl ?_); refine r_op (o_move rfl rfl ?_); refine r_op (o_add rfl rfl (add_i64 (by omega)) rfl ?_))
                      (refine r_op ?_)
                      refine o_indexR rfl rfl R.o (j := t + 1) (by omega) ho1 rfl (fun b1 off ha => ?_)
                      (refine r_op ?_)
                      refine o_loadR rfl R.o ha (i := t + 1) (by omega) (mget iv ho1) rfl ?_
                      (refine r_op ?_)
                      refine o_call rfl (within_spec p.o[t + 1] 12 (by decide)) rfl ?_
                      rintro v B ⟨⟨u, rfl, hu0, hu1, -⟩, rfl⟩
                      obtain ⟨u, rfl⟩ : ∃ i : Nat, u = i := ⟨u.toNat, by omega⟩
                      (simp only [List.nil_append])
                      (refine r_op (o_add rfl rfl (add_i64 (by omega)) rfl ?_))
                      (refine r_op ?_)
                      refine o_call rfl (off_spec b2 (QD bs 0) (1 + u) (by omega)) rfl ?_
                      rintro v B ⟨rfl, rfl⟩
                      rw [show ((1 : Int) + u) = ((u + 1 : Nat) : Int) by omega, qd_power (by omega)]
                      (simp only [List.cons_append, List.nil_append])
                      (refine r_nil ?_)
                      refine x_weak (tail (u + 1) (fun _ => by omega)) (by (repeat' (first | exact trivial | refine ⟨rfl, ?_⟩))) Sub.h
                    · (refine r_op (o_pick_t rfl rfl rfl ?_); refine r_nil ?_; refine x_false rfl ?_; refine x_skip ?_)
                      refine x_weak (tail 0 (fun h => absurd rfl h)) (by (repeat' (first | exact trivial | refine ⟨rfl, ?_⟩))) Sub.h
                  · (refine r_op (o_move rfl rfl ?_); refine r_skip rfl rfl rfl ?_; refine r_skip rfl rfl rfl ?_; refine r_op (o_pick_f rfl rfl rfl ?_); refine r_nil ?_; refine x_false rfl ?_; refine x_skip ?_)
                    refine x_weak (tail 0 (fun h => absurd rfl h)) (by (repeat' (first | exact trivial | refine ⟨rfl, ?_⟩))) Sub.h
              · intro td tail
                (refine x_seq (x_region ?_); refine r_op (o_move rfl rfl ?_); refine r_op (o_fieldAddr rfl rfl ?_); refine r_op (o_load rfl rfl rfl rfl ?_); refine r_op (o_lenS rfl rfl ?_))
                (refine r_op ?_)
                refine o_lss rfl rfl rfl (fun h => ?_) (fun h => ?_)
                · have ht1 : t < p.l.length := by omega
                  (refine r_nil ?_; refine x_true rfl ?_; refine x_region ?_; refine r_op (o_fieldAddr rfl rfl ?_); refine r_op (o_load rfl rfl rfl rfl ?_); refine r_op (o_move rfl rfl ?_))
                  (refine r_op ?_)
                  refine o_indexR rfl rfl R.l.1 (j := t) rfl ht1 rfl (fun b1 off ha => ?_)
                  (refine r_op (o_fieldAddr rfl rfl ?_))
                  (refine r_op ?_)
                  refine o_loadR rfl R.l.1 ha (i := t * 4 + 3) (by omega) ((bx_get ht1 3 (by decide)).trans rfl) rfl ?_
                  (refine r_op (o_assign rfl rfl ?_); refine r_nil ?_)
                  refine x_weak (tail (p.l[t].pa, p.l[t].pc, p.l[t].ps) ⟨R.l.2 _ (List.getElem_mem _), (R.sb _ (List.getElem_mem _)).2, fun z hz => ((Fi.l _ (List.getElem_mem _)).2.2 z hz).2⟩) (by (repeat' (first | exact trivial | refine ⟨rfl, ?_⟩))) Sub.h
                · (refine r_nil ?_; refine x_false rfl ?_; refine x_skip ?_)
                  refine x_weak (tail (none, 0, []) ⟨reads_nil A 1, Nat.zero_le _, fun z hz => by cases hz⟩) (by (repeat' (first | exact trivial | refine ⟨rfl, ?_⟩))) Sub.h
            · (refine r_nil ?_; refine x_false rfl ?_; refine x_exit rfl ?_; refine x_seq (x_region ?_))
              (refine r_op ?_)
              refine o_call rfl wakes10_spec rfl ?_
              rintro v B ⟨rfl, rfl⟩
              (simp only [List.nil_append])
              (refine r_op (o_assign rfl rfl ?_); refine r_nil ?_)
              exact x_ret rfl [A] ⟨rfl, rfl⟩ Sub.h
          · intro td tail
            (refine x_seq (x_region ?_); refine r_op (o_move rfl rfl ?_))
            (refine r_op ?_)
            refine o_gtr rfl rfl rfl (fun h => ?_) (fun h => ?_)
            · obtain ⟨g1, g2, g3, g4, -⟩ := hd (by omega)
              (refine r_nil ?_; refine x_true rfl ?_; refine x_seq (x_region ?_); refine r_op (o_move rfl rfl ?_))
              (refine r_op ?_)
              refine o_call rfl (put_spec ps b sh d [] hCr.ok (by decide) (by omega) (by omega) (by simp)) rfl ?_
              rw [show sh.put d [] = (sh, d, 0, 14) by unfold Sh.put; rw [if_pos g1]]
              rintro v B ⟨rfl, rfl⟩
              (simp only [List.cons_append, List.nil_append])
              (refine r_op (o_move rfl rfl ?_); refine r_op (o_extract rfl rfl rfl ?_); refine r_op (o_extract rfl rfl rfl ?_); refine r_op (o_assign rfl rfl ?_); refine r_op (o_assign rfl rfl ?_); refine r_nil ?_; refine x_seq (x_region ?_); refine r_op (o_move rfl rfl ?_))
              (refine r_op ?_)
              refine o_call rfl (failed_spec ps b sh) rfl ?_
              rintro v B ⟨rfl, rfl⟩
              rw [g1]
              (simp only [List.cons_append, List.nil_append])
              (refine r_op (o_not rfl rfl ?_); refine r_op (o_move rfl rfl ?_); refine r_guard rfl (o_move rfl rfl ?_))
              (refine r_guard rfl ?_)
              refine o_call rfl (num10_spec 14) rfl ?_
              rintro v B ⟨rfl, rfl⟩
              (simp only [List.nil_append])
              (refine r_guard rfl (o_neq_f rfl rfl (by omega) rfl ?_); refine r_op (o_pick_f rfl rfl rfl ?_); refine r_op (o_move rfl rfl ?_); refine r_guard rfl (o_move rfl rfl ?_); refine r_guard rfl (o_move rfl rfl ?_))
              (refine r_guard rfl ?_)
              refine o_call rfl (texts_spec ps b sh (by omega)) rfl ?_
              rintro v B ⟨a5, c5, rfl, rfl⟩
              rw [texts_txts]
              (simp only [List.cons_append, List.nil_append])
              skip
              refine r_sl a5 fun _ hcap => ?_
              (refine r_guard rfl ?_)
              refine o_call rfl (bag_spec 0 (Sl.reads 1 al l.length cl (l.map tv) (by simp)) (Sl.reads 1 a5 _ c5 ((txts sh.es).map tv) (by simp)) hcap (by omega) (by rw [g4.length_eq]; omega)) rfl ?_
              rintro v B ⟨rfl, rfl⟩
              rw [show bagL l (txts sh.es) 0 = true from (near_perm g4).bag]
              (simp only [List.cons_append, List.nil_append])
              (refine r_guard rfl (o_not rfl rfl ?_); refine r_op (o_pick_f rfl rfl rfl ?_); refine r_nil ?_; refine x_false rfl ?_; refine x_skip ?_)
              refine x_weak (tail () trivial) (by (repeat' (first | exact trivial | refine ⟨rfl, ?_⟩))) Sub.h
            · (refine r_nil ?_; refine x_false rfl ?_; refine x_skip ?_)
              refine x_weak (tail () trivial) (by (repeat' (first | exact trivial | refine ⟨rfl, ?_⟩))) Sub.h
        · intro td tail
          (refine x_seq (x_region ?_); refine r_op (o_move rfl rfl ?_))
          (refine r_op ?_)
          refine o_eql rfl rfl rfl (fun h => ?_) (fun h => ?_)
          · obtain rfl : fl = 2 := by omega
            obtain ⟨-, -, -, -, g5, g6, g7⟩ := hd (by omega)
            (refine r_nil ?_; refine x_true rfl ?_; refine x_region ?_; refine r_op (o_move rfl rfl ?_); refine r_op (o_move rfl rfl ?_))
            refine r_sl al fun _ hcap => ?_
            (refine r_op ?_)
            refine o_call rfl (without_spec lost (Sl.reads 1 al l.length cl (l.map tv) (by simp)) hcap (by omega)) rfl ?_
            rintro v B (⟨hno, _⟩ | ⟨_, a6, c6, rfl, rfl⟩)
            · exact absurd (g6 rfl) hno
            (simp only [List.cons_append, List.nil_append])
            (refine r_op (o_assign rfl rfl ?_); refine r_nil ?_)
            have hel := List.length_erase_le (a := lost) (l := l)
            refine x_mem (Γ' := ShelfI ps b sh :: DiskI b d :: Sl 1 al l.length cl (l.map tv) :: Sl 1 a6 (l.erase lost).length c6 ((l.erase lost).map tv) :: A :: Row b0 0 p.cells :: Γ) Sub.h ?_
            refine x_weak (tail (l.erase lost, a6, c6) ⟨by dsimp only; omega, g7.imp fun T hT => by
              rcases hT with hT | ⟨h, _⟩ | ⟨_, hT⟩
              · exact ⟨.inl (near_perm hT), fun x hx => .inl (hT.mem_iff.1 hx)⟩
              · cases h
              · exact ⟨.inr ⟨rfl, near_perm hT⟩, fun x hx => .inr (hT.mem_iff.1 hx)⟩⟩) (by (repeat' (first | exact trivial | refine ⟨rfl, ?_⟩))) Sub.h
          · have hCr : mb.length ≤ 21 ∧ Cr f n (May (decide (fl ≠ 0)) l mb 0) d := by
              by_cases h0 : fl = 0
              · obtain ⟨bs, u, es, hc, -, hH, rfl, hp, -, rfl⟩ := ho h0
                exact ⟨Nat.zero_le _, qd_cr hc u hH.1 ⟨.inl (near_perm hp), fun x hx => .inl (hp.mem_iff.1 hx)⟩⟩
              · obtain ⟨-, -, -, -, g5, -, g7⟩ := hd h0
                refine ⟨g5, g7.imp fun T hT => ?_⟩
                rcases hT with hT | ⟨_, hT⟩ | ⟨e, _⟩
                · exact ⟨.inl (near_perm hT), fun x hx => .inl (hT.mem_iff.1 hx)⟩
                · exact ⟨.inr ⟨by simp [h0], near_perm hT⟩, fun x hx => .inr (hT.mem_iff.1 hx)⟩
                · omega
            (refine r_nil ?_; refine x_false rfl ?_; refine x_skip ?_)
            refine x_weak (tail (mb, am, cm) hCr) (by (repeat' (first | exact trivial | refine ⟨rfl, ?_⟩))) Sub.h
      · intro td tail
        (refine x_block ?_)
        refine x_loop (α := CS) (fun q => q.Ok f n) (fun q => [(1, dp b0), (3, .int .i64 f), (4, .int .i64 n), (5, dp b), (6, dp ps), (8, .slice q.al q.l.length q.cl), (9, .slice q.am q.mb.length q.cm), (10, tv q.lost), (11, .int .i64 q.fl), (12, .int .i64 q.i)])
          (fun q => ShelfI ps b q.sh :: DiskI b q.d :: Sl 1 q.al q.l.length q.cl (q.l.map tv) :: Sl 1 q.am q.mb.length q.cm (q.mb.map tv) :: A :: Row b0 0 p.cells :: Γ)
          (fun q => 20 - q.i) ⟨0, 0, ⟨f, n, [], false⟩, QD (List.replicate 8 []) u, [], [], [], none, 0, none, 0⟩
          ⟨Nat.zero_le _, Nat.zero_le _, fun _ => ⟨_, u, [], calm0, rfl, by rw [getD_0]; exact holds_nil (by omega), rfl, .refl _, Nat.le_refl _, rfl⟩, fun h => absurd rfl h, Nat.zero_le _⟩
          ⟨rfl, rfl, rfl, rfl, rfl, rfl, rfl, rfl, rfl, rfl, trivial⟩ (.refl _) ?_
        rintro ⟨i, fl, sh, d, l, mb, lost, al, cl, am, cm⟩ Q back
        obtain ⟨h20, hl, ho, hd, h2⟩ := Q
        dsimp only at h20 hl ho hd h2 back ⊢
        have Q : CS.Ok f n ⟨i, fl, sh, d, l, mb, lost, al, cl, am, cm⟩ := ⟨h20, hl, ho, hd, h2⟩
        (refine x_seq ?_; refine x_seq (x_region ?_); refine r_op (o_move rfl rfl ?_); refine r_op (o_fieldAddr rfl rfl ?_); refine r_op (o_load rfl rfl rfl rfl ?_); refine r_op (o_lenS rfl rfl ?_))
        (refine r_op ?_)
        refine o_lss rfl rfl rfl (fun h => ?_) (fun h => ?_)
        · have hi1 : i < p.l.length := by omega
          (refine r_op (o_move rfl rfl ?_); refine r_guard rfl (o_move rfl rfl ?_))
          (refine r_guard rfl ?_)
          refine o_lss rfl rfl rfl (fun h2 => ?_) (fun h2 => ?_)
          · (refine r_op (o_pick_t rfl rfl rfl ?_); refine r_op (o_move rfl rfl ?_); refine r_guard rfl (o_move rfl rfl ?_))
            (refine r_guard rfl ?_)
            refine o_eql rfl rfl rfl (fun h3 => ?_) (fun h3 => ?_)
            · obtain rfl : fl = 0 := by omega
              obtain ⟨bs, u, es, hc, rfl, hH, rfl, hp, hes, rfl⟩ := ho rfl
              obtain ⟨x, hx⟩ : ∃ x, p.l[i] = x := ⟨_, rfl⟩
              have Fx := Fi.l x (hx ▸ List.getElem_mem _)
              have Zx := R.sb x (hx ▸ List.getElem_mem _)
              (refine r_op (o_pick_t rfl rfl rfl ?_); refine r_nil ?_; refine x_true rfl ?_; refine x_skip ?_; refine x_seq ?_; refine x_block ?_; refine x_seq (x_region ?_); refine r_op (o_fieldAddr rfl rfl ?_); refine r_op (o_load rfl rfl rfl rfl ?_); refine r_op (o_move rfl rfl ?_))
              (refine r_op ?_)
              refine o_indexR rfl rfl R.l.1 (j := i) rfl hi1 rfl (fun b1 off ha => ?_)
              (refine r_op ?_)
              refine o_loadAR rfl R.l.1 ha (i := i * 4) (us := x.cells) (by omega) (BX.cl _) (bx_cell hi1 hx) rfl ?_
              (refine r_op ?_)
              refine o_alloc rfl (fun px => ?_)
              (refine r_do ?_)
              refine o_storeA rfl rfl rfl rfl rfl (Nat.le_refl 4) ?_
              refine r_mem (Γ' := Row px 0 x.cells :: ShelfI ps b ⟨f, n, es, false⟩ :: DiskI b (QD bs u) :: Sl 1 al l.length cl (l.map tv) :: Sl 1 am ([] : List Tx).length cm (([] : List Tx).map tv) :: A :: Row b0 0 p.cells :: Γ) (Ent.row_eq rfl _) ?_
              (refine r_nil ?_; refine x_seq ?_; refine x_seq (x_region ?_); refine r_op (o_fieldAddr rfl rfl ?_); refine r_op (o_load rfl rfl rfl rfl ?_))
              (refine r_op ?_)
              refine o_call rfl (within_spec x.k 8 (by decide)) rfl ?_
              rintro v B ⟨⟨w, rfl, hw0, hw1, -⟩, rfl⟩
              (simp only [List.nil_append])
              skip
              (refine r_op ?_)
              refine o_geq rfl rfl rfl (fun h4 => ?_) (fun h4 => ?_)
              · (refine r_nil ?_; refine x_true rfl ?_; refine x_seq (x_region ?_); refine r_op (o_move rfl rfl ?_))
                (refine r_op ?_)
                refine o_call rfl (entries_spec ps b 1000 ⟨f, n, es, false⟩ (by show es.length ≤ _; omega) (by decide)) rfl ?_
                rintro v B ⟨a5, c5, rfl, rfl⟩
                obtain ⟨L, hL⟩ : ∃ L, live 0 es = L := ⟨_, rfl⟩
                have hLl : L.length ≤ 20 := by have := live_len es 0; rw [hL] at this; omega
                dsimp only
                rw [hL, List.take_of_length_le (by omega)]
                have RL := Sl.reads 2 a5 L.length c5 (L.flatMap yv) (flen yv_cl L)
                (simp only [List.cons_append, List.nil_append])
                (refine r_op (o_assign rfl rfl ?_); refine r_nil ?_; refine x_seq ?_; refine x_seq (x_region ?_); refine r_op (o_move rfl rfl ?_); refine r_op (o_lenS rfl rfl ?_))
                (refine r_op ?_)
                refine o_eql rfl rfl rfl (fun h5 => ?_) (fun h5 => ?_)
                · (refine r_nil ?_; refine x_true rfl ?_; refine x_exit rfl ?_; refine x_region ?_; refine r_op (o_move rfl rfl ?_); refine r_op (o_add rfl rfl (add_i64 (by omega)) rfl ?_); refine r_op (o_assign rfl rfl ?_); refine r_nil ?_)
                  refine x_mem (Γ' := ShelfI ps b ⟨f, n, es, false⟩ :: DiskI b (QD bs u) :: Sl 1 al l.length cl (l.map tv) :: Sl 1 am ([] : List Tx).length cm (([] : List Tx).map tv) :: A :: Row b0 0 p.cells :: Γ) Sub.h ?_
                  refine x_weak (back ⟨i + 1, 0, ⟨f, n, es, false⟩, QD bs u, l, [], lost, al, cl, am, cm⟩ (CS.live (by omega) hc hH hp (by omega)) (by dsimp only; omega)) (by (repeat' (first | exact trivial | refine ⟨rfl, ?_⟩))) Sub.h
                · (refine r_nil ?_; refine x_false rfl ?_; refine x_skip ?_; refine x_seq (x_region ?_); refine r_op (o_move rfl rfl ?_); refine r_op (o_fieldAddr rfl rfl ?_); refine r_op (o_load rfl rfl rfl rfl ?_); refine r_op (o_move rfl rfl ?_); refine r_op (o_lenS rfl rfl ?_))
                  (refine r_op ?_)
                  refine o_call rfl (within_spec x.n L.length (by omega)) rfl ?_
                  rintro v B ⟨⟨j, rfl, hj0, hj1, -⟩, rfl⟩
                  obtain ⟨j, rfl⟩ : ∃ i : Nat, j = i := ⟨j.toNat, by omega⟩
                  have hj : j < L.length := by omega
                  (simp only [List.nil_append])
                  (refine r_op ?_)
                  refine o_indexR rfl rfl RL (j := j) rfl hj rfl (fun b2 off2 ha2 => ?_)
                  obtain ⟨y, hy⟩ : ∃ y, L[j] = y := ⟨_, rfl⟩
                  have hyL := live_at es 0 y (hL ▸ hy ▸ List.getElem_mem hj)
                  rw [Nat.sub_zero] at hyL
                  have hyl : y.2 ∈ l := by
                    refine hp.mem_iff.1 ?_
                    unfold txts
                    exact List.mem_filterMap.2 ⟨some y.2, List.mem_of_getElem? hyL.2, rfl⟩
                  (refine r_op ?_)
                  refine o_loadAR rfl RL ha2 (i := j * 2) (us := yv y) (by omega) (yv_cl _) (yv_cell hj hy) rfl ?_
                  (refine r_op ?_)
                  refine o_alloc rfl (fun pe => ?_)
                  (refine r_do ?_)
                  refine o_storeA rfl rfl rfl rfl rfl (Nat.le_refl 2) ?_
                  refine r_mem (Ent.row_eq (us := yv y) rfl _) ?_
                  (refine r_nil ?_; refine x_seq (x_region ?_); refine r_op (o_move rfl rfl ?_); refine r_op (o_fieldAddr rfl rfl ?_); refine r_op (o_load rfl rfl rfl rfl ?_))
                  (refine r_op ?_)
                  refine o_call rfl (del_spec ps b ⟨f, n, es, false⟩ (QD bs u) y.1 (qd_okn hc u) (by decide) (by show n ≤ _; omega) (by show es.length ≤ _; omega)) rfl ?_
                  rcases del_q hc u hf ⟨hn1, hn2⟩ rfl hH hyL.2 with ⟨u', e1, hH2⟩ | ⟨d', e1, hG⟩
                  · rw [e1]
                    rintro v B ⟨rfl, rfl⟩
                    (simp only [List.cons_append, List.nil_append])
                    (refine r_op ?_)
                    refine o_call rfl (num10_spec 0) rfl ?_
                    rintro v B ⟨rfl, rfl⟩
                    (simp only [List.nil_append])
                    (refine r_op (o_assign rfl rfl ?_); refine r_nil ?_; refine x_seq ?_; refine x_seq (x_region ?_); refine r_op (o_move rfl rfl ?_); refine r_op (o_eql_t rfl rfl (by omega) rfl ?_); refine r_nil ?_; refine x_true rfl ?_; refine x_region ?_; refine r_op (o_move rfl rfl ?_); refine r_op (o_fieldAddr rfl rfl ?_); refine r_op (o_load rfl rfl rfl rfl ?_))
                    refine r_sl al fun _ hcap => ?_
                    (refine r_op ?_)
                    refine o_call rfl (without_spec y.2 (Sl.reads 1 al l.length cl (l.map tv) (by simp)) hcap (by omega)) rfl ?_
                    rintro v B (⟨hno, _⟩ | ⟨_, a6, c6, rfl, rfl⟩)
                    · exact absurd hyl hno
                    (simp only [List.cons_append, List.nil_append])
                    (refine r_op (o_assign rfl rfl ?_); refine r_nil ?_; refine x_exit rfl ?_; refine x_region ?_; refine r_op (o_move rfl rfl ?_); refine r_op (o_add rfl rfl (add_i64 (by omega)) rfl ?_); refine r_op (o_assign rfl rfl ?_); refine r_nil ?_)
                    have hp2 : (txts (es.set y.1 none)).Perm (l.erase y.2) := by
                      have := ((txts_del hyL.2).trans hp).erase y.2
                      rwa [List.erase_cons_head] at this
                    refine x_mem (Γ' := ShelfI ps b ⟨f, n, es.set y.1 none, false⟩ :: DiskI b (QD (bs.set f (over (bs.getD f []) (y.1 * n) [0])) u') :: Sl 1 a6 (l.erase y.2).length c6 ((l.erase y.2).map tv) :: Sl 1 am ([] : List Tx).length cm (([] : List Tx).map tv) :: A :: Row b0 0 p.cells :: Γ) Sub.h ?_
                    refine x_weak (back ⟨i + 1, 0, ⟨f, n, es.set y.1 none, false⟩, QD (bs.set f (over (bs.getD f []) (y.1 * n) [0])) u', l.erase y.2, [], lost, a6, c6, am, cm⟩ (CS.live (by omega) (hc.set f (hH2.size ⟨hn1, hn2⟩)) (by rw [getD_set hc.h8 hf]; exact hH2) hp2 (by rw [List.length_set]; omega)) (by dsimp only; omega)) (by (repeat' (first | exact trivial | refine ⟨rfl, ?_⟩))) Sub.h
                  · rw [e1]
                    rintro v B ⟨rfl, rfl⟩
                    (simp only [List.cons_append, List.nil_append])
                    (refine r_op ?_)
                    refine o_call rfl (num10_spec 13) rfl ?_
                    rintro v B ⟨rfl, rfl⟩
                    (simp only [List.nil_append])
                    (refine r_op (o_assign rfl rfl ?_); refine r_nil ?_; refine x_seq ?_; refine x_seq (x_region ?_); refine r_op (o_move rfl rfl ?_); refine r_op (o_eql_f rfl rfl (by omega) rfl ?_); refine r_nil ?_; refine x_false rfl ?_; refine x_seq (x_region ?_); refine r_op (o_move rfl rfl ?_); refine r_op (o_neq_f rfl rfl (by omega) rfl ?_); refine r_nil ?_; refine x_false rfl ?_)
                    have hdk := (del_facts ⟨f, n, es, false⟩ (d := QD bs u) (y.1 : Int) (qd_okn hc u)).2.2
                    rw [e1] at hdk
                    refine x_script 0 [(0,false),(1,false),(2,false),(3,false)] [Row pe 0 (yv y)] mixed (by kernel_rfl) permF ?_
                    (refine s_v rfl (v_fieldAddr rfl) ?_; refine s_v rfl (v_load rfl rfl rfl) ?_; refine s_v rfl (v_assign rfl) ?_; refine s_v rfl (v_assign rfl) ?_)
                    refine s_end rfl ?_
                    (refine x_exit rfl ?_; refine x_region ?_; refine r_op (o_move rfl rfl ?_); refine r_op (o_add rfl rfl (add_i64 (by omega)) rfl ?_); refine r_op (o_assign rfl rfl ?_); refine r_nil ?_)
                    refine x_mem (Γ' := ShelfI ps b ⟨f, n, es, true⟩ :: DiskI b d' :: Sl 1 al l.length cl (l.map tv) :: Sl 1 am ([] : List Tx).length cm (([] : List Tx).map tv) :: A :: Row b0 0 p.cells :: Γ) Sub.h ?_
                    refine x_weak (back ⟨i + 1, 2, ⟨f, n, es, true⟩, d', l, [], y.2, al, cl, am, cm⟩ ⟨(by dsimp only; omega), hl, (fun h => by cases h), fun _ => ⟨rfl, by dsimp only; omega, rfl, hp, Nat.zero_le _, fun _ => hyl, gone_cr hf hc (hdk.mono (by omega)) (hG.imp fun b' hb' => hb'.imp fun T hT => by
                      rcases hT with hT | hT
                      · exact .inl (hT.trans hp)
                      · refine .inr (.inr ⟨rfl, ?_⟩)
                        have := (hT.trans hp).erase y.2
                        rwa [List.erase_cons_head] at this)⟩, Nat.le_refl _⟩ (by dsimp only; omega)) (by (repeat' (first | exact trivial | refine ⟨rfl, ?_⟩))) Sub.h
              · (refine r_nil ?_; refine x_false rfl ?_; refine x_skip ?_; refine x_seq ?_; refine x_seq (x_region ?_); refine r_op (o_fieldAddr rfl rfl ?_); refine r_op (o_load rfl rfl rfl rfl ?_); refine r_op (o_lenStr rfl rfl ?_))
                rw [bstr_size]
                (refine r_op ?_)
                refine o_add rfl rfl (add_i64 (by have := Zx.1; omega)) rfl ?_
                (refine r_op (o_move rfl rfl ?_))
                (refine r_op ?_)
                refine o_gtr rfl rfl rfl (fun h5 => ?_) (fun h5 => ?_)
                · (refine r_nil ?_; refine x_true rfl ?_; refine x_exit rfl ?_; refine x_region ?_; refine r_op (o_move rfl rfl ?_); refine r_op (o_add rfl rfl (add_i64 (by omega)) rfl ?_); refine r_op (o_assign rfl rfl ?_); refine r_nil ?_)
                  refine x_mem (Γ' := ShelfI ps b ⟨f, n, es, false⟩ :: DiskI b (QD bs u) :: Sl 1 al l.length cl (l.map tv) :: Sl 1 am ([] : List Tx).length cm (([] : List Tx).map tv) :: A :: Row b0 0 p.cells :: Γ) Sub.h ?_
                  refine x_weak (back ⟨i + 1, 0, ⟨f, n, es, false⟩, QD bs u, l, [], lost, al, cl, am, cm⟩ (CS.live (by omega) hc hH hp (by omega)) (by dsimp only; omega)) (by (repeat' (first | exact trivial | refine ⟨rfl, ?_⟩))) Sub.h
                · have ht : x.s.length + 16 ≤ n := by omega
                  have h128 : ff es < 128 := by have := ff_le es; omega
                  have hdk := (put_facts ⟨f, n, es, false⟩ (d := QD bs u) x.s (qd_okn hc u)).2.2
                  (refine r_nil ?_; refine x_false rfl ?_; refine x_skip ?_; refine x_seq (x_region ?_); refine r_op (o_move rfl rfl ?_); refine r_op (o_fieldAddr rfl rfl ?_); refine r_op (o_load rfl rfl rfl rfl ?_))
                  (refine r_op ?_)
                  refine o_call rfl (put_spec ps b ⟨f, n, es, false⟩ (QD bs u) x.s (qd_okn hc u) (by decide) (And.intro hn1 (by show n ≤ _; omega)) (by show es.length ≤ _; omega) (by omega)) rfl ?_
                  rcases put_q hc u hf ⟨hn1, hn2⟩ rfl hH ht h128 with ⟨u', e1, hH2⟩ | ⟨d', e1, hG⟩
                  · rw [e1]
                    rintro v B ⟨rfl, rfl⟩
                    (simp only [List.cons_append, List.nil_append])
                    (refine r_op (o_move rfl rfl ?_); refine r_op (o_extract rfl rfl rfl ?_); refine r_op (o_extract rfl rfl rfl ?_); refine r_op (o_assign rfl rfl ?_); refine r_op (o_assign rfl rfl ?_); refine r_nil ?_; refine x_seq (x_region ?_); refine r_op (o_move rfl rfl ?_))
                    (refine r_op ?_)
                    refine o_call rfl (num10_spec 0) rfl ?_
                    rintro v B ⟨rfl, rfl⟩
                    (simp only [List.nil_append])
                    (refine r_op (o_eql_t rfl rfl (by omega) rfl ?_); refine r_nil ?_; refine x_true rfl ?_; refine x_region ?_; refine r_op (o_move rfl rfl ?_); refine r_op (o_fieldAddr rfl rfl ?_); refine r_op (o_load rfl rfl rfl rfl ?_))
                    (refine r_op ?_)
                    refine o_buildSlice rfl (by rfl) (by rfl) (by rfl) (by rfl) rfl (fun a7 => ?_)
                    (refine r_op ?_)
                    refine o_appendT rfl rfl (by rfl) (by rfl) (by rfl) (by omega) rfl (fun a8 c8 hc8 => ?_)
                    rw [show l.map tv ++ [Value.string (bstr x.s)] = (l ++ [x.s]).map tv by rw [List.map_append]; rfl, show l.length + 1 = (l ++ [x.s]).length by simp]
                    (refine r_op (o_assign rfl rfl ?_); refine r_nil ?_; refine x_inBlock ?_; refine x_region ?_; refine r_op (o_move rfl rfl ?_); refine r_op (o_add rfl rfl (add_i64 (by omega)) rfl ?_); refine r_op (o_assign rfl rfl ?_); refine r_nil ?_)
                    have hpl : (putAt es (ff es) x.s).length ≤ i + 1 := by
                      rw [putAt_len (ff_le _)]; have := ff_le es; omega
                    have hp2 : (txts (putAt es (ff es) x.s)).Perm (l ++ [x.s]) := (txts_putAt.trans (hp.cons _)).trans (List.perm_append_comm (l₁ := [x.s]) (l₂ := l))
                    refine x_mem (Γ' := ShelfI ps b ⟨f, n, putAt es (ff es) x.s, false⟩ :: DiskI b (QD (bs.set f (laidB n (bs.getD f []) (ff es) x.s)) u') :: Sl 1 a8 (l ++ [x.s]).length c8 ((l ++ [x.s]).map tv) :: Sl 1 am ([] : List Tx).length cm (([] : List Tx).map tv) :: A :: Row b0 0 p.cells :: Γ) Sub.h ?_
                    refine x_weak (back ⟨i + 1, 0, ⟨f, n, putAt es (ff es) x.s, false⟩, QD (bs.set f (laidB n (bs.getD f []) (ff es) x.s)) u', l ++ [x.s], [], lost, a8, c8, am, cm⟩ (CS.live (by omega) (hc.set f (hH2.size ⟨hn1, hn2⟩)) (by rw [getD_set hc.h8 hf]; exact hH2) hp2 hpl) (by dsimp only; omega)) (by (repeat' (first | exact trivial | refine ⟨rfl, ?_⟩))) Sub.h
                  · rw [e1] at hdk ⊢
                    rintro v B ⟨rfl, rfl⟩
                    (simp only [List.cons_append, List.nil_append])
                    (refine r_op (o_move rfl rfl ?_); refine r_op (o_extract rfl rfl rfl ?_); refine r_op (o_extract rfl rfl rfl ?_); refine r_op (o_assign rfl rfl ?_); refine r_op (o_assign rfl rfl ?_); refine r_nil ?_; refine x_seq (x_region ?_); refine r_op (o_move rfl rfl ?_))
                    (refine r_op ?_)
                    refine o_call rfl (num10_spec 13) rfl ?_
                    rintro v B ⟨rfl, rfl⟩
                    (simp only [List.nil_append])
                    (refine r_op (o_eql_f rfl rfl (by omega) rfl ?_); refine r_nil ?_; refine x_false rfl ?_; refine x_seq (x_region ?_); refine r_op (o_move rfl rfl ?_))
                    (refine r_op ?_)
                    refine o_call rfl (num10_spec 13) rfl ?_
                    rintro v B ⟨rfl, rfl⟩
                    (simp only [List.nil_append])
                    (refine r_op (o_neq_f rfl rfl (by omega) rfl ?_); refine r_nil ?_; refine x_false rfl ?_; refine x_seq (x_region ?_); refine r_op (o_assign rfl rfl ?_); refine r_nil ?_)
                    have Ok2 : ∀ (am' : Option Addr) (cm' : Nat), CS.Ok f n ⟨i + 1, 1, ⟨f, n, es, true⟩, d', l, l ++ [x.s], lost, al, cl, am', cm'⟩ := fun am' cm' =>
                      ⟨(by dsimp only; omega), hl, (fun h => by cases h), fun _ => ⟨rfl, (by dsimp only; omega), rfl, hp, (by simp; omega), (fun h => by cases h), gone_cr hf hc (hdk.mono (by omega)) (hG.imp fun b' hb' => hb'.imp fun T hT => by
                        rcases hT with hT | hT
                        · exact .inl (hT.trans hp)
                        · exact .inr (.inl ⟨rfl, (hT.trans (hp.cons _)).trans (List.perm_append_comm (l₁ := [x.s]) (l₂ := l))⟩))⟩, (by dsimp only; omega)⟩
                    have SC := copyStr_spec (c := cl) (Sl.reads 1 al l.length cl (l.map tv) (by simp)) (by omega)
                    refine x_scriptT 6 [1, 4, 5] (.look 0 (.look 2 (.look 3 (.alt (.act 1 (.act 4 (.act 5 (.look 6 .nil)))) (.act 4 (.act 1 (.act 5 (.look 6 .nil)))))))) [Sl 1 al l.length cl (l.map tv), Row px 0 x.cells] mixed (by kernel_rfl) permF ?_
                    refine t_v rfl (v_move rfl) ?_
                    refine t_v rfl (v_fieldAddr rfl) ?_
                    refine t_v rfl (v_load rfl rfl rfl) ?_
                    refine t_alt ?_ ?_
                    · refine t_x rfl (o_call rfl SC rfl ?_)
                      rintro v B ⟨a7, c7, rfl, rfl⟩
                      refine ⟨permF, ?_⟩
                      (simp only [List.cons_append, List.nil_append])
                      refine t_x rfl (o_buildSlice rfl (by rfl) (by rfl) (by rfl) (by rfl) rfl (fun a8 => ?_))
                      refine ⟨permF, ?_⟩
                      refine t_x rfl (o_appendT rfl rfl (by rfl) (by rfl) (by rfl) (by omega) rfl (fun a9 c9 hc9 => ?_))
                      refine ⟨permF, ?_⟩
                      refine t_v rfl (v_assign rfl) ?_
                      refine t_end rfl ?_
                      (refine x_inBlock ?_; refine x_region ?_; refine r_op (o_move rfl rfl ?_); refine r_op (o_add rfl rfl (add_i64 (by omega)) rfl ?_); refine r_op (o_assign rfl rfl ?_); refine r_nil ?_)
                      rw [show l.map tv ++ [tv x.s] = (l ++ [x.s]).map tv by rw [List.map_append]; rfl, show l.length + 1 = (l ++ [x.s]).length by simp]
                      refine x_mem (Γ' := ShelfI ps b ⟨f, n, es, true⟩ :: DiskI b d' :: Sl 1 al l.length cl (l.map tv) :: Sl 1 a9 (l ++ [x.s]).length c9 ((l ++ [x.s]).map tv) :: A :: Row b0 0 p.cells :: Γ) Sub.h ?_
                      refine x_weak (back ⟨i + 1, 1, ⟨f, n, es, true⟩, d', l, l ++ [x.s], lost, al, cl, a9, c9⟩ (Ok2 a9 c9) (by dsimp only; omega)) (by (repeat' (first | exact trivial | refine ⟨rfl, ?_⟩))) Sub.h
                    · refine t_x rfl (o_buildSlice rfl (by rfl) (by rfl) (by rfl) (by rfl) rfl (fun a8 => ?_))
                      refine ⟨permF, ?_⟩
                      refine t_x rfl (o_call rfl SC rfl ?_)
                      rintro v B ⟨a7, c7, rfl, rfl⟩
                      refine ⟨permF, ?_⟩
                      (simp only [List.cons_append, List.nil_append])
                      refine t_x rfl (o_appendT rfl rfl (by rfl) (by rfl) (by rfl) (by omega) rfl (fun a9 c9 hc9 => ?_))
                      refine ⟨permF, ?_⟩
                      refine t_v rfl (v_assign rfl) ?_
                      refine t_end rfl ?_
                      (refine x_inBlock ?_; refine x_region ?_; refine r_op (o_move rfl rfl ?_); refine r_op (o_add rfl rfl (add_i64 (by omega)) rfl ?_); refine r_op (o_assign rfl rfl ?_); refine r_nil ?_)
                      rw [show l.map tv ++ [tv x.s] = (l ++ [x.s]).map tv by rw [List.map_append]; rfl, show l.length + 1 = (l ++ [x.s]).length by simp]
                      refine x_mem (Γ' := ShelfI ps b ⟨f, n, es, true⟩ :: DiskI b d' :: Sl 1 al l.length cl (l.map tv) :: Sl 1 a9 (l ++ [x.s]).length c9 ((l ++ [x.s]).map tv) :: A :: Row b0 0 p.cells :: Γ) Sub.h ?_
                      refine x_weak (back ⟨i + 1, 1, ⟨f, n, es, true⟩, d', l, l ++ [x.s], lost, al, cl, a9, c9⟩ (Ok2 a9 c9) (by dsimp only; omega)) (by (repeat' (first | exact trivial | refine ⟨rfl, ?_⟩))) Sub.h
            · (refine r_op (o_pick_t rfl rfl rfl ?_); refine r_nil ?_; refine x_false rfl ?_; refine x_exit rfl ?_)
              refine x_weak (tail ⟨i, fl, sh, d, l, mb, lost, al, cl, am, cm⟩ Q) (by (repeat' (first | exact trivial | refine ⟨rfl, ?_⟩))) Sub.h
          · (refine r_op (o_pick_t rfl rfl rfl ?_); refine r_op (o_move rfl rfl ?_); refine r_skip rfl rfl rfl ?_; refine r_skip rfl rfl rfl ?_; refine r_op (o_pick_f rfl rfl rfl ?_); refine r_nil ?_; refine x_false rfl ?_; refine x_exit rfl ?_)
            refine x_weak (tail ⟨i, fl, sh, d, l, mb, lost, al, cl, am, cm⟩ Q) (by (repeat' (first | exact trivial | refine ⟨rfl, ?_⟩))) Sub.h
        · (refine r_op (o_move rfl rfl ?_); refine r_skip rfl rfl rfl ?_; refine r_skip rfl rfl rfl ?_; refine r_op (o_pick_f rfl rfl rfl ?_); refine r_op (o_move rfl rfl ?_); refine r_skip rfl rfl rfl ?_; refine r_skip rfl rfl rfl ?_; refine r_op (o_pick_f rfl rfl rfl ?_); refine r_nil ?_; refine x_false rfl ?_; refine x_exit rfl ?_)
          refine x_weak (tail ⟨i, fl, sh, d, l, mb, lost, al, cl, am, cm⟩ Q) (by (repeat' (first | exact trivial | refine ⟨rfl, ?_⟩))) Sub.h
    · intro td tail
      (refine x_seq (x_region ?_); refine r_op (o_fieldAddr rfl rfl ?_); refine r_op (o_load rfl rfl rfl rfl ?_); refine r_op (o_lenS rfl rfl ?_))
      (refine r_op ?_)
      refine o_gtr rfl rfl rfl (fun h => ?_) (fun h => ?_)
      · have ho : 0 < p.o.length := by omega
        (refine r_nil ?_; refine x_true rfl ?_; refine x_region ?_; refine r_op (o_move rfl rfl ?_); refine r_op (o_fieldAddr rfl rfl ?_); refine r_op (o_load rfl rfl rfl rfl ?_))
        (refine r_op ?_)
        refine o_indexR rfl rfl R.o (j := 0) rfl ho rfl (fun b1 off ha => ?_)
        (refine r_op ?_)
        refine o_loadR rfl R.o ha (i := 0) (by omega) (mget iv ho) rfl ?_
        (refine r_op ?_)
        refine o_call rfl (within_spec p.o[0] 40 (by decide)) rfl ?_
        rintro v B ⟨⟨u, rfl, hu0, hu1, -⟩, rfl⟩
        obtain ⟨u, rfl⟩ : ∃ i : Nat, u = i := ⟨u.toNat, by omega⟩
        (simp only [List.nil_append])
        (refine r_op (o_add rfl rfl (add_i64 (by omega)) rfl ?_))
        (refine r_op ?_)
        refine o_call rfl (off_spec b (QD (List.replicate 8 []) 0) (1 + u) (by omega)) rfl ?_
        rintro v B ⟨rfl, rfl⟩
        rw [show ((1 : Int) + u) = ((u + 1 : Nat) : Int) by omega, qd_power (by omega)]
        (simp only [List.cons_append, List.nil_append])
        (refine r_nil ?_)
        refine x_weak (tail (u + 1) trivial) (by (repeat' (first | exact trivial | refine ⟨rfl, ?_⟩))) Sub.h
      · (refine r_nil ?_; refine x_false rfl ?_; refine x_skip ?_)
        refine x_weak (tail 0 trivial) (by (repeat' (first | exact trivial | refine ⟨rfl, ?_⟩))) Sub.h
  · (refine r_nil ?_; refine x_true rfl ?_; refine x_seq (x_region ?_); refine r_op (o_assign rfl rfl ?_); refine r_nil ?_)
    exact x_ret rfl [A] ⟨rfl, rfl⟩ Sub.h
end Go.Proofs.Ythneebbmodkjiaa
