/- Part of a proof over the seat YtacfncmndodlpaaGreat. Its claim's last module says what is proved. -/
import Derived.Calls
import Derived.AtR
import Derived.Below
import Derived.KernelRfl
import Derived.Laws.Bits
import Derived.RowKit
import Derived.Laws.Strings
import Derived.Laws.BytesString
import Derived.Laws.Concat
set_option linter.all false
set_option maxHeartbeats 12800000
namespace Go.Proofs.YtacfncmndodlpaaGreat
universe u
section
theorem bc{α:Type u}{l:List α}{i:Nat}(h:i<l.length):∃x,l[i]? =some x:=⟨_,List.getElem?_eq_getElem h⟩
abbrev za:=@List.getElem?_eq_getElem
abbrev zb:=@Char.ofNat
abbrev zc:=@List.mem_of_getElem?
abbrev zd:=@List.length_append
abbrev ze:=@List.getD_eq_getElem?_getD
abbrev zf:=@List.getElem?_map
abbrev zg:=@List.map_append
abbrev zh:=@Bool.and_eq_true
abbrev zj:=@Nat.zero_le
abbrev zk:=@List.getElem?_of_mem
abbrev zl:=@List.cons_append
abbrev zm:=@List.length_map
abbrev zn:=@Nat.mul_le_mul_right
abbrev zo:=@List.take_of_length_le
abbrev zp:=@List.take_add_one
abbrev zq:=@Nat.le_refl
abbrev zr:=@List.append_assoc
abbrev zt:=@List.getElem?_append_left
abbrev zu:=@List.take_length
abbrev zw:=@List.length_take
abbrev zy:=@List.length_cons
abbrev zz:=@List.getElem?_append_right
abbrev zA:=@Nat.add_mul
abbrev zB:=@List.nil_append
abbrev zC:=@List.length_singleton
abbrev zD:=@Option.some.inj
abbrev zE:=@List.map_cons
abbrev zF:=@List.append_nil
abbrev zG:=@List.take_append_drop
abbrev zH:=@List.length_set
abbrev zI:=@Classical.byContradiction
abbrev zJ:=@Nat.eq_of_beq_eq_true
abbrev zK:=@List.mem_append_left
abbrev zL:=@List.mem_append
abbrev zM:=@Bool.or_eq_true
abbrev zN:=@Nat.blt_eq
abbrev zO:=@Nat.zero_add
abbrev zP:=@List.mem_cons_of_mem
abbrev zQ:=@List.length_drop
abbrev zR:=@List.map_map
abbrev zS:=@Nat.add_sub_cancel_left
abbrev zT:=@List.flatMap_cons
abbrev zU:=@List.drop_eq_nil_of_le
abbrev zV:=@Int.toNat_natCast
abbrev zW:=@List.drop_eq_getElem_cons
abbrev zX:=@Nat.le_of_ble_eq_true
abbrev zY:=@Nat.mul_comm
abbrev zZ:=@List.take_append_of_le_length
abbrev z9:=@Nat.le_trans
abbrev zaa:=@Option.toList_some
abbrev zab:=@List.nodup_append
abbrev zac:=@List.perm_append_comm
abbrev zad:=@Option.map_eq_some_iff
abbrev zae:=@List.getElem?_set
abbrev zaf:=@Nat.mod_eq_of_lt
abbrev zag:=@List.mem_or_eq_of_mem_set
abbrev zah:=@List.map_congr_left
abbrev zai:=@Nat.pow_le_pow_right
abbrev zaj:=@Nat.mul_one
abbrev zak:=@List.map_set
abbrev zal:=@List.map_nil
abbrev zam:=@List.getElem?_eq_none
abbrev zan:=@Array.getElem?_eq_getElem
abbrev zao:=@List.getElem?_take_of_lt
abbrev zap:=@List.getElem_mem
abbrev zaq:=@Nat.mul_left_comm
abbrev zar:=@List.getElem?_drop
abbrev zas:=@Nat.pow_succ
abbrev zat:=@Nat.min_eq_left
abbrev zau:=@List.perm_middle
abbrev zav:=@Int.natCast_mul
abbrev zaw:=@Nat.lt_of_lt_of_le
abbrev zax:=@Nat.add_assoc
abbrev zay:=@List.mem_cons_self
abbrev zaz:=@Array.getD_eq_getD_getElem?
abbrev zaA:=@Nat.mul_le_mul_left
abbrev zaB:=@List.mem_map_of_mem
abbrev zaC:=@List.flatMap_append
abbrev zaD:=@List.mem_of_mem_take
abbrev zaE:=@List.drop_append_of_le_length
abbrev zaF:=@Nat.add_comm
abbrev zaG:=@List.mem_append_right
abbrev zaH:=@List.filter_cons_of_pos
abbrev zaI:=@Nat.lt_of_le_of_lt
abbrev zaJ:=@List.set_cons_succ
abbrev zaK:=@List.getElem?_set_ne
abbrev zaL:=@List.take_left'
abbrev zaM:=@List.map_take
abbrev zaN:=@List.foldl_cons
abbrev zaO:=@Nat.div_eq_of_lt
abbrev zaP:=@List.drop_of_length_le
abbrev zaQ:=@List.all_eq_true
abbrev zaR:=@List.length_filter_le
abbrev zaS:=@List.drop_drop
abbrev zaT:=@List.length_nil
abbrev zaU:=@Nat.div_lt_of_lt_mul
abbrev zaV:=@List.getElem?_replicate
abbrev zaW:=@List.getElem?_cons_zero
abbrev zaX:=@List.getElem?_cons_succ
abbrev zaY:=@Bool.or_eq_false_iff
abbrev zaZ:=@Nat.mul_le_mul
abbrev za0:=@Nat.mod_lt
abbrev za1:=@List.take_succ_eq_append_getElem
abbrev za2:=@List.length_range
abbrev za3:=@List.getElem?_range
abbrev za4:=@Nat.pow_mul
abbrev za5:=@List.pairwise_iff_getElem
abbrev za6:=@List.set_append_right
abbrev za7:=@Nat.lt_succ_self
abbrev za8:=@Nat.le_add_right
abbrev za9:=@Nat.ble_eq
abbrev zba:=@Nat.and_two_pow_sub_one_eq_mod
abbrev zbb:=@List.getElem?_take
abbrev zbc:=@List.filter_append
abbrev zbd:=@Nat.mul_assoc
abbrev zbe:=@List.mem_cons
abbrev zbf:=@List.mem_of_mem_drop
abbrev zbg:=@List.getElem?_inj
abbrev zbh:=@List.filter_cons_of_neg
abbrev zbi:=@List.cons.injEq
abbrev zbj:=@List.all_append
abbrev zbk:=@Array.getElem?_setIfInBounds
abbrev zbl:=@List.replicate_succ
abbrev zbm:=@Nat.div_div_eq_div_mul
abbrev zbn:=@Nat.le_of_not_lt
abbrev zbo:=@List.flatMap_nil
abbrev zbp:=@UInt8.toNat_lt
abbrev zbq:=@List.take_zero
abbrev zbr:=@List.mem_singleton
abbrev zbs:=@List.countP_append
abbrev zbt:=@Int.fdiv_eq_ediv_of_nonneg
abbrev zbu:=@Array.mapM_eq_mapM_toList
abbrev zbv:=@Nat.div_le_self
abbrev zbw:=@Nat.zero_mul
abbrev zbx:=@Nat.add_zero
abbrev zby:=@List.set_set
abbrev zbz:=@Bool.not_eq_true'
abbrev zbA:=@List.getElem_append_left
abbrev zbB:=@List.ext_getElem
abbrev zbC:=@List.drop_left
abbrev zbD:=@List.drop_append
abbrev zbE:=@Nat.pow_pos
abbrev zbF:=@Nat.pow_add
abbrev zbG:=@Nat.mul_add
abbrev zbH:=@List.filter_eq_nil_iff
abbrev zbI:=@List.sum_append
abbrev zbJ:=@List.range_succ
abbrev zbK:=@List.drop_left'
abbrev zbL:=@List.sum_cons
abbrev zbM:=@List.map_drop
abbrev zbN:=@Nat.two_pow_add_eq_or_of_lt
abbrev zbO:=@List.foldl_append
abbrev zbP:=@List.ext_getElem?
abbrev zbQ:=@Prod.mk.inj
abbrev zbR:=@Nat.one_mul
abbrev zbS:=@Nat.add_mul_div_left
abbrev zbT:=@List.take_left
abbrev zbU:=@List.mapM_cons
abbrev zbV:=@List.getElem?_mapIdx
abbrev zbW:=@Array.ext'
abbrev zbX:=@Nat.sub_self
abbrev zbY:=@List.mem_map
abbrev zbZ:=@List.getElem_set
abbrev zb0:=@List.drop_length
abbrev zb1:=@List.replicate_zero
abbrev zb2:=@List.Sublist.append_left
abbrev zb3:=@Option.map_some
abbrev zb4:=@Ne.symm
abbrev zb5:=@List.nodup_cons
abbrev zb6:=@Nat.xor_lt_two_pow
abbrev zb7:=@Nat.lt_or_gt_of_ne
abbrev zb8:=@List.getElem_range
abbrev zb9:=@Bool.false_eq_true
abbrev zca:=@List.eraseIdx_cons_succ
abbrev zcb:=@Nat.or_lt_two_pow
abbrev zcc:=@Nat.mul_zero
abbrev zcd:=@List.take_take
abbrev zce:=@List.flatten_cons
abbrev zcf:=@ByteArray.data_extract
end
section
open Go.RowKit
inductive pW where
 |own (v:Value)
 |obj (o:Obj)
abbrev PH:=Nat→Option Nat→Option pW
abbrev HP:=PH→Prop
def PH.fh(h k:PH):Prop:=∀b x y,h b x≠none→k b y≠none→x≠y∧x≠none∧y≠none
def PH.join(h k:PH):PH:=fun b x=>(h b x).or (k b x)
def PH.emp:PH:=fun _ _=>none
theorem PH.fh.symm{h k:PH}(d:h.fh k):k.fh h:=fun b x y hx hy=>let ⟨a,c,e⟩:=d b y x hy hx;⟨zb4 a,e,c⟩
theorem PH.join_comm{h k:PH}(d:h.fh k):h.join k=k.join h:=by
 funext b x;unfold PH.join;cases h1:h b x with
 |none=>simp
 |some e=>
  cases h2:k b x with
  |none=>simp
  |some f=>exact absurd rfl (d b x x (by simp[h1]) (by simp[h2])).1
theorem PH.join_assoc(h k l:PH):(h.join k).join l=h.join (k.join l):=by
 funext b x;simp[PH.join,Option.or_assoc]
theorem PH.QX(h:PH):h.join PH.emp=h:=by funext b x;simp[PH.join,PH.emp]
theorem PH.yA(h:PH):PH.emp.join h=h:=by funext b x;simp[PH.join,PH.emp]
theorem PH.Cc(h:PH):PH.emp.fh h:=fun _ _ _ hx _=>absurd rfl hx
theorem PH.JQ(h:PH):h.fh PH.emp:=fun _ _ _ _ hx=>absurd rfl hx
theorem PH.QY{h k:PH}{b:Nat}{x:Option Nat}(hx:h.join k b x≠none):h b x≠none∨k b x≠none:=by
 unfold PH.join at hx;cases h1:h b x with
 |none=>right;simpa[h1]using hx
 |some e=>left;simp
theorem PH.QZ{h k:PH}{b:Nat}{x:Option Nat}(hx:h b x≠none):h.join k b x≠none:=by
 unfold PH.join;cases h1:h b x with
 |none=>exact absurd h1 hx
 |some e=>simp
theorem PH.Q0{h k:PH}{b:Nat}{x:Option Nat}(hx:k b x≠none):h.join k b x≠none:=by
 unfold PH.join;cases h1:h b x with
 |none=>simpa using hx
 |some e=>simp
theorem PH.oj{h k l:PH}:h.fh (k.join l)↔h.fh k∧h.fh l:=
 ⟨fun d=>⟨fun b x y hx hy=>d b x y hx (PH.QZ hy),fun b x y hx hy=>d b x y hx (PH.Q0 hy)⟩,
  fun ⟨d,e⟩ b x y hx hy=>(PH.QY hy).elim (d b x y hx) (e b x y hx)⟩
theorem PH.sB{h k l:PH}:(h.join k).fh l↔h.fh l∧k.fh l:=
 ⟨fun d=>let ⟨a,b⟩:=PH.oj.1 d.symm;⟨a.symm,b.symm⟩,fun ⟨a,b⟩=>(PH.oj.2 ⟨a.symm,b.symm⟩).symm⟩
def Sat:List HP→PH→Prop
 |[],h=>h=PH.emp
 |A::Γ,h=>∃h1 h2,A h1∧Sat Γ h2∧h1.fh h2∧h=h1.join h2
theorem Sat.append{Γ Δ:List HP}{h:PH}:Sat (Γ++Δ) h↔∃h1 h2,Sat Γ h1∧Sat Δ h2∧h1.fh h2∧h=h1.join h2:=by
 induction Γ generalizing h with
 |nil=>exact⟨fun s=>⟨_,h,rfl,s,PH.Cc h,(PH.yA h).symm⟩,fun ⟨h1,h2,e,s,_,hh⟩=>by
  cases e;rw[hh,PH.yA];exact s⟩
 |cons A Γ ih=>
  constructor
  ·rintro⟨a,r,hA,hr,d,rfl⟩;obtain⟨g,k,hg,hk,d2,rfl⟩:=ih.1 hr;obtain⟨d3,d4⟩:=PH.oj.1 d;exact⟨a.join g,k,⟨a,g,hA,hg,d3,rfl⟩,hk,PH.sB.2 ⟨d4,d2⟩,(PH.join_assoc a g k).symm⟩
  ·rintro⟨ag,k,⟨a,g,hA,hg,d3,rfl⟩,hk,d,rfl⟩;obtain⟨d4,d2⟩:=PH.sB.1 d;exact⟨a,g.join k,hA,ih.2 ⟨g,k,hg,hk,d2,rfl⟩,PH.oj.2 ⟨d3,d4⟩,PH.join_assoc a g k⟩
theorem Sat.perm{Γ Δ:List HP}(p:Γ.Perm Δ):∀{h:PH},Sat Γ h→Sat Δ h:=by
 induction p with
 |nil=>exact id
 |cons A _ ih=>rintro h ⟨a,r,hA,hr,d,e⟩;exact⟨a,r,hA,ih hr,d,e⟩
 |swap A B Γ=>
  rintro h ⟨b,r,hB,⟨a,g,hA,hg,d,rfl⟩,d2,rfl⟩;obtain⟨d3,d4⟩:=PH.oj.1 d2;exact⟨a,b.join g,hA,⟨b,g,hB,hg,d4,rfl⟩,PH.oj.2 ⟨d3.symm,d⟩,by
   rw[←PH.join_assoc,PH.join_comm d3,PH.join_assoc]⟩
 |trans _ _ i1 i2=>exact fun s=>i2 (i1 s)
def Fs(w:World)(b:Nat):Option Nat→pW→Prop
 |some o,.own v=>w.cell? ⟨b,o,none⟩=some v∧w.frozen? ⟨b,o,none⟩=false
 |none,.obj o=>w.heap[b]? =some o
 |_,_=>False
def Wd(h:PH)(w:World):Prop:=∀b x e,h b x=some e→Fs w b x e
theorem Fs.lt{w:World}{b:Nat}{x:Option Nat}{e:pW}(h:Fs w b x e):b<w.heap.size:=by
 cases x with
 |some o=>cases e with
  |own v=>exact World.block_lt_of_cell? w ⟨b,o,none⟩ h.1
  |obj o=>exact h.elim
 |none=>cases e with
  |own v=>exact h.elim
  |obj o=>exact(Array.getElem?_eq_some_iff.1 h).1
theorem Wd.left{h k:PH}{w:World}(H:Wd (h.join k) w):Wd h w:=fun b x e he=>H b x e (by simp[PH.join,he])
theorem Wd.right{h k:PH}{w:World}(d:h.fh k)(H:Wd (h.join k) w):Wd k w:=Wd.left (PH.join_comm d ▸ H)
structure Env where
 os:Os
 tape:Nat→Question→Nat
 output:Array (Nat×ByteArray)
 deriving Inhabited
def Env.of(w:World):Env:=⟨w.os,w.tape,w.output⟩
def Env.ok(E:Env)(w:World):Prop:=w.os=E.os∧w.tape=E.tape∧w.output=E.output
def St(E:Env)(Γ:List HP)(w:World):Prop:=E.ok w∧∃h,Sat Γ h∧Wd h w
theorem St.perm{E:Env}{Γ Δ:List HP}{w:World}(p:Γ.Perm Δ)(s:St E Γ w):St E Δ w:=
 let ⟨e,h,a,b⟩:=s;⟨e,h,a.perm p,b⟩
theorem St.drop{E:Env}{A:HP}{Γ:List HP}{w:World}(s:St E (A::Γ) w):St E Γ w:=by
 obtain⟨e,h,⟨a,r,_,hr,d,rfl⟩,b⟩:=s;exact⟨e,r,hr,b.right d⟩
theorem St.drew{E:Env}{Γ:List HP}{w:World}(s:St E Γ w):St E Γ w.drew:=by
 obtain⟨e,h,a,b⟩:=s;refine⟨e,h,a,fun k x f hk=>?_⟩;have:=b k x f hk;cases x<;>cases f<;>exact this
def ak(Γ Δ:List HP):Prop:=∀h,Sat Γ h→∃g,Sat Δ g∧∀b x e,g b x=some e→h b x=some e
theorem ak.refl(Γ:List HP):ak Γ Γ:=fun h s=>⟨h,s,fun _ _ _ x=>x⟩
theorem ak.trans{Γ Δ Θ:List HP}(p:ak Γ Δ)(q:ak Δ Θ):ak Γ Θ:=fun h s=>
 let ⟨g,sg,hg⟩:=p h s;let ⟨k,sk,hk⟩:=q g sg;⟨k,sk,fun b x e he=>hg b x e (hk b x e he)⟩
theorem ak.perm{Γ Δ:List HP}(p:Γ.Perm Δ):ak Γ Δ:=fun h s=>⟨h,s.perm p,fun _ _ _ x=>x⟩
theorem ak.drop(A:HP)(Γ:List HP):ak (A::Γ) Γ:=by
 rintro h ⟨a,r,_,hr,d,rfl⟩;refine⟨r,hr,fun b x e he=>?_⟩;rw[PH.join_comm d];simp[PH.join,he]
theorem PH.fh.sub{h k g:PH}(d:h.fh k)(s:∀b x e,g b x=some e→k b x=some e):h.fh g:=fun b x y hx hy=>by
 obtain⟨e,he⟩:=Option.ne_none_iff_exists'.1 hy;exact d b x y hx (by rw[s b y e he];simp)
theorem ak.cons(A:HP){Γ Δ:List HP}(p:ak Γ Δ):ak (A::Γ) (A::Δ):=by
 rintro h ⟨a,r,hA,hr,d,rfl⟩;obtain⟨g,sg,hg⟩:=p r hr;refine⟨a.join g,⟨a,g,hA,sg,d.sub hg,rfl⟩,fun b x e he=>?_⟩;unfold PH.join at he⊢;cases h1:a b x with
 |some f=>simpa[h1]using he
 |none=>simp[h1]at he;simp[hg b x e he]
theorem ak.append(Θ:List HP){Γ Δ:List HP}(p:ak Γ Δ):ak (Θ++Γ) (Θ++Δ):=by
 induction Θ with
 |nil=>exact p
 |cons A Θ ih=>exact ih.cons A
theorem ak.frame{Γ Δ:List HP}(p:ak Γ Δ)(Θ:List HP):ak (Γ++Θ) (Δ++Θ):=
 (ak.perm zac).trans ((p.append Θ).trans (ak.perm zac))
theorem ak.st{Γ Δ:List HP}(p:ak Γ Δ){E:Env}{w:World}(s:St E Γ w):St E Δ w:=
 let ⟨e,h,a,b⟩:=s;let ⟨g,sg,hg⟩:=p h a;⟨e,g,sg,fun k x f hk=>b k x f (hg k x f hk)⟩
theorem ak.one{A B:HP}(p:∀h,A h→B h)(Γ:List HP):ak (A::Γ) (B::Γ):=by
 rintro h ⟨a,r,hA,hr,d,rfl⟩;exact⟨_,⟨a,r,p a hA,hr,d,rfl⟩,fun _ _ _ x=>x⟩
def Sep(l:List HP):HP:=Sat l
theorem ak.cx(l Γ:List HP):ak (Sep l::Γ) (l++Γ):=by
 rintro h ⟨a,r,hA,hr,d,rfl⟩;exact⟨_,Sat.append.2 ⟨a,r,hA,hr,d,rfl⟩,fun _ _ _ x=>x⟩
theorem ak.cA(l Γ:List HP):ak (l++Γ) (Sep l::Γ):=by
 intro h s;obtain⟨a,r,hA,hr,d,rfl⟩:=Sat.append.1 s;exact⟨_,⟨a,r,hA,hr,d,rfl⟩,fun _ _ _ x=>x⟩
def Any{α:Sort _}(A:α→HP):HP:=fun h=>∃a,A a h
def Fact(p:Prop)(A:HP):HP:=fun h=>p∧A h
theorem St.ex{E:Env}{α:Sort _}{A:α→HP}{Γ:List HP}{w:World}(s:St E (Any A::Γ) w):∃a,St E (A a::Γ) w:=
 let ⟨e,h,⟨a,r,⟨x,hA⟩,hr,d,hh⟩,W⟩:=s;⟨x,e,h,⟨a,r,hA,hr,d,hh⟩,W⟩
theorem St.fact{E:Env}{p:Prop}{A:HP}{Γ:List HP}{w:World}(s:St E (Fact p A::Γ) w):p∧St E (A::Γ) w:=
 let ⟨e,h,⟨a,r,⟨x,hA⟩,hr,d,hh⟩,W⟩:=s;⟨x,e,h,⟨a,r,hA,hr,d,hh⟩,W⟩
theorem ak.ex{α:Sort _}{A:α→HP}(x:α)(Γ:List HP):ak (A x::Γ) (Any A::Γ):=ak.one (fun _ h=>⟨x,h⟩) Γ
theorem ak.fact{p:Prop}(hp:p){A:HP}(Γ:List HP):ak (A::Γ) (Fact p A::Γ):=ak.one (fun _ h=>⟨hp,h⟩) Γ
def row(b off:Nat)(vs:List Value):PH:=fun k x=>match x with
 |some i=>if k=b∧off≤i then (vs[i-off]?).map pW.own else none
 |none=>none
def Row(b off:Nat)(vs:List Value):HP:=fun h=>h=row b off vs
def Whole(b:Nat)(o:Obj):HP:=fun h=>h=fun k x=>if k=b∧x=none then some (.obj o)else none
def Old(w:World)(n:Nat):HP:=fun h=>h=fun k x=>if k<n∧x=none then (w.heap[k]?).map pW.obj else none
def jr:HP:=fun h=>h=PH.emp
theorem ui{b off k i:Nat}{vs:List Value}{e:pW}(h:row b off vs k (some i)=some e):k=b∧off≤i∧∃v,vs[i-off]? =some v∧e= .own v:=by
 unfold row at h;dsimp only at h;split at h
 ·rename_i hc;cases hv:vs[i-off]? with
  |none=>simp[hv]at h
  |some v=>simp[hv]at h;exact⟨hc.1,hc.2,v,rfl,h.symm⟩
 ·simp at h
theorem JR{b off i:Nat}{vs:List Value}{v:Value}(h:vs[i]? =some v):row b off vs b (some (off+i))=some (.own v):=by
 simp[row,h]
theorem Wd.pX{b off i:Nat}{vs:List Value}{v:Value}{w:World}(H:Wd (row b off vs) w)(h:vs[i]? =some v):
 w.cell? ⟨b,off+i,none⟩=some v∧w.frozen? ⟨b,off+i,none⟩=false:=H b (some (off+i)) _ (JR h)
theorem St.pX{E:Env}{Γ:List HP}{w:World}{b off i:Nat}{vs:List Value}{v:Value}(s:St E (Row b off vs::Γ) w)(h:vs[i]? =some v):
 w.cell? ⟨b,off+i,none⟩=some v∧w.frozen? ⟨b,off+i,none⟩=false:=by
 obtain⟨_,_,⟨a,r,rfl,_,_,rfl⟩,H⟩:=s;exact H.left.pX h
theorem uj(b off:Nat)(xs ys:List Value):row b off (xs++ys)=(row b off xs).join (row b (off+xs.length) ys):=by
 funext k x;cases x with
 |none=>rfl
 |some i=>
  simp only[PH.join,row];by_cases hk:k=b
  ·subst hk;by_cases h1:off≤i
   ·simp only[h1,and_self,if_true,true_and];by_cases h2:i-off<xs.length
    ·rw[zt h2];have:¬off+xs.length≤i:=by omega
     simp[this]
    ·rw[zz (by omega)];have h3:off+xs.length≤i:=by omega
     have h4:xs[i-off]? =none:=by simp;omega
     simp only[h3,if_true,h4,Option.map_none,Option.none_or];congr 2;omega
   ·have:¬off+xs.length≤i:=by omega
    simp[h1,this]
  ·simp[hk]
theorem JS(b off:Nat)(xs ys:List Value)(o2:Nat)(h:off+xs.length≤o2):(row b off xs).fh (row b o2 ys):=by
 intro k x y hx hy;cases x with
 |none=>exact absurd rfl hx
 |some i=>cases y with
  |none=>exact absurd rfl hy
  |some j=>
   obtain⟨e,he⟩:=Option.ne_none_iff_exists'.1 hx;obtain⟨f,hf⟩:=Option.ne_none_iff_exists'.1 hy;obtain⟨_,h1,v,hv,_⟩:=ui he;obtain⟨_,h2,_⟩:=ui hf;have:i-off<xs.length:=(List.getElem?_eq_some_iff.1 hv).1;refine⟨?_,by simp,by simp⟩;intro e;cases e;omega
theorem St.wj{E:Env}{Γ:List HP}{w:World}{b off:Nat}{xs ys:List Value}:
 St E (Row b off (xs++ys)::Γ) w↔St E (Row b off xs::Row b (off+xs.length) ys::Γ) w:=by
 constructor
 ·rintro⟨e,_,⟨a,r,rfl,hr,d,rfl⟩,H⟩;rw[uj]at d H;obtain⟨d1,d2⟩:=PH.sB.1 d;refine⟨e,_,⟨_,_,rfl,⟨_,_,rfl,hr,d2,rfl⟩,PH.oj.2 ⟨JS _ _ _ _ _ (zq _),d1⟩,rfl⟩,?_⟩;rw[←PH.join_assoc];exact H
 ·rintro⟨e,_,⟨a,r,rfl,⟨_,g,rfl,hr,d2,rfl⟩,d,rfl⟩,H⟩;obtain⟨_,d1⟩:=PH.oj.1 d;refine⟨e,_,⟨_,_,rfl,hr,?_,rfl⟩,?_⟩
  ·rw[uj];exact PH.sB.2 ⟨d1,d2⟩
  ·rw[uj,PH.join_assoc];exact H
theorem Wd.setCell{b o:Nat}{v:Value}{u:Value}{w:World}{r:PH}(hc:w.cell? ⟨b,o,none⟩=some u)(hr:r b none=none)(sC:r b (some o)=none)(H:Wd r w):Wd r (w.setCell ⟨b,o,none⟩ v):=by
 intro k x e he;have h0:=H k x e he;cases x with
 |some i=>cases e with
  |own z=>
   refine⟨?_,by rw[World.frozen?_setCell];exact h0.2⟩;rw[World.cell?_setCell_other _ _ _ _ ?_]
   ·exact h0.1
   ·intro e';cases e';rw[sC]at he;cases he
  |obj z=>exact h0
 |none=>cases e with
  |own z=>exact h0
  |obj z=>
   have hk:k≠b:=by rintro rfl;rw[hr]at he;cases he
   show(w.setCell _ v).heap[k]? =some z;rw[Below.heap_setCell _ _ _ _ hk];exact h0
theorem St.JT{E:Env}{Γ:List HP}{w:World}{b off i:Nat}{vs:List Value}(v:Value)(s:St E (Row b off vs::Γ) w)(h:i<vs.length):
 St E (Row b off (vs.set i v)::Γ) (w.setCell ⟨b,off+i,none⟩ v):=by
 obtain⟨e,_,⟨a,r,rfl,hr,d,rfl⟩,H⟩:=s;have hi:vs[i]? =some vs[i]:=za h;have m4:=JR (b:=b) (off:=off) hi;have hc:=H.left.pX hi;have cE:row b off vs b (some (off+i))≠none:=by simp[m4]
 have hlen:∀k x,row b off (vs.set i v) k x≠none→row b off vs k x≠none:=by
  intro k x hx;cases x with
  |none=>exact hx
  |some j=>
   obtain⟨f,hf⟩:=Option.ne_none_iff_exists'.1 hx;obtain⟨rfl,h1,z,hz,_⟩:=ui hf;have:j-off<vs.length:=by simpa using (List.getElem?_eq_some_iff.1 hz).1
   simp[row,h1,za this]
 have qN:r b none=none:=by
  apply zI;intro hn;exact(d b _ _ cE hn).2.2 rfl
 have js:r b (some (off+i))=none:=by
  apply zI;intro hn;exact(d b _ _ cE hn).1 rfl
 refine⟨e,_,⟨_,_,rfl,hr,fun k x y hx hy=>d k x y (hlen k x hx) hy,rfl⟩,?_⟩;intro k x f hf;unfold PH.join at hf;cases Cd:row b off (vs.set i v) k x with
 |none=>rw[Cd]at hf;exact Wd.setCell hc.1 qN js (H.right d) k x f (by simpa using hf)
 |some f'=>
  rw[Cd]at hf;obtain rfl:f'=f:=by simpa using hf
  cases x with
  |none=>cases Cd
  |some j=>
   obtain⟨rfl,h1,z,hz,rfl⟩:=ui Cd;rw[zae]at hz;by_cases hj:i=j-off
   ·rw[if_pos hj,if_pos h]at hz;obtain rfl:v=z:=by simpa using hz
    have ej:off+i=j:=by omega
    subst ej;exact⟨World.cell?_setCell_same _ _ _ hc.1,by rw[World.frozen?_setCell];exact hc.2⟩
   ·rw[if_neg hj]at hz;have h2:=H.left.pX hz;have e2:off+(j-off)=j:=by omega
    rw[e2]at h2;refine⟨?_,by rw[World.frozen?_setCell];exact h2.2⟩;rw[World.cell?_setCell_other _ _ _ _ (by intro e';cases e';omega)];exact h2.1
theorem Wd.alloc{h:PH}{w:World}(H:Wd h w)(o:Obj):Wd h (w.alloc o):=by
 intro k x e he;have h0:=H k x e he;have aN:=h0.lt;cases x with
 |some i=>cases e with
  |own z=>exact⟨by rw[World.cell?_alloc_lt _ _ _ aN];exact h0.1,by rw[World.frozen?_alloc_old _ _ _ (Nat.ne_of_lt aN)];exact h0.2⟩
  |obj z=>exact h0
 |none=>cases e with
  |own z=>exact h0
  |obj z=>exact(Below.heap_alloc w o k aN).trans h0
theorem Wd.JU{h:PH}{w:World}(H:Wd h w){x:Option Nat}:h w.heap.size x=none:=by
 cases hh:h w.heap.size x with
 |none=>rfl
 |some e=>exact absurd (H _ _ _ hh).lt (Nat.lt_irrefl _)
theorem St.sD{E:Env}{Γ:List HP}{w:World}(vs:List Value)(T:TypeId)(s:St E Γ w):St E (Row w.heap.size 0 vs::Γ) (w.alloc (.cells vs.toArray T)):=by
 obtain⟨e,h,a,H⟩:=s;refine⟨e,_,⟨_,h,rfl,a,?_,rfl⟩,?_⟩
 ·intro k x y hx hy;cases x with
  |none=>exact absurd rfl hx
  |some i=>
   obtain⟨f,hf⟩:=Option.ne_none_iff_exists'.1 hx;obtain⟨rfl,_⟩:=ui hf;exact absurd H.JU hy
 ·intro k x f hf;unfold PH.join at hf;cases m4:row w.heap.size 0 vs k x with
  |none=>rw[m4]at hf;exact H.alloc _ k x f (by simpa using hf)
  |some f'=>
   rw[m4]at hf;obtain rfl:f'=f:=by simpa using hf
   cases x with
   |none=>cases m4
   |some j=>
    obtain⟨rfl,_,z,hz,rfl⟩:=ui m4;exact⟨by rw[World.cell?_alloc_new];simpa using hz,World.frozen?_alloc_new _ _ _ _⟩
theorem Ce{b k:Nat}{o:Obj}{x:Option Nat}{e:pW}(h:(fun (k:Nat) (x:Option Nat)=>if k=b∧x=none then some (pW.obj o)else none) k x=some e):k=b∧x=none∧e= .obj o:=by
 dsimp only at h;split at h
 ·rename_i hc;exact⟨hc.1,hc.2,by cases h;rfl⟩
 ·cases h
theorem St.sE{E:Env}{Γ:List HP}{w:World}(o:Obj)(s:St E Γ w):St E (Whole w.heap.size o::Γ) (w.alloc o):=by
 obtain⟨e,h,a,H⟩:=s;refine⟨e,_,⟨_,h,rfl,a,?_,rfl⟩,?_⟩
 ·intro k x y hx hy;obtain⟨f,hf⟩:=Option.ne_none_iff_exists'.1 hx;obtain⟨rfl,_⟩:=Ce hf;exact absurd H.JU hy
 ·intro k x f hf;unfold PH.join at hf;cases m4:(fun (k:Nat) (x:Option Nat)=>if k=w.heap.size∧x=none then some (pW.obj o)else none) k x with
  |none=>rw[m4]at hf;exact H.alloc _ k x f (by simpa using hf)
  |some f'=>
   rw[m4]at hf;obtain rfl:f'=f:=by simpa using hf
   obtain⟨rfl,rfl,rfl⟩:=Ce m4;show(w.heap.push o)[w.heap.size]? =some o;simp
theorem St.fz{E:Env}{Γ:List HP}{w:World}{b:Nat}{o:Obj}(s:St E (Whole b o::Γ) w):w.heap[b]? =some o:=by
 obtain⟨_,_,⟨a,r,rfl,_,_,rfl⟩,H⟩:=s;exact H.left b none (.obj o) (by simp)
theorem St.Cf{E:Env}{Γ:List HP}{w:World}{b:Nat}{o:Obj}(o':Obj)(s:St E (Whole b o::Γ) w)(w':World)(hw:w'={w with heap:=w.heap.setIfInBounds b o'}):St E (Whole b o'::Γ) w':=by
 subst hw;have hb:=s.fz;obtain⟨e,_,⟨a,r,rfl,hr,d,rfl⟩,H⟩:=s;have aN:b<w.heap.size:=(Array.getElem?_eq_some_iff.1 hb).1;have JV:∀y,r b y=none:=fun y=>by
  apply zI;intro hn;exact(d b none y (by simp) hn).2.1 rfl
 refine⟨e,_,⟨_,r,rfl,hr,?_,rfl⟩,?_⟩
 ·intro k x y hx hy;obtain⟨f,hf⟩:=Option.ne_none_iff_exists'.1 hx;obtain⟨rfl,rfl,_⟩:=Ce hf;exact absurd (JV y) hy
 ·intro k x f hf;unfold PH.join at hf;cases m4:(fun (k:Nat) (x:Option Nat)=>if k=b∧x=none then some (pW.obj o')else none) k x with
  |none=>
   rw[m4]at hf;have Ft:r k x=some f:=by simpa using hf
   have hk:k≠b:=by rintro rfl;rw[JV]at Ft;cases Ft
   have h0:=H.right d k x f Ft;have hh:({w with heap:=w.heap.setIfInBounds b o'}:World).heap[k]? =w.heap[k]? :=by
    simp only[zbk];rw[if_neg (zb4 hk)]
   cases x with
   |some i=>cases f with
    |own z=>exact⟨(World.cell?_of_block hh).trans h0.1,(World.frozen?_of_block hh).trans h0.2⟩
    |obj z=>exact h0
   |none=>cases f with
    |own z=>exact h0
    |obj z=>exact hh.trans h0
  |some f'=>
   rw[m4]at hf;obtain rfl:f'=f:=by simpa using hf
   obtain⟨rfl,rfl,rfl⟩:=Ce m4;show(w.heap.setIfInBounds k o')[k]? =some o';simp[aN]
theorem St.start(w:World):St (Env.of w) [Old w w.heap.size] w:=by
 refine⟨⟨rfl,rfl,rfl⟩,_,⟨_,PH.emp,rfl,rfl,PH.JQ _,rfl⟩,?_⟩;intro k x e he;simp only[PH.join,PH.emp,Option.or_none]at he;split at he
 ·rename_i hc;obtain⟨_,rfl⟩:=hc;cases hk:w.heap[k]? with
  |none=>simp[hk]at he
  |some o=>simp[hk]at he;subst he;exact hk
 ·cases he
theorem St.Q1{w0:World}{n:Nat}{E:Env}{Γ:List HP}{w:World}(s:St E (Old w0 n::Γ) w)(hn:n≤w0.heap.size)(k:Nat)(hk:k<n):w.heap[k]? =w0.heap[k]? :=by
 obtain⟨e,_,⟨a,r,rfl,_,_,rfl⟩,H⟩:=s;have h0:w0.heap[k]? =some w0.heap[k]:=zan (by omega);rw[h0];exact H.left k none (.obj w0.heap[k]) (by simp[hk,h0])
theorem St.below{w0:World}{Γ:List HP}{w:World}(s:St (Env.of w0) (Old w0 w0.heap.size::Γ) w):Below w0.heap.size w0 w:=by
 have h:=fun k hk=>s.Q1 (zq _) k hk;obtain⟨⟨e1,e2,e3⟩,_⟩:=s;refine⟨e1,e2,e3,?_,h⟩;apply zI;intro aN;have h1:=h w.heap.size (by omega);rw[zan (by omega:w.heap.size<w0.heap.size)]at h1;simp at h1
end
section
open Go.RowKit
abbrev aK:=List (Nat×Value)
def lk:aK→Nat→Option Value
 |[],_=>none
 |(k,v)::r,i=>match Nat.beq k i with
  |true=>some v
  |false=>lk r i
def gQ(ρ:aK)(t:Array Value):Prop:=∀i v,lk ρ i=some v→t[i]? =some v
def ev(ρ:aK):Operand→Option Value
 | .tmp t=>lk ρ t
 | .const v=>some v
 | .global g=>some (.pointer (some ⟨g,0,none⟩))
 | .func f=>some (.func (.func f) #[] #[])
def gk(ρ:aK):List Operand→Option (List Value)
 |[]=>some []
 |x::xs=>match ev ρ x with
  |some v=>match gk ρ xs with
   |some vs=>some (v::vs)
   |none=>none
  |none=>none
theorem gQ.nil(t:Array Value):gQ [] t:=fun _ _ h=>by cases h
theorem gQ.ev{ρ:aK}{t:Array Value}(h:gQ ρ t)(ds:List Deferred){x:Operand}{v:Value}(hx:ev ρ x=some v):(Act.mk t ds).eval x=v:=by
 cases x with
 |tmp i=>have:=h i v hx;simp[Act.eval,zaz,this]
 |const c=>cases hx;rfl
 |global g=>cases hx;rfl
 |func f=>cases hx;rfl
theorem gQ.gk{ρ:aK}{t:Array Value}(h:gQ ρ t)(ds:List Deferred):∀{xs:List Operand} {vs:List Value},gk ρ xs=some vs→xs.map (Act.mk t ds).eval=vs:=by
 intro xs;induction xs with
 |nil=>intro vs hv;cases hv;rfl
 |cons x xs ih=>
  intro vs hv;unfold YtacfncmndodlpaaGreat.gk at hv;cases h1:YtacfncmndodlpaaGreat.ev ρ x with
  |none=>simp[h1]at hv
  |some v=>
   cases h2:YtacfncmndodlpaaGreat.gk ρ xs with
   |none=>simp[h1,h2]at hv
   |some us=>
    simp[h1,h2]at hv;subst hv;rw[zE,h.ev ds h1,ih h2]
theorem gQ.put{ρ:aK}{t:Array Value}(h:gQ ρ t){d:Nat}(v:Value)(hd:d<t.size):gQ ((d,v)::ρ) (t.setIfInBounds d v):=by
 intro i u hu;unfold lk at hu;rw[zbk];cases hb:Nat.beq d i with
 |true=>
  rw[hb]at hu;have e:=zJ hb;subst e;simp at hu;simp[hd,hu]
 |false=>
  rw[hb]at hu;have e:=Nat.ne_of_beq_eq_false hb;rw[if_neg e];exact h i u hu
def wk:aK→aK→Prop
 |[],_=>True
 |(i,v)::r,ρ=>lk ρ i=some v∧wk r ρ
theorem gQ.sub{ρ ρ':aK}{t:Array Value}(h:gQ ρ t)(s:wk ρ' ρ):gQ ρ' t:=by
 induction ρ' with
 |nil=>exact gQ.nil t
 |cons e r ih=>
  obtain⟨i,v⟩:=e;intro j u hu;unfold lk at hu;cases hb:Nat.beq i j with
  |true=>
   rw[hb]at hu;have e:=zJ hb;subst e;simp at hu;subst hu;exact h i v s.1
  |false=>rw[hb]at hu;exact ih s.2 j u hu
def Reach(P:Program)(m:Machine)(G:Machine→Prop):Prop:=∃m',Steps P m m'∧G m'
theorem Reach.now{P:Program}{m:Machine}{G:Machine→Prop}(h:G m):Reach P m G:=⟨m,.refl P m,h⟩
theorem Reach.step{P:Program}{m m':Machine}{G:Machine→Prop}(h:step P m= .next m')(h':Reach P m' G):Reach P m G:=
 let ⟨x,s,g⟩:=h';⟨x,.head h s,g⟩
theorem Reach.trans{P:Program}{m:Machine}{G G':Machine→Prop}(h:Reach P m G)(k:∀x,G x→Reach P x G'):Reach P m G':=
 let ⟨x,s,g⟩:=h;let ⟨y,t,g'⟩:=k x g;⟨y,Steps.trans s t,g'⟩
theorem Reach.steps{P:Program}{m m':Machine}{G:Machine→Prop}(h:Steps P m m')(h':Reach P m' G):Reach P m G:=
 let ⟨x,s,g⟩:=h';⟨x,Steps.trans h s,g⟩
structure Cx where
 fn:FuncId
 ro:Option Nat
 cs:List Frame
 E:Env
 G:Machine→Prop
def Cx.base(X:Cx):Frame:={(default:Frame)with fn:=X.fn,kind:= .normal,roundOf:=X.ro}
def Ex(P:Program)(X:Cx)(n:Nat)(ds:List Deferred)(todo:List Item)(ρ:aK)(Γ:List HP):Prop:=
 ∀(tmps:Array Value) (w:World),tmps.size=n→gQ ρ tmps→St X.E Γ w→Reach P (lone (X.base.atR ⟨tmps,ds⟩ todo) X.cs w) X.G
section Q2
variable {P:Program} {X:Cx} {n:Nat} {ds:List Deferred} {k:List Item} {ρ:aK} {Γ:List HP}
theorem JW(h:Ex P X n ds k ρ Γ):Ex P X n ds (.code .skip::k) ρ Γ:=fun t w hn hm hs=> .step stepR_skip (h t w hn hm hs)
theorem acv{l:Nat}(h:Ex P X n ds k ρ Γ):Ex P X n ds (.code (.label l)::k) ρ Γ:=fun t w hn hm hs=> .step stepR_label (h t w hn hm hs)
theorem Q3{id:Nat}(h:Ex P X n ds k ρ Γ):Ex P X n ds (.inBlock id::k) ρ Γ:=fun t w hn hm hs=> .step stepR_inBlock (h t w hn hm hs)
theorem Cg{c:Code}(h:Ex P X n ds k ρ Γ):Ex P X n ds (.inScope c::k) ρ Γ:=fun t w hn hm hs=>
 .step (step_lone_go (by simp[stepG,stepG.exec,Frame.atR])) (h t w hn hm hs)
theorem yB{a b:Code}(h:Ex P X n ds (.code a:: .code b::k) ρ Γ):Ex P X n ds (.code (.seq a b)::k) ρ Γ:=fun t w hn hm hs=> .step stepR_seq (h t w hn hm hs)
theorem Q4{id:Nat}{c:Code}(h:Ex P X n ds (.code c:: .inBlock id::k) ρ Γ):Ex P X n ds (.code (.block id c)::k) ρ Γ:=fun t w hn hm hs=> .step stepR_block (h t w hn hm hs)
theorem Q5{c:Code}(h:Ex P X n ds (.code c:: .inScope c::k) ρ Γ):Ex P X n ds (.code (.scope c)::k) ρ Γ:=fun t w hn hm hs=>
 .step (step_lone_go (by simp[stepG,stepG.exec,Frame.atR])) (h t w hn hm hs)
theorem sF{c:Operand}{a b:Code}(hc:ev ρ c=some (.bool true))(h:Ex P X n ds (.code a::k) ρ Γ):Ex P X n ds (.code (.cond c a b)::k) ρ Γ:=
 fun t w hn hm hs=> .step (stepR_cond (hm.ev ds hc)) (h t w hn hm hs)
theorem Fu{c:Operand}{a b:Code}(hc:ev ρ c=some (.bool false))(h:Ex P X n ds (.code b::k) ρ Γ):Ex P X n ds (.code (.cond c a b)::k) ρ Γ:=
 fun t w hn hm hs=> .step (stepR_cond (hm.ev ds hc)) (h t w hn hm hs)
theorem Ci{id:Nat}{k':List Item}(he:exitTo id k=some k')(h:Ex P X n ds k' ρ Γ):Ex P X n ds (.code (.exit id)::k) ρ Γ:=fun t w hn hm hs=> .step (stepR_exit he) (h t w hn hm hs)
theorem bf{ρ':aK}{Γ':List HP}{todo:List Item}(h:Ex P X n ds todo ρ' Γ')(hρ:wk ρ' ρ)(hΓ:ak Γ Γ'):Ex P X n ds todo ρ Γ:=
 fun t w hn hm hs=>h t w hn (hm.sub hρ) (hΓ.st hs)
theorem bJ{Γ':List HP}{todo:List Item}(hΓ:ak Γ Γ')(h:Ex P X n ds todo ρ Γ'):Ex P X n ds todo ρ Γ:=
 fun t w hn hm hs=>h t w hn hm (hΓ.st hs)
theorem dz{α:Type}{Γ':α→List HP}{todo:List Item}(hΓ:∀E w,St E Γ w→∃a,St E (Γ' a) w)(h:∀a,Ex P X n ds todo ρ (Γ' a)):Ex P X n ds todo ρ Γ:=
 fun t w hn hm hs=>let ⟨a,s⟩:=hΓ _ _ hs;h a t w hn hm s
theorem oV{c:Code}(h:Ex P X n ds (.code c:: .inLoop c::k) ρ Γ):Ex P X n ds (.inLoop c::k) ρ Γ:=fun t w hn hm hs=> .step stepR_inLoop (h t w hn hm hs)
theorem aQ{c:Code}{α:Type}(I:α→Prop)(ρI:α→aK)(ΓI:α→List HP)(μ:α→Nat)(a0:α)(h0:I a0)(hρ:wk (ρI a0) ρ)(hΓ:ak Γ (ΓI a0))
 (round:∀a,I a→(∀a',I a'→μ a'<μ a→Ex P X n ds (.inLoop c::k) (ρI a') (ΓI a'))→Ex P X n ds (.code c:: .inLoop c::k) (ρI a) (ΓI a)):
 Ex P X n ds (.code (.loop c)::k) ρ Γ:=by
 have key:∀m a,μ a=m→I a→Ex P X n ds (.code c:: .inLoop c::k) (ρI a) (ΓI a):=by
  intro m;induction m using Nat.strongRecOn with
  |_ m ih=>exact fun a ha hI=>round a hI fun a' eA aN=>oV (ih (μ a') (ha ▸ aN) a' rfl eA)
 exact fun t w hn hm hs=> .step stepR_loop (key _ a0 rfl h0 t w hn (hm.sub hρ) (hΓ.st hs))
end Q2
def jt(P:Program)(X:Cx)(n:Nat)(ds:List Deferred)(ops:Array Oper)(l:List Oper)(k:List Item)(ρ:aK)(Γ:List HP):Prop:=
 ∀i,ops.toList.drop i=l→Ex P X n ds (.inRegion ops (List.range' i l.length)::k) ρ Γ
def gR(ρ ρ':aK):Prop:=∀i v,lk ρ i=some v→lk ρ' i=some v
theorem gR.refl(ρ:aK):gR ρ ρ:=fun _ _ h=>h
theorem gQ.le{ρ ρ':aK}{t:Array Value}(h:gQ ρ' t)(s:gR ρ ρ'):gQ ρ t:=fun i v hv=>h i v (s i v hv)
def put(dst:Option Tmp)(v:Value)(ρ:aK):aK:=match dst with
 |some d=>(d,v)::ρ
 |none=>ρ
def bm(P:Program)(X:Cx)(n:Nat)(ds:List Deferred)(dst:Option Tmp)(op:Op)(ty:TypeId)(Nx:Value→List HP→Prop)(ρ:aK)(Γ:List HP):Prop:=
 ∀(ops:Array Oper) (i:Nat) (o:Oper) (rest:List Nat) (k:List Item) (ρF:aK),gR ρ ρF→ops[i]? =some o→o.dst=dst→o.op=op→o.type=ty→(∀t,gQ ρF t→Region.wanted o (yielded ops t)=true)→
  (∀v Γ',Nx v Γ'→Ex P X n ds (.inRegion ops rest::k) (put dst v ρF) Γ')→Ex P X n ds (.inRegion ops (i::rest)::k) ρF Γ
section ops
variable {P:Program} {X:Cx} {n:Nat} {ds:List Deferred} {k:List Item} {ρ:aK} {Γ:List HP} {ops:Array Oper} {l:List Oper}
theorem Cj{id:Nat}{l:List Oper}(h:jt P X n ds l.toArray l k ρ Γ):Ex P X n ds (.code (.region id l.toArray false)::k) ρ Γ:=
 fun t w hn hm hs=> .step stepR_region (by
  have:=h 0 (by simp) t w hn hm hs;simpa[List.range_eq_range']using this)
theorem Q6(h:Ex P X n ds k ρ Γ):jt P X n ds ops [] k ρ Γ:=fun _ _ t w hn hm hs=> .step stepR_region_end (h t w hn hm hs)
theorem drop_cons{i:Nat}{o:Oper}(h:ops.toList.drop i=o::l):ops[i]? =some o∧ops.toList.drop (i+1)=l:=by
 constructor
 ·have:(ops.toList.drop i)[0]? =some o:=by rw[h];rfl
  rw[zar]at this;simpa using this
 ·have:(ops.toList.drop i).drop 1=l:=by rw[h];rfl
  rwa[zaS]at this
theorem ao{d:Nat}{op:Op}{ty:TypeId}{pos:String}{af:Array Edge}(h:bm P X n ds (some d) op ty (fun v Γ'=>jt P X n ds ops l k ((d,v)::ρ) Γ') ρ Γ):jt P X n ds ops (⟨some d,op,ty,pos,af,none⟩::l) k ρ Γ:=by
 intro i hi;obtain⟨ho,hd⟩:=drop_cons hi;exact h ops i _ _ k ρ (.refl ρ) ho rfl rfl rfl (fun _ _=>rfl) (fun _ _ hx=>hx (i+1) hd)
theorem yC{op:Op}{ty:TypeId}{pos:String}{af:Array Edge}(h:bm P X n ds none op ty (fun _ Γ'=>jt P X n ds ops l k ρ Γ') ρ Γ):jt P X n ds ops (⟨none,op,ty,pos,af,none⟩::l) k ρ Γ:=by
 intro i hi;obtain⟨ho,hd⟩:=drop_cons hi;exact h ops i _ _ k ρ (.refl ρ) ho rfl rfl rfl (fun _ _=>rfl) (fun _ _ hx=>hx (i+1) hd)
def gd(ρ:aK)(ops:Array Oper)(j:Nat):Option Value:=match (ops[j]?).bind (·.dst)with
 |some d=>lk ρ d
 |none=>none
theorem Ck{j:Nat}{b:Bool}(h:gd ρ ops j=some (.bool b)){t:Array Value}(hm:gQ ρ t):yielded ops t j=some b:=by
 unfold gd at h;unfold yielded;cases hd:(ops[j]?).bind (·.dst)with
 |none=>simp[hd]at h
 |some d=>simp[hd]at h;simp[hm d _ h]
theorem JX{j:Nat}(h:gd ρ ops j=some undef){t:Array Value}(hm:gQ ρ t):yielded ops t j=none:=by
 unfold gd at h;unfold yielded;cases hd:(ops[j]?).bind (·.dst)with
 |none=>simp
 |some d=>simp[hd]at h;simp[hm d _ h,undef]
theorem m5{d:Nat}{op:Op}{ty:TypeId}{pos:String}{af:Array Edge}{j:Nat}{b:Bool}(hg:gd ρ ops j=some (.bool b))(h:bm P X n ds (some d) op ty (fun v Γ'=>jt P X n ds ops l k ((d,v)::ρ) Γ') ρ Γ):
 jt P X n ds ops (⟨some d,op,ty,pos,af,some (j,b)⟩::l) k ρ Γ:=by
 intro i hi;obtain⟨ho,hd⟩:=drop_cons hi;exact h ops i _ _ k ρ (.refl ρ) ho rfl rfl rfl (fun t hm=>by simp[Region.wanted,Ck hg hm]) (fun _ _ hx=>hx (i+1) hd)
theorem JY{i:Nat}{o:Oper}(ho:ops[i]? =some o)(hw:∀t,gQ ρ t→Region.wanted o (yielded ops t)=false)(hd:ops.toList.drop (i+1)=l){d:Nat}(gB:o.dst=some d)(hn:Nat.blt d n=true)
 (h:jt P X n ds ops l k ((d,undef)::ρ) Γ):Ex P X n ds (.inRegion ops (List.range' i (l.length+1))::k) ρ Γ:=by
 intro t w cP hm hs;have aN:d<t.size:=by rw[cP];exact of_decide_eq_true (by simpa[zN]using hn)
 refine .step (stepR_op_skip (by simp[ho,hw t hm])) ?_;have hp:((ops[i]?).bind (·.dst))=some d:=by simp[ho,gB]
 rw[hp];exact h (i+1) hd (t.setIfInBounds d undef) w (by simpa using cP) (hm.put undef aN) hs
theorem Fv{d:Nat}{op:Op}{ty:TypeId}{pos:String}{af:Array Edge}{j:Nat}{b c:Bool}(hg:gd ρ ops j=some (.bool c))(Q7:(c==b)=false)(hn:Nat.blt d n=true)
 (h:jt P X n ds ops l k ((d,undef)::ρ) Γ):jt P X n ds ops (⟨some d,op,ty,pos,af,some (j,b)⟩::l) k ρ Γ:=by
 intro i hi;obtain⟨ho,hd⟩:=drop_cons hi;exact JY ho (fun t hm=>by
  simp only[Region.wanted,Ck hg hm];cases c<;>cases b<;>first|rfl|cases Q7) hd rfl hn h
theorem acw{d:Nat}{op:Op}{ty:TypeId}{pos:String}{af:Array Edge}{j:Nat}{b:Bool}(hg:gd ρ ops j=some undef)(hn:Nat.blt d n=true)
 (h:jt P X n ds ops l k ((d,undef)::ρ) Γ):jt P X n ds ops (⟨some d,op,ty,pos,af,some (j,b)⟩::l) k ρ Γ:=by
 intro i hi;obtain⟨ho,hd⟩:=drop_cons hi;exact JY ho (fun t hm=>by simp[Region.wanted,JX hg hm]) hd rfl hn h
end ops
section ops
variable {P:Program} {X:Cx} {n:Nat} {ds:List Deferred} {ρ:aK} {Γ:List HP} {Nx:Value→List HP→Prop}
theorem b_{d:Nat}{op:Op}{ty:TypeId}(dH:∀c,op≠.defer c)(hn:Nat.blt d n=true)
 (h:∀(e:Operand→Value) (o:Oper) (w:World),o.op=op→o.type=ty→(∀x v,ev ρ x=some v→e x=v)→(∀xs vs,gk ρ xs=some vs→xs.map e=vs)→St X.E Γ w→
  ∃v w' Γ',(execOp e o).run P w= .ok (.value v) w'∧St X.E Γ' w'∧Nx v Γ'):
 bm P X n ds (some d) op ty Nx ρ Γ:=by
 intro ops i o rest k ρF hle ho gB ax aS hw hK t w cP hm hs;obtain⟨v,w',Γ',hr,ju,uk⟩:=h (Act.mk t ds).eval o w ax aS (fun x v hx=>(hm.le hle).ev ds hx) (fun xs vs hx=>(hm.le hle).gk ds hx) hs;have aN:d<t.size:=by rw[cP];exact of_decide_eq_true (by simpa[zN]using hn)
 refine .step (m':=lone (X.base.atR ⟨t.setIfInBounds d v,ds⟩ (.inRegion ops rest::k)) X.cs w') (step_lone_go ?_)
  (hK _ _ uk _ w' (by simpa using cP) (hm.put v aN) ju)
 rw[stepGR_op ho (hw t hm),Oper.semAt_eq _ _ _ (by rw[ax];exact dH)];have fX:=Frame.finish_atR X.base ⟨t,ds⟩ ops i rest k v;have hp:((ops[i]?).bind (·.dst))=some d:=by simp[ho,gB]
 rw[hp]at fX;simp only[stepG.apply,Sem.runT_eq,hr,if_true,GStep.bare_after,fX]
 rfl
theorem yD{op:Op}{ty:TypeId}(dH:∀c,op≠.defer c)
 (h:∀(e:Operand→Value) (o:Oper) (w:World),o.op=op→o.type=ty→(∀x v,ev ρ x=some v→e x=v)→St X.E Γ w→
  ∃w' Γ',(execOp e o).run P w= .ok .skip w'∧St X.E Γ' w'∧Nx undef Γ'):
 bm P X n ds none op ty Nx ρ Γ:=by
 intro ops i o rest k ρF hle ho gB ax aS hw hK t w cP hm hs;obtain⟨w',Γ',hr,ju,uk⟩:=h (Act.mk t ds).eval o w ax aS (fun x v hx=>(hm.le hle).ev ds hx) hs;refine .step (m':=lone (X.base.atR ⟨t,ds⟩ (.inRegion ops rest::k)) X.cs w') (step_lone_go ?_)
  (hK _ _ uk _ w' cP hm ju)
 rw[stepGR_op ho (hw t hm),Oper.semAt_eq _ _ _ (by rw[ax];exact dH)];have fX:=Frame.finish_atR X.base ⟨t,ds⟩ ops i rest k undef;have hp:((ops[i]?).bind (·.dst))=none:=by simp[ho,gB]
 rw[hp]at fX;simp only[stepG.apply,Sem.runT_eq,hr,if_true,GStep.bare_after,fX]
 rfl
theorem bm.mono{dst:Option Tmp}{op:Op}{ty:TypeId}{Nx Nx':Value→List HP→Prop}(h:bm P X n ds dst op ty Nx ρ Γ)(hx:∀v Γ',Nx v Γ'→Nx' v Γ'):bm P X n ds dst op ty Nx' ρ Γ:=
 fun ops i o rest k ρF hle ho gB ax aS hw hK=>h ops i o rest k ρF hle ho gB ax aS hw fun v Γ' hn=>hK v Γ' (hx _ _ hn)
theorem bm.le{dst:Option Tmp}{op:Op}{ty:TypeId}{ρ':aK}(h:bm P X n ds dst op ty Nx ρ Γ)(hle:gR ρ ρ'):bm P X n ds dst op ty Nx ρ' Γ:=
 fun ops i o rest k ρF gl=>h ops i o rest k ρF fun i v hv=>gl i v (hle i v hv)
def bI(P:Program)(op:Op)(ty:TypeId)(ρ:aK)(Γ:List HP)(v:Value):Prop:=
 (∀c,op≠.defer c)∧∀(e:Operand→Value) (o:Oper) (E:Env) (w:World),o.op=op→o.type=ty→(∀x v,ev ρ x=some v→e x=v)→(∀xs vs,gk ρ xs=some vs→xs.map e=vs)→St E Γ w→(execOp e o).run P w= .ok (.value v) w
theorem bL{d:Nat}{op:Op}{ty:TypeId}{v:Value}(h:bI P op ty ρ Γ v)(hn:Nat.blt d n=true)(hx:Nx v Γ):bm P X n ds (some d) op ty Nx ρ Γ:=
 b_ h.1 hn fun e o w ax aS he bg hs=>⟨v,w,Γ,h.2 e o X.E w ax aS he bg hs,hs,hx⟩
theorem bI.Fw{op:Op}{ty:TypeId}{v:Value}{Δ:List HP}(h:bI P op ty ρ Γ v)(he:∀E w,St E Δ w→St E Γ w):bI P op ty ρ Δ v:=
 ⟨h.1,fun e o E w ax aS h1 h2 hs=>h.2 e o E w ax aS h1 h2 (he E w hs)⟩
end ops
end
section
open Go.RowKit
def JZ(d:TypeDesc)(i:TypeInfo):Bool:=match d with
 | .struct _=>false
 | .array _ _=>false
 |_=>i.size==1
def J0(d:TypeDesc)(i:TypeInfo)(s:Nat):Bool:=match d with
 | .struct _=>i.size==s
 | .array _ _=>i.size==s
 |_=>false
class cU(P:Program)(t:TypeId):Prop where h:∃d i,P.underlying t=some d∧P.info? t=some i∧JZ d i=true
class cI(P:Program)(t:TypeId)(s:outParam Nat):Prop where h:∃d i,P.underlying t=some d∧P.info? t=some i∧J0 d i s=true
class cX(P:Program)(t:TypeId)(e s y:outParam Nat):Prop where h:∃i,P.underlying t=some (.slice e)∧P.info? e=some i∧i.size=s∧i.bytes=y
class iR(P:Program)(t:TypeId)(m e s:outParam Nat):Prop where h:∃i,P.underlying t=some (.array m e)∧P.info? e=some i∧i.size=s
class bF(P:Program)(t:TypeId)(f:Nat)(off:outParam Nat):Prop where h:∃fs fd i,P.underlying t=some (.struct fs)∧fs[f]? =some fd∧fd.offset=off∧P.info? fd.type=some i∧i.size≠0
section
variable {P:Program}
theorem cU.size{t:TypeId}[T:cU P t]:∃i,P.info? t=some i∧i.size=1:=by
 obtain⟨d,i,_,hi,h⟩:=T.h;refine⟨i,hi,?_⟩;cases d<;>first|cases h|simpa[JZ]using h
theorem cU.agg{t:TypeId}[T:cU P t](w:World):(isAgg t).run P w= .ok false w:=by
 obtain⟨d,i,hd,_,h⟩:=T.h;simp only[isAgg,underlying,Sem.run_bind,run_program,Result.andThen_ok,hd,Sem.run_pure];cases d<;>first|cases h|rfl
theorem cI.agg{t s:Nat}[T:cI P t s](w:World):(isAgg t).run P w= .ok true w:=by
 obtain⟨d,i,hd,_,h⟩:=T.h;simp only[isAgg,underlying,Sem.run_bind,run_program,Result.andThen_ok,hd,Sem.run_pure];cases d<;>first|cases h|rfl
theorem cI.size{t s:Nat}[T:cI P t s]:∃i,P.info? t=some i∧i.size=s:=by
 obtain⟨d,i,_,hi,h⟩:=T.h;refine⟨i,hi,?_⟩;cases d<;>first|cases h|simpa[J0]using h
theorem cX.fL{t e s y:Nat}[T:cX P t e s y]:P.underlying t=some (.slice e)∧∃i,P.info? e=some i∧i.size=s∧i.bytes=y:=by
 obtain⟨i,a,b,c,d⟩:=T.h;exact⟨a,i,b,c,d⟩
theorem iR.fL{t m e s:Nat}[T:iR P t m e s]:P.underlying t=some (.array m e)∧∃i,P.info? e=some i∧i.size=s:=by
 obtain⟨i,a,b,c⟩:=T.h;exact⟨a,i,b,c⟩
theorem eB{t:TypeId}{i:TypeInfo}(h:P.info? t=some i)(w:World):(sizeOf t).run P w= .ok i.size w:=by
 simp[sizeOf,typeInfo,h]
theorem cN{t:TypeId}{d:TypeDesc}(h:P.underlying t=some d)(w:World):(underlying t).run P w= .ok d w:=by
 simp[underlying,h]
theorem m6{t:TypeId}{i:TypeInfo}(h:P.info? t=some i)(w:World):(typeInfo t).run P w= .ok i w:=by
 simp[typeInfo,h]
theorem Addr.kL(b o m:Nat):(Addr.mk b o none).add m=⟨b,o+m,none⟩:=by
 unfold Addr.add;split
 ·subst_vars;rfl
 ·rfl
theorem Q8{b o:Nat}{w:World}:∀(m i:Nat) (acc:Array Value) (vs:List Value),vs.length=m→(∀j v,vs[j]? =some v→w.cell? ⟨b,o+(i+j),none⟩=some v)→
 (loadCellsFrom ⟨b,o,none⟩ i m acc).run P w= .ok (acc++vs.toArray) w:=by
 intro m;induction m with
 |zero=>intro i acc vs hl _;have:vs=[]:=List.length_eq_zero_iff.1 hl;subst this;simp[loadCellsFrom]
 |succ m ih=>
  intro i acc vs hl hc;cases vs with
  |nil=>simp at hl
  |cons v vs=>
   have h0:w.cell? ⟨b,o+i,none⟩=some v:=by simpa using hc 0 v rfl
   simp only[loadCellsFrom,Sem.run_bind,run_load,Addr.kL,h0,Result.andThen_ok];rw[ih (i+1) (acc.push v) vs (by simpa using hl) (fun j u hj=>by
    have:=hc (j+1) u (by simpa using hj);rw[show o+(i+1+j)=o+(i+(j+1))by omega];exact this)]
   simp
theorem Cl{b o m:Nat}{w:World}{vs:List Value}(hl:vs.length=m)(hc:∀j v,vs[j]? =some v→w.cell? ⟨b,o+j,none⟩=some v):
 (loadCells ⟨b,o,none⟩ m).run P w= .ok vs.toArray w:=by
 unfold loadCells;rw[Q8 m 0 #[] vs hl fun j v hj=>by simpa using hc j v hj];simp
end
class lq(Γ:List HP)(b:Nat)(off:outParam Nat)(vs:outParam (List Value)):Prop where
 h:∃Δ,Γ.Perm (Row b off vs::Δ)
instance lq.here(Γ:List HP)(b off:Nat)(vs:List Value):lq (Row b off vs::Γ) b off vs:=⟨Γ,.refl _⟩
instance (priority:=low) lq.there(A:HP)(Γ:List HP)(b off:Nat)(vs:List Value)[H:lq Γ b off vs]:lq (A::Γ) b off vs:=
 ⟨let ⟨Δ,p⟩:=H.h;⟨A::Δ,(p.cons A).trans (.swap _ _ _)⟩⟩
class km(Γ:List HP)(b:Nat)(off:outParam Nat)(vs:outParam (List Value))(K:outParam (HP→List HP)):Prop where
 h:∃Δ,Γ.Perm (Row b off vs::Δ)∧∀A,(A::Δ).Perm (K A)
instance km.here(Γ:List HP)(b off:Nat)(vs:List Value):km (Row b off vs::Γ) b off vs (fun A=>A::Γ):=⟨Γ,.refl _,fun _=> .refl _⟩
instance (priority:=low) km.there(B:HP)(Γ:List HP)(b off:Nat)(vs:List Value)(K:HP→List HP)[H:km Γ b off vs K]:km (B::Γ) b off vs (fun A=>B::K A):=
 ⟨let ⟨Δ,p,q⟩:=H.h;⟨B::Δ,(p.cons B).trans (.swap _ _ _),fun A=>(List.Perm.swap _ _ _).trans ((q A).cons B)⟩⟩
class Take(Γ:List HP)(A:HP)(Δ:outParam (List HP)):Prop where
 h:Γ.Perm (A::Δ)
instance Take.here(Γ:List HP)(A:HP):Take (A::Γ) A Γ:=⟨.refl _⟩
instance (priority:=low) Take.there(B:HP)(Γ:List HP)(A:HP)(Δ:List HP)[H:Take Γ A Δ]:Take (B::Γ) A (B::Δ):=⟨(H.h.cons B).trans (.swap _ _ _)⟩
class nN(Γ:List HP)(As:List HP)(Δ:outParam (List HP)):Prop where
 h:Γ.Perm (As++Δ)
instance nN.nil(Γ:List HP):nN Γ [] Γ:=⟨.refl _⟩
instance nN.cons(Γ:List HP)(A:HP)(As:List HP)(Δ Θ:List HP)[H:Take Γ A Δ][H':nN Δ As Θ]:nN Γ (A::As) Θ:=⟨H.h.trans (H'.h.cons A)⟩
theorem St.take{E:Env}{Γ As Δ:List HP}{w:World}[T:nN Γ As Δ](s:St E Γ w):St E (As++Δ) w:=s.perm T.h
theorem St.yE{E:Env}{Γ:List HP}{w:World}{b off:Nat}{vs:List Value}[H:lq Γ b off vs](s:St E Γ w){i:Nat}{v:Value}(h:vs[i]? =some v):
 w.cell? ⟨b,off+i,none⟩=some v∧w.frozen? ⟨b,off+i,none⟩=false:=
 let ⟨_,p⟩:=H.h;(s.perm p).pX h
theorem St.J1{E:Env}{Γ:List HP}{w:World}{b off:Nat}{vs:List Value}{K:HP→List HP}[H:km Γ b off vs K](s:St E Γ w){i:Nat}(v:Value)(h:i<vs.length):
 St E (K (Row b off (vs.set i v))) (w.setCell ⟨b,off+i,none⟩ v):=
 let ⟨_,p,q⟩:=H.h;((s.perm p).JT v h).perm (q _)
class Sub(Γ Δ:List HP):Prop where
 h:ak Γ Δ
instance (priority:=high) Sub.same(Γ:List HP):Sub Γ Γ:=⟨.refl _⟩
instance Sub.cons(Γ:List HP)(A:HP)(Δ Θ:List HP)[H:Take Γ A Δ][H':Sub Δ Θ]:Sub Γ (A::Θ):=⟨(ak.perm H.h).trans (H'.h.cons A)⟩
instance (priority:=high) Sub.app(Γ:List HP)(A:HP)(As Δ:List HP)[H:Sub Γ (A::(As++Δ))]:Sub Γ ((A::As)++Δ):=⟨H.h⟩
instance (priority:=high) Sub.Q9(Γ Δ:List HP)[H:Sub Γ Δ]:Sub Γ ([]++Δ):=⟨H.h⟩
instance (priority:=low) Sub.drop(Γ:List HP)(A:HP)(Δ:List HP)[H:Sub Γ Δ]:Sub (A::Γ) Δ:=⟨(ak.drop A Γ).trans H.h⟩
end
section
open Go.RowKit
section ops
variable {P:Program} {X:Cx} {n:Nat} {ds:List Deferred} {ρ:aK} {Γ:List HP} {Nx:Value→List HP→Prop} {d:Nat} {ty:TypeId}
theorem lr{x:Operand}{v:Value}(hx:ev ρ x=some v)(hn:Nat.blt d n=true)(h:Nx (v) Γ):bm P X n ds (some d) (.move x) ty Nx ρ Γ:=
 b_ (by simp) hn fun e o w ax aS he bg hs=>⟨v,w,Γ,by simp[execOp,ax,he x v hx],hs,h⟩
theorem lU{x:Operand}{v:Value}(hx:ev ρ x=some v):bI P (.move x) ty ρ Γ (v):=
 ⟨by simp,fun e o E w ax aS he bg hs=>by simp[execOp,ax,he x v hx]⟩
theorem Cm{x:Operand}{v:Value}(hx:ev ρ x=some v)(hn:Nat.blt d n=true)(h:Nx (v) Γ):bm P X n ds (some d) (.assign x) ty Nx ρ Γ:=
 b_ (by simp) hn fun e o w ax aS he bg hs=>⟨v,w,Γ,by simp[execOp,ax,he x v hx],hs,h⟩
theorem J2{x:Operand}{v:Value}(hx:ev ρ x=some v):bI P (.assign x) ty ρ Γ (v):=
 ⟨by simp,fun e o E w ax aS he bg hs=>by simp[execOp,ax,he x v hx]⟩
theorem Fx{c x y:Operand}{v:Value}(hc:ev ρ c=some (.bool true))(hx:ev ρ x=some v)(hn:Nat.blt d n=true)(h:Nx (v) Γ):bm P X n ds (some d) (.pick c x y) ty Nx ρ Γ:=
 b_ (by simp) hn fun e o w ax aS he bg hs=>⟨v,w,Γ,by simp[execOp,ax,he x v hx,he c _ hc,asBool],hs,h⟩
theorem Cn{c x y:Operand}{v:Value}(hc:ev ρ c=some (.bool true))(hx:ev ρ x=some v):bI P (.pick c x y) ty ρ Γ (v):=
 ⟨by simp,fun e o E w ax aS he bg hs=>by simp[execOp,ax,he x v hx,he c _ hc,asBool]⟩
theorem Fy{c x y:Operand}{v:Value}(hc:ev ρ c=some (.bool false))(hy:ev ρ y=some v)(hn:Nat.blt d n=true)(h:Nx (v) Γ):bm P X n ds (some d) (.pick c x y) ty Nx ρ Γ:=
 b_ (by simp) hn fun e o w ax aS he bg hs=>⟨v,w,Γ,by simp[execOp,ax,he y v hy,he c _ hc,asBool],hs,h⟩
theorem Q_{c x y:Operand}{v:Value}(hc:ev ρ c=some (.bool false))(hy:ev ρ y=some v):bI P (.pick c x y) ty ρ Γ (v):=
 ⟨by simp,fun e o E w ax aS he bg hs=>by simp[execOp,ax,he y v hy,he c _ hc,asBool]⟩
theorem Rb{x:Operand}{a:Addr}(hx:ev ρ x=some (.pointer (some a)))(hn:Nat.blt d n=true)(h:Nx (.pointer (some a)) Γ):bm P X n ds (some d) (.nilCheck x) ty Nx ρ Γ:=
 b_ (by simp) hn fun e o w ax aS he bg hs=>⟨_,w,Γ,by simp[execOp,ax,he x _ hx],hs,h⟩
theorem Fz{x:Operand}{a:Addr}(hx:ev ρ x=some (.pointer (some a))):bI P (.nilCheck x) ty ρ Γ (.pointer (some a)):=
 ⟨by simp,fun e o E w ax aS he bg hs=>by simp[execOp,ax,he x _ hx]⟩
theorem J3{x:Operand}{i:Nat}{vs:List Value}{v:Value}(hx:ev ρ x=some (.tuple vs.toArray))(hv:vs[i]? =some v)(hn:Nat.blt d n=true)(h:Nx (v) Γ):bm P X n ds (some d) (.extract x i) ty Nx ρ Γ:=
 b_ (by simp) hn fun e o w ax aS he bg hs=>⟨v,w,Γ,by simp[execOp,ax,he x _ hx,Instr.extract,hv],hs,h⟩
theorem yF{x:Operand}{i:Nat}{vs:List Value}{v:Value}(hx:ev ρ x=some (.tuple vs.toArray))(hv:vs[i]? =some v):bI P (.extract x i) ty ρ Γ (v):=
 ⟨by simp,fun e o E w ax aS he bg hs=>by simp[execOp,ax,he x _ hx,Instr.extract,hv]⟩
theorem oW{fn:Fn}{first caps:List Operand}{vs us:List Value}(hx:gk ρ first=some vs)(hy:gk ρ caps=some us)(hn:Nat.blt d n=true)(h:Nx (.func fn vs.toArray us.toArray) Γ):
 bm P X n ds (some d) (.makeFunc fn first.toArray caps.toArray) ty Nx ρ Γ:=
 b_ (by simp) hn fun e o w ax aS he bg hs=>⟨_,w,Γ,by simp[execOp,ax,Instr.makeFunc,bg _ _ hx,bg _ _ hy],hs,h⟩
theorem Rd{fn:Fn}{first caps:List Operand}{vs us:List Value}(hx:gk ρ first=some vs)(hy:gk ρ caps=some us):bI P (.makeFunc fn first.toArray caps.toArray) ty ρ Γ (.func fn vs.toArray us.toArray):=
 ⟨by simp,fun e o E w ax aS he bg hs=>by simp[execOp,ax,Instr.makeFunc,bg _ _ hx,bg _ _ hy]⟩
theorem Co{t:TypeId}{x:Operand}{b:Bool}(hx:ev ρ x=some (.bool b))(hn:Nat.blt d n=true)(h:Nx (.bool (!b)) Γ):bm P X n ds (some d) (.unOp .not t x) ty Nx ρ Γ:=
 b_ (by simp) hn fun e o w ax aS he bg hs=>⟨_,w,Γ,by simp[execOp,ax,he x _ hx,Op.unary],hs,h⟩
theorem J4{t:TypeId}{x:Operand}{b:Bool}(hx:ev ρ x=some (.bool b)):bI P (.unOp .not t x) ty ρ Γ (.bool (!b)):=
 ⟨by simp,fun e o E w ax aS he bg hs=>by simp[execOp,ax,he x _ hx,Op.unary]⟩
theorem eP{op:BinOp}{t:TypeId}{x y:Operand}{yt:TypeId}{kk:IntKind}{a b:Int}{r:Value}(ax:op≠.shl∧op≠.shr){e:Operand→Value}{o:Oper}{w:World}
 (ho:o.op= .binOp op t x y yt) (hx:e x= .int kk a) (hy:e y= .int kk b)
 (hr:(match op with| .add| .sub| .mul=>Op.intArith op kk a b| .quo| .rem=>Op.intDiv op kk a b| .and| .or| .xor| .andNot=>Op.intBits op kk a b|_=>Op.intCmp op a b).run P w= .ok r w):
 (execOp e o).run P w= .ok (.value r) w:=by
 have hg:(eqGuard op t x y (.int kk a) (.int kk b)).run P w= .ok () w:=by
  unfold eqGuard;cases op<;>simp
 have hb:(binOp op t (.int kk a) (.int kk b)).run P w= .ok r w:=by
  cases op<;>first|(exact absurd rfl ax.1)|(exact absurd rfl ax.2)|(simpa[binOp]using hr)
 simp only[execOp,ho,hx,hy,Sem.run_bind,hg,Result.andThen_ok,hb,Sem.run_pure]
theorem sG{t yt:TypeId}{x y:Operand}{kk:IntKind}{a b:Int}(hx:ev ρ x=some (.int kk a))(hy:ev ρ y=some (.int kk b))(hw:kk.wrap (a+b)=a+b)(hn:Nat.blt d n=true)
 (h:Nx (.int kk (a+b)) Γ):bm P X n ds (some d) (.binOp .add t x y yt) ty Nx ρ Γ:=
 b_ (by simp) hn fun e o w ax aS he bg hs=>⟨_,w,Γ,eP (by simp) ax (he _ _ hx) (he _ _ hy) (by simp[Op.intArith,hw]),hs,h⟩
theorem Cp{t yt:TypeId}{x y:Operand}{kk:IntKind}{a b:Int}(hx:ev ρ x=some (.int kk a))(hy:ev ρ y=some (.int kk b))(hw:kk.wrap (a+b)=a+b):bI P (.binOp .add t x y yt) ty ρ Γ (.int kk (a+b)):=
 ⟨by simp,fun e o E w ax aS he bg hs=>eP (by simp) ax (he _ _ hx) (he _ _ hy) (by simp[Op.intArith,hw])⟩
theorem Re{t yt:TypeId}{x y:Operand}{kk:IntKind}{a b:Int}(hx:ev ρ x=some (.int kk a))(hy:ev ρ y=some (.int kk b)):bI P (.binOp .add t x y yt) ty ρ Γ (.int kk (kk.wrap (a+b))):=
 ⟨by simp,fun e o E w ax aS he bg hs=>eP (by simp) ax (he _ _ hx) (he _ _ hy) (by simp[Op.intArith])⟩
theorem FA{t yt:TypeId}{x y:Operand}{kk:IntKind}{a b:Int}(hx:ev ρ x=some (.int kk a))(hy:ev ρ y=some (.int kk b))(hw:kk.wrap (a-b)=a-b)(hn:Nat.blt d n=true)
 (h:Nx (.int kk (a-b)) Γ):bm P X n ds (some d) (.binOp .sub t x y yt) ty Nx ρ Γ:=
 b_ (by simp) hn fun e o w ax aS he bg hs=>⟨_,w,Γ,eP (by simp) ax (he _ _ hx) (he _ _ hy) (by simp[Op.intArith,hw]),hs,h⟩
theorem FB{t yt:TypeId}{x y:Operand}{kk:IntKind}{a b:Int}(hx:ev ρ x=some (.int kk a))(hy:ev ρ y=some (.int kk b))(hw:kk.wrap (a-b)=a-b):bI P (.binOp .sub t x y yt) ty ρ Γ (.int kk (a-b)):=
 ⟨by simp,fun e o E w ax aS he bg hs=>eP (by simp) ax (he _ _ hx) (he _ _ hy) (by simp[Op.intArith,hw])⟩
theorem Rf{t yt:TypeId}{x y:Operand}{kk:IntKind}{a b:Int}(hx:ev ρ x=some (.int kk a))(hy:ev ρ y=some (.int kk b)):bI P (.binOp .sub t x y yt) ty ρ Γ (.int kk (kk.wrap (a-b))):=
 ⟨by simp,fun e o E w ax aS he bg hs=>eP (by simp) ax (he _ _ hx) (he _ _ hy) (by simp[Op.intArith])⟩
theorem Cq{t yt:TypeId}{x y:Operand}{kk:IntKind}{a b:Int}(hx:ev ρ x=some (.int kk a))(hy:ev ρ y=some (.int kk b))(hw:kk.wrap (a*b)=a*b)(hn:Nat.blt d n=true)
 (h:Nx (.int kk (a*b)) Γ):bm P X n ds (some d) (.binOp .mul t x y yt) ty Nx ρ Γ:=
 b_ (by simp) hn fun e o w ax aS he bg hs=>⟨_,w,Γ,eP (by simp) ax (he _ _ hx) (he _ _ hy) (by simp[Op.intArith,hw]),hs,h⟩
theorem Cr{t yt:TypeId}{x y:Operand}{kk:IntKind}{a b:Int}(hx:ev ρ x=some (.int kk a))(hy:ev ρ y=some (.int kk b))(hw:kk.wrap (a*b)=a*b):bI P (.binOp .mul t x y yt) ty ρ Γ (.int kk (a*b)):=
 ⟨by simp,fun e o E w ax aS he bg hs=>eP (by simp) ax (he _ _ hx) (he _ _ hy) (by simp[Op.intArith,hw])⟩
theorem Rg{t yt:TypeId}{x y:Operand}{kk:IntKind}{a b:Int}(hx:ev ρ x=some (.int kk a))(hy:ev ρ y=some (.int kk b)):bI P (.binOp .mul t x y yt) ty ρ Γ (.int kk (kk.wrap (a*b))):=
 ⟨by simp,fun e o E w ax aS he bg hs=>eP (by simp) ax (he _ _ hx) (he _ _ hy) (by simp[Op.intArith])⟩
theorem J5{t yt:TypeId}{x y:Operand}{kk:IntKind}{a b:Int}(hx:ev ρ x=some (.int kk a))(hy:ev ρ y=some (.int kk b))(ha:0≤a)(hb:0<b)(hn:Nat.blt d n=true)
 (h:Nx (.int kk (a%b)) Γ):bm P X n ds (some d) (.binOp .rem t x y yt) ty Nx ρ Γ:=
 b_ (by simp) hn fun e o w ax aS he bg hs=>⟨_,w,Γ,eP (by simp) ax (he _ _ hx) (he _ _ hy) (by
  have:b≠0:=by omega
  simp[Op.intDiv,this,Int.tmod_eq_emod_of_nonneg ha]),hs,h⟩
theorem Rh{t yt:TypeId}{x y:Operand}{kk:IntKind}{a b:Int}(hx:ev ρ x=some (.int kk a))(hy:ev ρ y=some (.int kk b))(ha:0≤a)(hb:0<b):bI P (.binOp .rem t x y yt) ty ρ Γ (.int kk (a%b)):=
 ⟨by simp,fun e o E w ax aS he bg hs=>eP (by simp) ax (he _ _ hx) (he _ _ hy) (by
  have:b≠0:=by omega
  simp[Op.intDiv,this,Int.tmod_eq_emod_of_nonneg ha])⟩
theorem Rj{t yt:TypeId}{x y:Operand}{kk:IntKind}{a b:Int}(hx:ev ρ x=some (.int kk a))(hy:ev ρ y=some (.int kk b))(ha:0≤a)(hb:0<b)(hw:kk.wrap (a/b)=a/b)(hn:Nat.blt d n=true)
 (h:Nx (.int kk (a/b)) Γ):bm P X n ds (some d) (.binOp .quo t x y yt) ty Nx ρ Γ:=
 b_ (by simp) hn fun e o w ax aS he bg hs=>⟨_,w,Γ,eP (by simp) ax (he _ _ hx) (he _ _ hy) (by
  have:b≠0:=by omega
  simp[Op.intDiv,this,Int.tdiv_eq_ediv_of_nonneg ha,hw]),hs,h⟩
theorem J6{t yt:TypeId}{x y:Operand}{kk:IntKind}{a b:Int}(hx:ev ρ x=some (.int kk a))(hy:ev ρ y=some (.int kk b))(ha:0≤a)(hb:0<b)(hw:kk.wrap (a/b)=a/b):bI P (.binOp .quo t x y yt) ty ρ Γ (.int kk (a/b)):=
 ⟨by simp,fun e o E w ax aS he bg hs=>eP (by simp) ax (he _ _ hx) (he _ _ hy) (by
  have:b≠0:=by omega
  simp[Op.intDiv,this,Int.tdiv_eq_ediv_of_nonneg ha,hw])⟩
theorem Rl{t yt:TypeId}{x y:Operand}{kk:IntKind}{a b:Int}{op:BinOp}{r:Value}(J7:op= .and∨op= .or∨op= .xor∨op= .andNot)(hx:ev ρ x=some (.int kk a))(hy:ev ρ y=some (.int kk b))(hr:∀w,(Op.intBits op kk a b).run P w= .ok r w):bI P (.binOp op t x y yt) ty ρ Γ (r):=
 ⟨by simp,fun e o E w ax aS he bg hs=>eP (by rcases J7 with rfl|rfl|rfl|rfl<;>simp) ax (he _ _ hx) (he _ _ hy) (by rcases J7 with rfl|rfl|rfl|rfl<;>exact hr w)⟩
theorem FC{t yt:TypeId}{x y:Operand}{kk ky:IntKind}{a b:Int}(hx:ev ρ x=some (.int kk a))(hy:ev ρ y=some (.int ky b))(hb:0≤b∧b<kk.bits)(hw:kk.wrap (a*2^b.toNat)=a*2^b.toNat)(hn:Nat.blt d n=true)
 (h:Nx (.int kk (a*2^b.toNat)) Γ):bm P X n ds (some d) (.binOp .shl t x y yt) ty Nx ρ Γ:=
 b_ (by simp) hn fun e o w ax aS he bg hs=>⟨_,w,Γ,by
  have h1:¬b<0:=by omega
  have h2:min b.toNat kk.bits=b.toNat:=by omega
  simp[execOp,ax,he _ _ hx,he _ _ hy,eqGuard,binOp,Op.shift,h1,h2,hw],hs,h⟩
theorem FD{t yt:TypeId}{x y:Operand}{kk ky:IntKind}{a b:Int}(hx:ev ρ x=some (.int kk a))(hy:ev ρ y=some (.int ky b))(hb:0≤b∧b<kk.bits)(hw:kk.wrap (a*2^b.toNat)=a*2^b.toNat):bI P (.binOp .shl t x y yt) ty ρ Γ (.int kk (a*2^b.toNat)):=
 ⟨by simp,fun e o E w ax aS he bg hs=>by
  have h1:¬b<0:=by omega
  have h2:min b.toNat kk.bits=b.toNat:=by omega
  simp[execOp,ax,he _ _ hx,he _ _ hy,eqGuard,binOp,Op.shift,h1,h2,hw]⟩
theorem wu{t yt:TypeId}{x y:Operand}{kk ky:IntKind}{a b:Int}(hx:ev ρ x=some (.int kk a))(hy:ev ρ y=some (.int ky b))(hb:0≤b∧b<kk.bits)(hn:Nat.blt d n=true)
 (h:Nx (.int kk (a.fdiv (2^b.toNat))) Γ):bm P X n ds (some d) (.binOp .shr t x y yt) ty Nx ρ Γ:=
 b_ (by simp) hn fun e o w ax aS he bg hs=>⟨_,w,Γ,by
  have h1:¬b<0:=by omega
  have h2:min b.toNat kk.bits=b.toNat:=by omega
  simp[execOp,ax,he _ _ hx,he _ _ hy,eqGuard,binOp,Op.shift,h1,h2],hs,h⟩
theorem Rm{t yt:TypeId}{x y:Operand}{kk ky:IntKind}{a b:Int}(hx:ev ρ x=some (.int kk a))(hy:ev ρ y=some (.int ky b))(hb:0≤b∧b<kk.bits):bI P (.binOp .shr t x y yt) ty ρ Γ (.int kk (a.fdiv (2^b.toNat))):=
 ⟨by simp,fun e o E w ax aS he bg hs=>by
  have h1:¬b<0:=by omega
  have h2:min b.toNat kk.bits=b.toNat:=by omega
  simp[execOp,ax,he _ _ hx,he _ _ hy,eqGuard,binOp,Op.shift,h1,h2]⟩
theorem Rn{t yt:TypeId}{x y:Operand}{kk:IntKind}{a b:Int}(hx:ev ρ x=some (.int kk a))(hy:ev ρ y=some (.int kk b))(c:a<b)(hn:Nat.blt d n=true)
 (h:Nx (.bool true) Γ):bm P X n ds (some d) (.binOp .lss t x y yt) ty Nx ρ Γ:=
 b_ (by simp) hn fun e o w ax aS he bg hs=>⟨_,w,Γ,eP (by simp) ax (he _ _ hx) (he _ _ hy) (by simp[Op.intCmp,c]),hs,h⟩
theorem J8{t yt:TypeId}{x y:Operand}{kk:IntKind}{a b:Int}(hx:ev ρ x=some (.int kk a))(hy:ev ρ y=some (.int kk b))(c:a<b):bI P (.binOp .lss t x y yt) ty ρ Γ (.bool true):=
 ⟨by simp,fun e o E w ax aS he bg hs=>eP (by simp) ax (he _ _ hx) (he _ _ hy) (by simp[Op.intCmp,c])⟩
theorem J9{t yt:TypeId}{x y:Operand}{kk:IntKind}{a b:Int}(hx:ev ρ x=some (.int kk a))(hy:ev ρ y=some (.int kk b))(c:¬a<b)(hn:Nat.blt d n=true)
 (h:Nx (.bool false) Γ):bm P X n ds (some d) (.binOp .lss t x y yt) ty Nx ρ Γ:=
 b_ (by simp) hn fun e o w ax aS he bg hs=>⟨_,w,Γ,eP (by simp) ax (he _ _ hx) (he _ _ hy) (by simp[Op.intCmp];omega),hs,h⟩
theorem J_{t yt:TypeId}{x y:Operand}{kk:IntKind}{a b:Int}(hx:ev ρ x=some (.int kk a))(hy:ev ρ y=some (.int kk b))(c:¬a<b):bI P (.binOp .lss t x y yt) ty ρ Γ (.bool false):=
 ⟨by simp,fun e o E w ax aS he bg hs=>eP (by simp) ax (he _ _ hx) (he _ _ hy) (by simp[Op.intCmp];omega)⟩
theorem m7{t yt:TypeId}{x y:Operand}{kk:IntKind}{a b:Int}(hx:ev ρ x=some (.int kk a))(hy:ev ρ y=some (.int kk b))(hn:Nat.blt d n=true)
 (h:(a<b)→Nx (.bool true) Γ) (h':(¬a<b)→Nx (.bool false) Γ):bm P X n ds (some d) (.binOp .lss t x y yt) ty Nx ρ Γ:=by
 by_cases c:a<b
 ·exact Rn hx hy c hn (h c)
 ·exact J9 hx hy (by exact c) hn (h' (by exact c))
theorem Ka{t yt:TypeId}{x y:Operand}{kk:IntKind}{a b:Int}(hx:ev ρ x=some (.int kk a))(hy:ev ρ y=some (.int kk b))(c:a≤b)(hn:Nat.blt d n=true)
 (h:Nx (.bool true) Γ):bm P X n ds (some d) (.binOp .leq t x y yt) ty Nx ρ Γ:=
 b_ (by simp) hn fun e o w ax aS he bg hs=>⟨_,w,Γ,eP (by simp) ax (he _ _ hx) (he _ _ hy) (by simp[Op.intCmp,c]),hs,h⟩
theorem Ro{t yt:TypeId}{x y:Operand}{kk:IntKind}{a b:Int}(hx:ev ρ x=some (.int kk a))(hy:ev ρ y=some (.int kk b))(c:a≤b):bI P (.binOp .leq t x y yt) ty ρ Γ (.bool true):=
 ⟨by simp,fun e o E w ax aS he bg hs=>eP (by simp) ax (he _ _ hx) (he _ _ hy) (by simp[Op.intCmp,c])⟩
theorem Kb{t yt:TypeId}{x y:Operand}{kk:IntKind}{a b:Int}(hx:ev ρ x=some (.int kk a))(hy:ev ρ y=some (.int kk b))(c:¬a≤b)(hn:Nat.blt d n=true)
 (h:Nx (.bool false) Γ):bm P X n ds (some d) (.binOp .leq t x y yt) ty Nx ρ Γ:=
 b_ (by simp) hn fun e o w ax aS he bg hs=>⟨_,w,Γ,eP (by simp) ax (he _ _ hx) (he _ _ hy) (by simp[Op.intCmp];omega),hs,h⟩
theorem acx{t yt:TypeId}{x y:Operand}{kk:IntKind}{a b:Int}(hx:ev ρ x=some (.int kk a))(hy:ev ρ y=some (.int kk b))(c:¬a≤b):bI P (.binOp .leq t x y yt) ty ρ Γ (.bool false):=
 ⟨by simp,fun e o E w ax aS he bg hs=>eP (by simp) ax (he _ _ hx) (he _ _ hy) (by simp[Op.intCmp];omega)⟩
theorem FE{t yt:TypeId}{x y:Operand}{kk:IntKind}{a b:Int}(hx:ev ρ x=some (.int kk a))(hy:ev ρ y=some (.int kk b))(hn:Nat.blt d n=true)
 (h:(a≤b)→Nx (.bool true) Γ) (h':(¬a≤b)→Nx (.bool false) Γ):bm P X n ds (some d) (.binOp .leq t x y yt) ty Nx ρ Γ:=by
 by_cases c:a≤b
 ·exact Ka hx hy c hn (h c)
 ·exact Kb hx hy (by exact c) hn (h' (by exact c))
theorem FG{t yt:TypeId}{x y:Operand}{kk:IntKind}{a b:Int}(hx:ev ρ x=some (.int kk a))(hy:ev ρ y=some (.int kk b))(c:b<a)(hn:Nat.blt d n=true)
 (h:Nx (.bool true) Γ):bm P X n ds (some d) (.binOp .gtr t x y yt) ty Nx ρ Γ:=
 b_ (by simp) hn fun e o w ax aS he bg hs=>⟨_,w,Γ,eP (by simp) ax (he _ _ hx) (he _ _ hy) (by simp[Op.intCmp,c]),hs,h⟩
theorem Kc{t yt:TypeId}{x y:Operand}{kk:IntKind}{a b:Int}(hx:ev ρ x=some (.int kk a))(hy:ev ρ y=some (.int kk b))(c:b<a):bI P (.binOp .gtr t x y yt) ty ρ Γ (.bool true):=
 ⟨by simp,fun e o E w ax aS he bg hs=>eP (by simp) ax (he _ _ hx) (he _ _ hy) (by simp[Op.intCmp,c])⟩
theorem FH{t yt:TypeId}{x y:Operand}{kk:IntKind}{a b:Int}(hx:ev ρ x=some (.int kk a))(hy:ev ρ y=some (.int kk b))(c:¬b<a)(hn:Nat.blt d n=true)
 (h:Nx (.bool false) Γ):bm P X n ds (some d) (.binOp .gtr t x y yt) ty Nx ρ Γ:=
 b_ (by simp) hn fun e o w ax aS he bg hs=>⟨_,w,Γ,eP (by simp) ax (he _ _ hx) (he _ _ hy) (by simp[Op.intCmp];omega),hs,h⟩
theorem FI{t yt:TypeId}{x y:Operand}{kk:IntKind}{a b:Int}(hx:ev ρ x=some (.int kk a))(hy:ev ρ y=some (.int kk b))(c:¬b<a):bI P (.binOp .gtr t x y yt) ty ρ Γ (.bool false):=
 ⟨by simp,fun e o E w ax aS he bg hs=>eP (by simp) ax (he _ _ hx) (he _ _ hy) (by simp[Op.intCmp];omega)⟩
theorem FJ{t yt:TypeId}{x y:Operand}{kk:IntKind}{a b:Int}(hx:ev ρ x=some (.int kk a))(hy:ev ρ y=some (.int kk b))(hn:Nat.blt d n=true)
 (h:(b<a)→Nx (.bool true) Γ) (h':(¬b<a)→Nx (.bool false) Γ):bm P X n ds (some d) (.binOp .gtr t x y yt) ty Nx ρ Γ:=by
 by_cases c:b<a
 ·exact FG hx hy c hn (h c)
 ·exact FH hx hy (by exact c) hn (h' (by exact c))
theorem Kd{t yt:TypeId}{x y:Operand}{kk:IntKind}{a b:Int}(hx:ev ρ x=some (.int kk a))(hy:ev ρ y=some (.int kk b))(c:b≤a)(hn:Nat.blt d n=true)
 (h:Nx (.bool true) Γ):bm P X n ds (some d) (.binOp .geq t x y yt) ty Nx ρ Γ:=
 b_ (by simp) hn fun e o w ax aS he bg hs=>⟨_,w,Γ,eP (by simp) ax (he _ _ hx) (he _ _ hy) (by simp[Op.intCmp,c]),hs,h⟩
theorem Ke{t yt:TypeId}{x y:Operand}{kk:IntKind}{a b:Int}(hx:ev ρ x=some (.int kk a))(hy:ev ρ y=some (.int kk b))(c:b≤a):bI P (.binOp .geq t x y yt) ty ρ Γ (.bool true):=
 ⟨by simp,fun e o E w ax aS he bg hs=>eP (by simp) ax (he _ _ hx) (he _ _ hy) (by simp[Op.intCmp,c])⟩
theorem Kf{t yt:TypeId}{x y:Operand}{kk:IntKind}{a b:Int}(hx:ev ρ x=some (.int kk a))(hy:ev ρ y=some (.int kk b))(c:¬b≤a)(hn:Nat.blt d n=true)
 (h:Nx (.bool false) Γ):bm P X n ds (some d) (.binOp .geq t x y yt) ty Nx ρ Γ:=
 b_ (by simp) hn fun e o w ax aS he bg hs=>⟨_,w,Γ,eP (by simp) ax (he _ _ hx) (he _ _ hy) (by simp[Op.intCmp];omega),hs,h⟩
theorem Kg{t yt:TypeId}{x y:Operand}{kk:IntKind}{a b:Int}(hx:ev ρ x=some (.int kk a))(hy:ev ρ y=some (.int kk b))(c:¬b≤a):bI P (.binOp .geq t x y yt) ty ρ Γ (.bool false):=
 ⟨by simp,fun e o E w ax aS he bg hs=>eP (by simp) ax (he _ _ hx) (he _ _ hy) (by simp[Op.intCmp];omega)⟩
theorem wz{t yt:TypeId}{x y:Operand}{kk:IntKind}{a b:Int}(hx:ev ρ x=some (.int kk a))(hy:ev ρ y=some (.int kk b))(hn:Nat.blt d n=true)
 (h:(b≤a)→Nx (.bool true) Γ) (h':(¬b≤a)→Nx (.bool false) Γ):bm P X n ds (some d) (.binOp .geq t x y yt) ty Nx ρ Γ:=by
 by_cases c:b≤a
 ·exact Kd hx hy c hn (h c)
 ·exact Kf hx hy (by exact c) hn (h' (by exact c))
theorem FK{t yt:TypeId}{x y:Operand}{kk:IntKind}{a b:Int}(hx:ev ρ x=some (.int kk a))(hy:ev ρ y=some (.int kk b))(c:a=b)(hn:Nat.blt d n=true)
 (h:Nx (.bool true) Γ):bm P X n ds (some d) (.binOp .eql t x y yt) ty Nx ρ Γ:=
 b_ (by simp) hn fun e o w ax aS he bg hs=>⟨_,w,Γ,eP (by simp) ax (he _ _ hx) (he _ _ hy) (by simp[Op.intCmp,c]),hs,h⟩
theorem Kh{t yt:TypeId}{x y:Operand}{kk:IntKind}{a b:Int}(hx:ev ρ x=some (.int kk a))(hy:ev ρ y=some (.int kk b))(c:a=b):bI P (.binOp .eql t x y yt) ty ρ Γ (.bool true):=
 ⟨by simp,fun e o E w ax aS he bg hs=>eP (by simp) ax (he _ _ hx) (he _ _ hy) (by simp[Op.intCmp,c])⟩
theorem Rp{t yt:TypeId}{x y:Operand}{kk:IntKind}{a b:Int}(hx:ev ρ x=some (.int kk a))(hy:ev ρ y=some (.int kk b))(c:a≠b)(hn:Nat.blt d n=true)
 (h:Nx (.bool false) Γ):bm P X n ds (some d) (.binOp .eql t x y yt) ty Nx ρ Γ:=
 b_ (by simp) hn fun e o w ax aS he bg hs=>⟨_,w,Γ,eP (by simp) ax (he _ _ hx) (he _ _ hy) (by simp[Op.intCmp];exact c),hs,h⟩
theorem Rq{t yt:TypeId}{x y:Operand}{kk:IntKind}{a b:Int}(hx:ev ρ x=some (.int kk a))(hy:ev ρ y=some (.int kk b))(c:a≠b):bI P (.binOp .eql t x y yt) ty ρ Γ (.bool false):=
 ⟨by simp,fun e o E w ax aS he bg hs=>eP (by simp) ax (he _ _ hx) (he _ _ hy) (by simp[Op.intCmp];exact c)⟩
theorem Rs{t yt:TypeId}{x y:Operand}{kk:IntKind}{a b:Int}(hx:ev ρ x=some (.int kk a))(hy:ev ρ y=some (.int kk b))(hn:Nat.blt d n=true)
 (h:(a=b)→Nx (.bool true) Γ) (h':(a≠b)→Nx (.bool false) Γ):bm P X n ds (some d) (.binOp .eql t x y yt) ty Nx ρ Γ:=by
 by_cases c:a=b
 ·exact FK hx hy c hn (h c)
 ·exact Rp hx hy (by exact c) hn (h' (by exact c))
theorem Ki{t yt:TypeId}{x y:Operand}{kk:IntKind}{a b:Int}(hx:ev ρ x=some (.int kk a))(hy:ev ρ y=some (.int kk b))(c:a≠b)(hn:Nat.blt d n=true)
 (h:Nx (.bool true) Γ):bm P X n ds (some d) (.binOp .neq t x y yt) ty Nx ρ Γ:=
 b_ (by simp) hn fun e o w ax aS he bg hs=>⟨_,w,Γ,eP (by simp) ax (he _ _ hx) (he _ _ hy) (by simp[Op.intCmp];exact c),hs,h⟩
theorem Ru{t yt:TypeId}{x y:Operand}{kk:IntKind}{a b:Int}(hx:ev ρ x=some (.int kk a))(hy:ev ρ y=some (.int kk b))(c:a≠b):bI P (.binOp .neq t x y yt) ty ρ Γ (.bool true):=
 ⟨by simp,fun e o E w ax aS he bg hs=>eP (by simp) ax (he _ _ hx) (he _ _ hy) (by simp[Op.intCmp];exact c)⟩
theorem Cs{t yt:TypeId}{x y:Operand}{kk:IntKind}{a b:Int}(hx:ev ρ x=some (.int kk a))(hy:ev ρ y=some (.int kk b))(c:a=b)(hn:Nat.blt d n=true)
 (h:Nx (.bool false) Γ):bm P X n ds (some d) (.binOp .neq t x y yt) ty Nx ρ Γ:=
 b_ (by simp) hn fun e o w ax aS he bg hs=>⟨_,w,Γ,eP (by simp) ax (he _ _ hx) (he _ _ hy) (by simp[Op.intCmp,c]),hs,h⟩
theorem FL{t yt:TypeId}{x y:Operand}{kk:IntKind}{a b:Int}(hx:ev ρ x=some (.int kk a))(hy:ev ρ y=some (.int kk b))(c:a=b):bI P (.binOp .neq t x y yt) ty ρ Γ (.bool false):=
 ⟨by simp,fun e o E w ax aS he bg hs=>eP (by simp) ax (he _ _ hx) (he _ _ hy) (by simp[Op.intCmp,c])⟩
theorem Rv{t yt:TypeId}{x y:Operand}{kk:IntKind}{a b:Int}(hx:ev ρ x=some (.int kk a))(hy:ev ρ y=some (.int kk b))(hn:Nat.blt d n=true)
 (h:(a≠b)→Nx (.bool true) Γ) (h':(a=b)→Nx (.bool false) Γ):bm P X n ds (some d) (.binOp .neq t x y yt) ty Nx ρ Γ:=by
 by_cases c:a≠b
 ·exact Ki hx hy c hn (h c)
 ·exact Cs hx hy (by exact Decidable.not_not.1 c) hn (h' (by exact Decidable.not_not.1 c))
theorem Kj{t f off:Nat}[T:bF P t f off](b o:Nat)(w:World):(Instr.fieldAt t (.pointer (some ⟨b,o,none⟩)) f).run P w= .ok (.pointer (some ⟨b,o+off,none⟩)) w:=by
 obtain⟨fs,fd,i,hu,hf,rfl,hi,hz⟩:=T.h;simp[Instr.fieldAt,cN hu,hf,Instr.sureAddr,fieldPlace,eB hi,hz,Addr.kL]
theorem Kk{t f off:Nat}{x:Operand}{b o:Nat}[T:bF P t f off](hx:ev ρ x=some (.pointer (some ⟨b,o,none⟩)))(hn:Nat.blt d n=true)(h:Nx (.pointer (some ⟨b,o+off,none⟩)) Γ):
 bm P X n ds (some d) (.fieldAddr t x f) ty Nx ρ Γ:=
 b_ (by simp) hn fun e o w ax aS he bg hs=>⟨_,w,Γ,by simp[execOp,ax,he x _ hx,Kj],hs,h⟩
theorem om{t f off:Nat}{x:Operand}{b o:Nat}[T:bF P t f off](hx:ev ρ x=some (.pointer (some ⟨b,o,none⟩))):bI P (.fieldAddr t x f) ty ρ Γ (.pointer (some ⟨b,o+off,none⟩)):=
 ⟨by simp,fun e o E w ax aS he bg hs=>by simp[execOp,ax,he x _ hx,Kj]⟩
theorem FM{t e s y:Nat}{x ix:Operand}{b off len cap j:Nat}{kk:IntKind}{i:Int}[T:cX P t e s y](hx:ev ρ x=some (.slice (some ⟨b,off,none⟩) len cap))(hi:ev ρ ix=some (.int kk i))(hj:i=(j:Int))(aN:j<len)
 (hn:Nat.blt d n=true) (h:Nx (.pointer (some ⟨b,off+j*s,none⟩)) Γ):bm P X n ds (some d) (.indexAddr t x ix) ty Nx ρ Γ:=
 b_ (by simp) hn fun ee o w ax aS he bg hs=>⟨_,w,Γ,by
  obtain⟨hu,inf,en,bZ,_⟩:=T.fL;subst hj;have h1:(0:Int)≤j∧(j:Int)<len:=by omega
  simp[execOp,ax,he x _ hx,he ix _ hi,Instr.indexAt,asIntOf,cN hu,eB en,bZ,aN,Addr.kL],hs,h⟩
theorem Rw{t e s y:Nat}{x ix:Operand}{b off len cap j:Nat}{kk:IntKind}{i:Int}[T:cX P t e s y](hx:ev ρ x=some (.slice (some ⟨b,off,none⟩) len cap))(hi:ev ρ ix=some (.int kk i))(hj:i=(j:Int))(aN:j<len):bI P (.indexAddr t x ix) ty ρ Γ (.pointer (some ⟨b,off+j*s,none⟩)):=
 ⟨by simp,fun ee o E w ax aS he bg hs=>by
  obtain⟨hu,inf,en,bZ,_⟩:=T.fL;subst hj;have h1:(0:Int)≤j∧(j:Int)<len:=by omega
  simp[execOp,ax,he x _ hx,he ix _ hi,Instr.indexAt,asIntOf,cN hu,eB en,bZ,aN,Addr.kL]⟩
theorem dd{t m e s:Nat}{x ix:Operand}{b off j:Nat}{kk:IntKind}{i:Int}[T:iR P t m e s](hx:ev ρ x=some (.pointer (some ⟨b,off,none⟩)))(hi:ev ρ ix=some (.int kk i))(hj:i=(j:Int))(aN:j<m)
 (hn:Nat.blt d n=true) (h:Nx (.pointer (some ⟨b,off+j*s,none⟩)) Γ):bm P X n ds (some d) (.indexAddr t x ix) ty Nx ρ Γ:=
 b_ (by simp) hn fun ee o w ax aS he bg hs=>⟨_,w,Γ,by
  obtain⟨hu,inf,en,bZ⟩:=T.fL;subst hj;simp[execOp,ax,he x _ hx,he ix _ hi,Instr.indexAt,asIntOf,cN hu,eB en,bZ,aN,Instr.sureAddr,Addr.kL],hs,h⟩
theorem du{t m e s:Nat}{x ix:Operand}{b off j:Nat}{kk:IntKind}{i:Int}[T:iR P t m e s](hx:ev ρ x=some (.pointer (some ⟨b,off,none⟩)))(hi:ev ρ ix=some (.int kk i))(hj:i=(j:Int))(aN:j<m):bI P (.indexAddr t x ix) ty ρ Γ (.pointer (some ⟨b,off+j*s,none⟩)):=
 ⟨by simp,fun ee o E w ax aS he bg hs=>by
  obtain⟨hu,inf,en,bZ⟩:=T.fL;subst hj;simp[execOp,ax,he x _ hx,he ix _ hi,Instr.indexAt,asIntOf,cN hu,eB en,bZ,aN,Instr.sureAddr,Addr.kL]⟩
def Cell(Γ:List HP)(b o:Nat)(v:Value):Prop:=∀E w,St E Γ w→w.cell? ⟨b,o,none⟩=some v
theorem Cell.row{b off o:Nat}{vs:List Value}{v:Value}[H:lq Γ b off vs](ho:Nat.ble off o=true)(h:vs[o-off]? =some v):Cell Γ b o v:=fun E w s=>by
 have:=(s.yE (b:=b) h).1;rwa[show off+(o-off)=o by have:=zX ho;omega]at this
theorem FN{t:TypeId}{x:Operand}{b o:Nat}{v:Value}[T:cU P t](hx:ev ρ x=some (.pointer (some ⟨b,o,none⟩)))(hc:Cell Γ b o v)(hn:Nat.blt d n=true)(h:Nx (v) Γ):
 bm P X n ds (some d) (.load t x) ty Nx ρ Γ:=
 b_ (by simp) hn fun e o w ax aS he bg hs=>⟨v,w,Γ,by simp[execOp,ax,he x _ hx,Instr.loadAt,Instr.sureAddr,loadVar,cU.agg,hc _ _ hs],hs,h⟩
theorem FO{t:TypeId}{x:Operand}{b o:Nat}{v:Value}[T:cU P t](hx:ev ρ x=some (.pointer (some ⟨b,o,none⟩)))(hc:Cell Γ b o v):bI P (.load t x) ty ρ Γ (v):=
 ⟨by simp,fun e o E w ax aS he bg hs=>by simp[execOp,ax,he x _ hx,Instr.loadAt,Instr.sureAddr,loadVar,cU.agg,hc _ _ hs]⟩
theorem um{t:TypeId}{x:Operand}{b o off:Nat}{vs:List Value}{v:Value}[T:cU P t](hx:ev ρ x=some (.pointer (some ⟨b,o,none⟩)))[H:lq Γ b off vs](ho:Nat.ble off o=true)(hv:vs[o-off]? =some v)(hn:Nat.blt d n=true)
 (h:Nx (v) Γ):bm P X n ds (some d) (.load t x) ty Nx ρ Γ:=FN hx (Cell.row ho hv) hn h
theorem iF{t:TypeId}{x:Operand}{b o off i:Nat}{vs:List Value}{v:Value}[T:cU P t](hx:ev ρ x=some (.pointer (some ⟨b,o,none⟩)))[H:lq Γ b off vs](ho:o=off+i)(hv:vs[i]? =some v)(hn:Nat.blt d n=true)
 (h:Nx (v) Γ):bm P X n ds (some d) (.load t x) ty Nx ρ Γ:=FN hx (fun E w s=>by rw[ho];exact(s.yE (b:=b) hv).1) hn h
theorem FP{t s:Nat}{x:Operand}{b o:Nat}{us:List Value}[T:cI P t s](hx:ev ρ x=some (.pointer (some ⟨b,o,none⟩)))(hl:us.length=s)(hc:∀j v,us[j]? =some v→Cell Γ b (o+j) v)(hn:Nat.blt d n=true)(h:Nx (.agg us.toArray) Γ):
 bm P X n ds (some d) (.load t x) ty Nx ρ Γ:=
 b_ (by simp) hn fun e o' w ax aS he bg hs=>⟨_,w,Γ,by
  obtain⟨i,hi,bZ⟩:=cI.size (P:=P) (t:=t);simp[execOp,ax,he x _ hx,Instr.loadAt,Instr.sureAddr,loadVar,cI.agg,eB hi,bZ,Cl (P:=P) (w:=w) hl fun j v hj=>hc j v hj _ _ hs],hs,h⟩
theorem FQ{t s:Nat}{x:Operand}{b o:Nat}{us:List Value}[T:cI P t s](hx:ev ρ x=some (.pointer (some ⟨b,o,none⟩)))(hl:us.length=s)(hc:∀j v,us[j]? =some v→Cell Γ b (o+j) v):bI P (.load t x) ty ρ Γ (.agg us.toArray):=
 ⟨by simp,fun e o' E w ax aS he bg hs=>by
  obtain⟨i,hi,bZ⟩:=cI.size (P:=P) (t:=t);simp[execOp,ax,he x _ hx,Instr.loadAt,Instr.sureAddr,loadVar,cI.agg,eB hi,bZ,Cl (P:=P) (w:=w) hl fun j v hj=>hc j v hj _ _ hs]⟩
theorem uq{t s:Nat}{x:Operand}{b o off:Nat}{vs us:List Value}[T:cI P t s](hx:ev ρ x=some (.pointer (some ⟨b,o,none⟩)))[H:lq Γ b off vs](ho:Nat.ble off o=true)(hv:(vs.drop (o-off)).take s=us)(hl:us.length=s)(hn:Nat.blt d n=true)
 (h:Nx (.agg us.toArray) Γ):bm P X n ds (some d) (.load t x) ty Nx ρ Γ:=
 FP hx hl (fun j v hj=>Cell.row (by have:=zX ho;exact za9 ▸ (by omega:off≤o+j)) (by
  have h1:=zX ho;rw[←hv,zbb]at hj;split at hj
  ·rw[zar]at hj;rw[show o+j-off=o-off+j by omega];exact hj
  ·cases hj)) hn h
theorem wA{b off:Nat}:∀(us:List Value) (i:Nat) (w:World) (K:HP→List HP) (vs:List Value) (E:Env) (Γ:List HP),km Γ b off vs K→St E Γ w→i+us.length≤vs.length→(∀u∈us,u.oneCell'=true)→
 ∀(o q:Nat),o+q=off+i→∃w',(storeCells ⟨b,o,none⟩ us q).run P w= .ok () w'∧St E (K (Row b off (vs.take i++us++vs.drop (i+us.length)))) w':=by
 intro us;induction us with
 |nil=>
  intro i w K vs E Γ H s _ _ o q _;refine⟨w,by simp[storeCells],?_⟩;obtain⟨Δ,p,q⟩:=H.h;rw[zF,zaT,zbx,zG];exact s.perm (p.trans (q _))
 |cons u us ih=>
  intro i w K vs E Γ H s hl hu o q Ry;have aN:i<vs.length:=by simp at hl;omega
  have hi:vs[i]? =some vs[i]:=za aN;obtain⟨Δ,p,r⟩:=H.h;have hc:=(s.perm p).pX hi;have s1:=s.J1 (H:=H) u aN;have H1:km (K (Row b off (vs.set i u))) b off (vs.set i u) K:=⟨⟨Δ,(r _).symm,r⟩⟩
  obtain⟨w',hr,s2⟩:=ih (i+1) _ K (vs.set i u) E _ H1 s1 (by simp at hl⊢;omega) (fun v hv=>hu v (zP _ hv)) o (q+1) (by omega);refine⟨w',?_,?_⟩
  ·simp only[storeCells,Sem.run_bind,Addr.kL,Ry];rw[run_store P w _ u _ (hu u (zay ..)),hc.1];simp only[hc.2,zb9,if_false,Result.andThen_ok];exact hr
  ·have e:(vs.set i u).take (i+1)++us++(vs.set i u).drop (i+1+us.length)=vs.take i++u::us++vs.drop (i+(u::us).length):=by
    rw[List.drop_set_of_lt (by omega),List.take_set,za1 aN];have e1:(vs.take i++[vs[i]]).set i u=vs.take i++[u]:=by
     rw[za6 _ _ (by simp;omega)];simp[zat (Nat.le_of_lt aN)]
    rw[e1];simp[zaF,Nat.add_left_comm]
   rw[e]at s2;exact s2
theorem FR{v:Value}(h:v.oneCell'=true):v.cells= #[v]:=by cases v<;>first|rfl|cases h
theorem eZ{t:TypeId}{x y:Operand}{b o off:Nat}{vs:List Value}{v:Value}{K:HP→List HP}[T:cU P t](hx:ev ρ x=some (.pointer (some ⟨b,o,none⟩)))(hy:ev ρ y=some v)(h1:v.oneCell'=true)
 [H:km Γ b off vs K] (ho:Nat.ble off o=true) (hl:o-off<vs.length) (h:Nx undef (K (Row b off (vs.set (o-off) v)))):
 bm P X n ds none (.store t x y) ty Nx ρ Γ:=
 yD (by simp) fun e oo w ax aS he hs=>by
  have h2:=zX ho;obtain⟨i,hi,bZ⟩:=cU.size (P:=P) (t:=t);have mJ:vs[o-off]? =some vs[o-off]:=za hl;obtain⟨Δ,p,q⟩:=H.h;have hc:=(hs.perm p).pX mJ;have s1:=hs.J1 (H:=H) v hl;rw[show off+(o-off)=o by omega]at hc s1;refine⟨_,_,?_,s1,h⟩;simp[execOp,ax,he x _ hx,he y _ hy,Instr.storeAt,Instr.sureAddr,storeVar,FR h1,eB hi,bZ,storeCells,Addr.kL,run_store _ _ _ _ _ h1,hc.1,hc.2]
theorem iS{t:TypeId}{x y:Operand}{b o off i:Nat}{vs:List Value}{v:Value}{K:HP→List HP}[T:cU P t](hx:ev ρ x=some (.pointer (some ⟨b,o,none⟩)))(hy:ev ρ y=some v)(h1:v.oneCell'=true)
 [H:km Γ b off vs K] (ho:o=off+i) (hl:Nat.blt i vs.length=true) (h:Nx undef (K (Row b off (vs.set i v)))):
 bm P X n ds none (.store t x y) ty Nx ρ Γ:=by
 subst ho;have fi:i<vs.length:=by simpa[zN]using hl
 have e:off+i-off=i:=by omega
 exact eZ (off:=off) (vs:=vs) (K:=K) hx hy h1 (by simp[za9]) (by omega) (by rw[e];exact h)
theorem jH{t s:Nat}{x y:Operand}{b o off:Nat}{vs us:List Value}{K:HP→List HP}[T:cI P t s](hx:ev ρ x=some (.pointer (some ⟨b,o,none⟩)))(hy:ev ρ y=some (.agg us.toArray))(ju:us.length=s)(h1:us.all Value.oneCell'=true)
 [H:km Γ b off vs K] (ho:Nat.ble off o=true) (hl:o-off+us.length≤vs.length) (h:Nx undef (K (Row b off (vs.take (o-off)++us++vs.drop (o-off+us.length))))):
 bm P X n ds none (.store t x y) ty Nx ρ Γ:=
 yD (by simp) fun e oo w ax aS he hs=>by
  have h2:=zX ho;obtain⟨i,hi,bZ⟩:=cI.size (P:=P) (t:=t);obtain⟨w',hr,s1⟩:=wA (P:=P) us (o-off) w K vs X.E Γ H hs hl (fun u hu=>zaQ.1 h1 u hu) o 0 (by omega);refine⟨w',_,?_,s1,h⟩;simp[execOp,ax,he x _ hx,he y _ hy,Instr.storeAt,Instr.sureAddr,storeVar,Value.cells,eB hi,bZ,ju,hr]
def Rz(P:Program)(t:TypeId)(zs:List Value):Prop:=∃i v,P.info? t=some i∧i.zero=some v∧v.cells.toList=zs
class cp(P:Program)(t:TypeId)(zs:outParam (List Value)):Prop where h:Rz P t zs
theorem aC{t:TypeId}{zs:List Value}[T:cp P t zs](hn:Nat.blt d n=true)(h:∀b,Nx (.pointer (some ⟨b,0,none⟩)) (Row b 0 zs::Γ)):
 bm P X n ds (some d) (.alloc t) ty Nx ρ Γ:=
 b_ (by simp) hn fun e o w ax aS he bg hs=>by
  obtain⟨i,v,hi,hz,rfl⟩:=T.h;refine⟨_,_,_,?_,hs.sD v.cells.toList t,h w.heap.size⟩;simp[execOp,ax,Instr.alloc,zeroValue,m6 hi,hz,newVar,newRow]
theorem m8{t:TypeId}{x:Operand}{v:Value}(hx:ev ρ x=some v)(h1:v.oneCell'=true)(hn:Nat.blt d n=true)(h:∀b,Nx (.pointer (some ⟨b,0,none⟩)) (Row b 0 [v]::Γ)):
 bm P X n ds (some d) (.box t x) ty Nx ρ Γ:=
 b_ (by simp) hn fun e o w ax aS he bg hs=>⟨_,_,_,by simp[execOp,ax,he x _ hx,Instr.box,newVar,newRow,FR h1],hs.sD [v] t,h w.heap.size⟩
theorem aM{t:TypeId}{x:Operand}{vs:List Value}(hx:ev ρ x=some (.agg vs.toArray))(hn:Nat.blt d n=true)(h:∀b,Nx (.pointer (some ⟨b,0,none⟩)) (Row b 0 vs::Γ)):
 bm P X n ds (some d) (.box t x) ty Nx ρ Γ:=
 b_ (by simp) hn fun e o w ax aS he bg hs=>⟨_,_,_,by simp[execOp,ax,he x _ hx,Instr.box,newVar,newRow,Value.cells],hs.sD vs t,h w.heap.size⟩
end ops
end
section
open Go.RowKit
def Sl(s:Nat)(a:Option Addr)(len cap:Nat)(xs:List Value):HP:=fun h=>
 (a=none∧len=0∧cap=0∧xs=[]∧h=PH.emp)∨
 ∃b off junk,a=some ⟨b,off,none⟩∧xs.length=len*s∧(xs++junk).length=cap*s∧len≤cap∧h=row b off (xs++junk)
def Reads(A:HP)(s:Nat)(a:Option Addr)(len:Nat)(xs:List Value):Prop:=
 xs.length=len*s∧∀h w,A h→Wd h w→len=0∨∃b off,a=some ⟨b,off,none⟩∧∀i v,xs[i]? =some v→w.cell? ⟨b,off+i,none⟩=some v
theorem Sl.len{s len cap:Nat}{a:Option Addr}{xs:List Value}{h:PH}(H:Sl s a len cap xs h):xs.length=len*s∧len≤cap:=by
 rcases H with ⟨_,rfl,rfl,rfl,_⟩|⟨b,off,junk,_,h1,_,h3,_⟩
 ·simp
 ·exact⟨h1,h3⟩
theorem Sl.reads(s:Nat)(a:Option Addr)(len cap:Nat)(xs:List Value)(hl:xs.length=len*s):Reads (Sl s a len cap xs) s a len xs:=by
 refine⟨hl,fun h w H W=>?_⟩;rcases H with ⟨_,rfl,_,_,_⟩|⟨b,off,junk,rfl,h1,_,_,rfl⟩
 ·exact .inl rfl
 ·refine .inr ⟨b,off,rfl,fun i v hv=>(W.pX ?_).1⟩;rw[zt (List.getElem?_eq_some_iff.1 hv).1];exact hv
def cy(s:Nat)(a:Option Addr)(cap lo:Nat):Option Addr:=if cap=lo then a else a.map (·.add (lo*s))
theorem Reads.sub{A:HP}{s len:Nat}{a:Option Addr}{xs:List Value}(R:Reads A s a len xs)(cap lo hi:Nat)(h1:lo≤hi)(h2:hi≤len)(h3:len≤cap):
 Reads A s (cy s a cap lo) (hi-lo) ((xs.drop (lo*s)).take ((hi-lo)*s)):=by
 obtain⟨hl,R⟩:=R;have hm:(hi-lo)*s+lo*s=hi*s:=by rw[←zA,Nat.sub_add_cancel h1]
 have jv:hi*s≤len*s:=zn s h2;refine⟨by simp;omega,fun h w H W=>?_⟩;by_cases e:hi=lo
 ·exact .inl (by omega)
 ·rcases R h w H W with h0|⟨b,off,rfl,hc⟩
  ·omega
  ·refine .inr ⟨b,off+lo*s,?_,fun i v hv=>?_⟩
   ·unfold cy;rw[if_neg (by omega)];simp[Addr.kL]
   ·rw[zbb]at hv;split at hv
    ·rw[zar]at hv;rw[zax];exact hc _ _ hv
    ·cases hv
class Has(Γ:List HP)(A:HP):Prop where
 h:∃Δ,Γ.Perm (A::Δ)
instance Has.here(Γ:List HP)(A:HP):Has (A::Γ) A:=⟨Γ,.refl _⟩
instance (priority:=low) Has.there(B:HP)(Γ:List HP)(A:HP)[H:Has Γ A]:Has (B::Γ) A:=⟨let ⟨Δ,p⟩:=H.h;⟨B::Δ,(p.cons B).trans (.swap _ _ _)⟩⟩
theorem St.reads{E:Env}{Γ:List HP}{w:World}{A:HP}{s len:Nat}{a:Option Addr}{xs:List Value}[H:Has Γ A](st:St E Γ w)(R:Reads A s a len xs):
 len=0∨∃b off,a=some ⟨b,off,none⟩∧∀i v,xs[i]? =some v→w.cell? ⟨b,off+i,none⟩=some v:=by
 obtain⟨Δ,p⟩:=H.h;obtain⟨_,_,⟨h1,r,hA,_,_,rfl⟩,W⟩:=st.perm p;exact R.2 h1 w hA W.left
class ur(Γ:List HP)(a:Option Addr)(s len cap:outParam Nat)(xs:outParam (List Value))(K:outParam (HP→List HP)):Prop where
 h:∃Δ,Γ.Perm (Sl s a len cap xs::Δ)∧∀A,(A::Δ).Perm (K A)
instance ur.here(Γ:List HP)(a:Option Addr)(s len cap:Nat)(xs:List Value):ur (Sl s a len cap xs::Γ) a s len cap xs (fun A=>A::Γ):=⟨Γ,.refl _,fun _=> .refl _⟩
instance (priority:=low) ur.there(B:HP)(Γ:List HP)(a:Option Addr)(s len cap:Nat)(xs:List Value)(K:HP→List HP)[H:ur Γ a s len cap xs K]:ur (B::Γ) a s len cap xs (fun A=>B::K A):=
 ⟨let ⟨Δ,p,q⟩:=H.h;⟨B::Δ,(p.cons B).trans (.swap _ _ _),fun A=>(List.Perm.swap _ _ _).trans ((q A).cons B)⟩⟩
section ops
variable {P:Program} {X:Cx} {n:Nat} {ds:List Deferred} {ρ:aK} {Γ:List HP} {Nx:Value→List HP→Prop} {d:Nat} {ty:TypeId}
theorem bK{A:HP}{t e s y:Nat}{x ix:Operand}{a:Option Addr}{len cap j:Nat}{xs:List Value}{kk:IntKind}{i:Int}[T:cX P t e s y](hx:ev ρ x=some (.slice a len cap))(hi:ev ρ ix=some (.int kk i))(R:Reads A s a len xs)[H:Has Γ A]
 (hj:i=(j:Int)) (aN:j<len) (hn:Nat.blt d n=true) (h:∀b off,a=some ⟨b,off,none⟩→Nx (.pointer (some ⟨b,off+j*s,none⟩)) Γ):bm P X n ds (some d) (.indexAddr t x ix) ty Nx ρ Γ:=
 b_ (by simp) hn fun ee o w ax aS he bg hs=>by
  rcases hs.reads R with h0|⟨b,off,ha,_⟩
  ·omega
  ·refine⟨_,w,Γ,?_,hs,h b off ha⟩;obtain⟨hu,inf,en,bZ,_⟩:=T.fL;subst hj;simp[execOp,ax,he x _ hx,he ix _ hi,ha,Instr.indexAt,asIntOf,cN hu,eB en,bZ,aN,Addr.kL]
theorem fM{A:HP}{t s:Nat}{x:Operand}{a:Option Addr}{b off o len i:Nat}{xs:List Value}{v:Value}[T:cU P t](hx:ev ρ x=some (.pointer (some ⟨b,o,none⟩)))(R:Reads A s a len xs)[H:Has Γ A](ha:a=some ⟨b,off,none⟩)(ho:o=off+i)(hv:xs[i]? =some v)
 (hn:Nat.blt d n=true) (h:Nx (v) Γ):bm P X n ds (some d) (.load t x) ty Nx ρ Γ:=
 FN hx (fun E w s=>by
  rcases s.reads R with h0|⟨b',qO,jI,hc⟩
  ·have:=R.1;rw[h0]at this;simp at this;subst this;cases hv
  ·rw[ha]at jI;cases jI;rw[ho];exact hc _ _ hv) hn h
theorem dA{A:HP}{t s s':Nat}{x:Operand}{a:Option Addr}{b off o len i:Nat}{xs us:List Value}[T:cI P t s](hx:ev ρ x=some (.pointer (some ⟨b,o,none⟩)))(R:Reads A s' a len xs)[H:Has Γ A](ha:a=some ⟨b,off,none⟩)(ho:o=off+i)
 (hl:us.length=s) (hv:∀j v,us[j]? =some v→xs[i+j]? =some v)
 (hn:Nat.blt d n=true) (h:Nx (.agg us.toArray) Γ):bm P X n ds (some d) (.load t x) ty Nx ρ Γ:=
 FP hx hl (fun j v hj E w s=>by
  rcases s.reads R with h0|⟨b',qO,jI,hc⟩
  ·have:=R.1;rw[h0]at this;simp at this;subst this;have:=hv _ _ hj;cases this
  ·rw[ha]at jI;cases jI;rw[ho,zax];exact hc _ _ (hv _ _ hj)) hn h
theorem St.RC{E:Env}{Δ:List HP}{w:World}{a:Option Addr}{s len cap b off i:Nat}{xs:List Value}(v:Value)(st:St E (Sl s a len cap xs::Δ) w)(ha:a=some ⟨b,off,none⟩)(hi:i<xs.length):
 w.cell? ⟨b,off+i,none⟩=some xs[i]∧w.frozen? ⟨b,off+i,none⟩=false∧St E (Sl s a len cap (xs.set i v)::Δ) (w.setCell ⟨b,off+i,none⟩ v):=by
 obtain⟨e,_,⟨h1,r,hA,hr,dj,rfl⟩,W⟩:=st;rcases hA with ⟨h0,_⟩|⟨b',qO,junk,jI,g1,g2,g3,rfl⟩
 ·rw[ha]at h0;cases h0
 ·rw[ha]at jI;cases jI;have s1:St E (Row b off (xs++junk)::Δ) w:=⟨e,_,⟨_,r,rfl,hr,dj,rfl⟩,W⟩
  have hc:=s1.pX (i:=i) (v:=xs[i]) (by rw[zt hi];exact za hi);have s2:=s1.JT (i:=i) v (by simp;omega);rw[List.set_append_left _ _ hi]at s2;refine⟨hc.1,hc.2,ak.st (ak.one (fun h hh=>?_) Δ) s2⟩;exact .inr ⟨b,off,junk,ha,by simpa using g1,by simpa using g2,g3,hh⟩
theorem gm{t:TypeId}{x y:Operand}{a:Option Addr}{b off o i s len cap:Nat}{xs:List Value}{v:Value}{K:HP→List HP}[T:cU P t](hx:ev ρ x=some (.pointer (some ⟨b,o,none⟩)))(hy:ev ρ y=some v)(h1:v.oneCell'=true)(ha:a=some ⟨b,off,none⟩)
 [H:ur Γ a s len cap xs K] (ho:o=off+i) (hi:i<xs.length) (h:Nx undef (K (Sl s a len cap (xs.set i v)))):
 bm P X n ds none (.store t x y) ty Nx ρ Γ:=
 yD (by simp) fun e oo w ax aS he hs=>by
  obtain⟨inf,fA,bZ⟩:=cU.size (P:=P) (t:=t);obtain⟨Δ,p,q⟩:=H.h;obtain⟨c1,c2,c3⟩:=(hs.perm p).RC v ha hi;subst ho;refine⟨_,_,?_,c3.perm (q _),h⟩;simp[execOp,ax,he x _ hx,he y _ hy,Instr.storeAt,Instr.sureAddr,storeVar,FR h1,eB fA,bZ,storeCells,Addr.kL,run_store _ _ _ _ _ h1,c1,c2]
theorem yG{t e s y:Nat}{x:Operand}{a:Option Addr}{len cap:Nat}[T:cX P t e s y](hx:ev ρ x=some (.slice a len cap))(hn:Nat.blt d n=true)(h:Nx (.int .i64 (len:Int)) Γ):
 bm P X n ds (some d) (.call ⟨.builtin .len,#[x],#[t]⟩) ty Nx ρ Γ:=
 b_ (by simp) hn fun ee o w ax aS he bg hs=>⟨_,w,Γ,by
  simp[execOp,ax,resolve,he x _ hx,invoke,builtin,Builtin.len_,cN T.fL.1,goInt],hs,h⟩
theorem Ct{t e s y:Nat}{x:Operand}{a:Option Addr}{len cap:Nat}[T:cX P t e s y](hx:ev ρ x=some (.slice a len cap)):bI P (.call ⟨.builtin .len,#[x],#[t]⟩) ty ρ Γ (.int .i64 (len:Int)):=
 ⟨by simp,fun ee o E w ax aS he bg hs=>by
  simp[execOp,ax,resolve,he x _ hx,invoke,builtin,Builtin.len_,cN T.fL.1,goInt]⟩
class pY(P:Program)(t:TypeId):Prop where h:P.underlying t=some .string
theorem Kl{t:Nat}{x:Operand}{s:ByteArray}[T:pY P t](hx:ev ρ x=some (.string s))(hn:Nat.blt d n=true)(h:Nx (.int .i64 (s.size:Int)) Γ):
 bm P X n ds (some d) (.call ⟨.builtin .len,#[x],#[t]⟩) ty Nx ρ Γ:=
 b_ (by simp) hn fun ee o w ax aS he bg hs=>⟨_,w,Γ,by
  simp[execOp,ax,resolve,he x _ hx,invoke,builtin,Builtin.len_,cN T.h,goInt],hs,h⟩
theorem acy{t:Nat}{x:Operand}{s:ByteArray}[T:pY P t](hx:ev ρ x=some (.string s)):bI P (.call ⟨.builtin .len,#[x],#[t]⟩) ty ρ Γ (.int .i64 (s.size:Int)):=
 ⟨by simp,fun ee o E w ax aS he bg hs=>by
  simp[execOp,ax,resolve,he x _ hx,invoke,builtin,Builtin.len_,cN T.h,goInt]⟩
theorem RD{x y:Operand}{ts:Array TypeId}{kk:IntKind}{a b:Int}(hx:ev ρ x=some (.int kk a))(hy:ev ρ y=some (.int kk b))(hn:Nat.blt d n=true)(h:Nx (.int kk (min a b)) Γ):
 bm P X n ds (some d) (.call ⟨.builtin .min,#[x,y],ts⟩) ty Nx ρ Γ:=
 b_ (by simp) hn fun ee o w ax aS he bg hs=>⟨_,w,Γ,by
  have:(if b<a then b else a)=min a b:=by rw[Int.min_def];split<;>split<;>omega
  simp[execOp,ax,resolve,he x _ hx,he y _ hy,invoke,builtin,Builtin.min_,Builtin.min2,this],hs,h⟩
theorem RJ{x y:Operand}{ts:Array TypeId}{kk:IntKind}{a b:Int}(hx:ev ρ x=some (.int kk a))(hy:ev ρ y=some (.int kk b))(hn:Nat.blt d n=true)(h:Nx (.int kk (max a b)) Γ):
 bm P X n ds (some d) (.call ⟨.builtin .max,#[x,y],ts⟩) ty Nx ρ Γ:=
 b_ (by simp) hn fun ee o w ax aS he bg hs=>⟨_,w,Γ,by
  have:(if a<b then b else a)=max a b:=by rw[Int.max_def];split<;>split<;>omega
  simp[execOp,ax,resolve,he x _ hx,he y _ hy,invoke,builtin,Builtin.max_,Builtin.max2,this],hs,h⟩
theorem m9{kk:IntKind}{i:Int}{y:Nat}{c:BoundsCode}(j:Nat)(hj:i=(j:Int))(hle:j≤y)(w:World):(Instr.sliceBound (.int kk i) y c).run P w= .ok j w:=by
 subst hj;simp[Instr.sliceBound,asIntOf,hle]
theorem yH{t e s y:Nat}{x lo hi:Operand}{a:Option Addr}{len cap jl jh:Nat}{k1 k2:IntKind}{il ih:Int}[T:cX P t e s y](hx:ev ρ x=some (.slice a len cap))(fN:ev ρ lo=some (.int k1 il))(kM:ev ρ hi=some (.int k2 ih))
 (h1:il=(jl:Int)) (h2:ih=(jh:Int)) (h3:jl≤jh) (h4:jh≤cap) (hn:Nat.blt d n=true) (h:Nx (.slice (cy s a cap jl) (jh-jl) (cap-jl)) Γ):
 bm P X n ds (some d) (.slice t x (some lo) (some hi) none) ty Nx ρ Γ:=
 b_ (by simp) hn fun ee o w ax aS he bg hs=>⟨_,w,Γ,by
  obtain⟨hu,inf,en,bZ,_⟩:=T.fL;simp[execOp,ax,he x _ hx,he lo _ fN,he hi _ kM,Instr.sliceAt,cN hu,Instr.slice,Instr.sliceBounds,m9 jl h1 h3,m9 jh h2 h4,eB en,bZ,cy],hs,h⟩
theorem RK{t e s y:Nat}{x lo hi:Operand}{a:Option Addr}{len cap jl jh:Nat}{k1 k2:IntKind}{il ih:Int}[T:cX P t e s y](hx:ev ρ x=some (.slice a len cap))(fN:ev ρ lo=some (.int k1 il))(kM:ev ρ hi=some (.int k2 ih))
 (h1:il=(jl:Int)) (h2:ih=(jh:Int)) (h3:jl≤jh) (h4:jh≤cap):bI P (.slice t x (some lo) (some hi) none) ty ρ Γ (.slice (cy s a cap jl) (jh-jl) (cap-jl)):=
 ⟨by simp,fun ee o E w ax aS he bg hs=>by
  obtain⟨hu,inf,en,bZ,_⟩:=T.fL;simp[execOp,ax,he x _ hx,he lo _ fN,he hi _ kM,Instr.sliceAt,cN hu,Instr.slice,Instr.sliceBounds,m9 jl h1 h3,m9 jh h2 h4,eB en,bZ,cy]⟩
theorem oX{t e s y:Nat}{x lo:Operand}{a:Option Addr}{len cap jl:Nat}{k1:IntKind}{il:Int}[T:cX P t e s y](hx:ev ρ x=some (.slice a len cap))(fN:ev ρ lo=some (.int k1 il))
 (h1:il=(jl:Int)) (h3:jl≤len) (hn:Nat.blt d n=true) (h:Nx (.slice (cy s a cap jl) (len-jl) (cap-jl)) Γ):
 bm P X n ds (some d) (.slice t x (some lo) none none) ty Nx ρ Γ:=
 b_ (by simp) hn fun ee o w ax aS he bg hs=>⟨_,w,Γ,by
  obtain⟨hu,inf,en,bZ,_⟩:=T.fL;simp[execOp,ax,he x _ hx,he lo _ fN,Instr.sliceAt,cN hu,Instr.slice,Instr.sliceBounds,m9 jl h1 h3,eB en,bZ,cy],hs,h⟩
theorem uu{t e s y:Nat}{x lo:Operand}{a:Option Addr}{len cap jl:Nat}{k1:IntKind}{il:Int}[T:cX P t e s y](hx:ev ρ x=some (.slice a len cap))(fN:ev ρ lo=some (.int k1 il))
 (h1:il=(jl:Int)) (h3:jl≤len):bI P (.slice t x (some lo) none none) ty ρ Γ (.slice (cy s a cap jl) (len-jl) (cap-jl)):=
 ⟨by simp,fun ee o E w ax aS he bg hs=>by
  obtain⟨hu,inf,en,bZ,_⟩:=T.fL;simp[execOp,ax,he x _ hx,he lo _ fN,Instr.sliceAt,cN hu,Instr.slice,Instr.sliceBounds,m9 jl h1 h3,eB en,bZ,cy]⟩
theorem FT(s:Nat)(a:Option Addr)(cap:Nat):cy s a cap 0=a:=by
 unfold cy;split
 ·rfl
 ·cases a<;>simp[Addr.add]
theorem qP{t e s y:Nat}{x hi:Operand}{a:Option Addr}{len cap jh:Nat}{k2:IntKind}{ih:Int}[T:cX P t e s y](hx:ev ρ x=some (.slice a len cap))(kM:ev ρ hi=some (.int k2 ih))
 (h2:ih=(jh:Int)) (h4:jh≤cap) (hn:Nat.blt d n=true) (h:Nx (.slice a jh cap) Γ):
 bm P X n ds (some d) (.slice t x none (some hi) none) ty Nx ρ Γ:=
 b_ (by simp) hn fun ee o w ax aS he bg hs=>⟨_,w,Γ,by
  obtain⟨hu,inf,en,bZ,_⟩:=T.fL;have:=FT s a cap;unfold cy at this;simp[execOp,ax,he x _ hx,he hi _ kM,Instr.sliceAt,cN hu,Instr.slice,Instr.sliceBounds,m9 jh h2 h4,eB en,bZ];simpa using this,hs,h⟩
theorem Cu{t e s y:Nat}{x hi:Operand}{a:Option Addr}{len cap jh:Nat}{k2:IntKind}{ih:Int}[T:cX P t e s y](hx:ev ρ x=some (.slice a len cap))(kM:ev ρ hi=some (.int k2 ih))
 (h2:ih=(jh:Int)) (h4:jh≤cap):bI P (.slice t x none (some hi) none) ty ρ Γ (.slice a jh cap):=
 ⟨by simp,fun ee o E w ax aS he bg hs=>by
  obtain⟨hu,inf,en,bZ,_⟩:=T.fL;have:=FT s a cap;unfold cy at this;simp[execOp,ax,he x _ hx,he hi _ kM,Instr.sliceAt,cN hu,Instr.slice,Instr.sliceBounds,m9 jh h2 h4,eB en,bZ];simpa using this⟩
theorem wD{t yt e s y:Nat}{x z:Operand}{a:Option Addr}{len cap Cv bi:Nat}{op:BinOp}[T:cX P t e s y](ho:op= .eql∨op= .neq)(hx:ev ρ x=some (.slice a len cap))(hz:ev ρ z=some (.slice none Cv bi)):
 bI P (.binOp op t x z yt) ty ρ Γ (.bool (if op= .neq then a.isSome else a.isNone)):=
 ⟨by simp,fun ee o E w ax aS he bg hs=>by
  have e:Op.equal t (.slice a len cap) (.slice none Cv bi)=Op.equalIn (9999+1) t (.slice a len cap) (.slice none Cv bi):=rfl;have hr:(Op.equal t (.slice a len cap) (.slice none Cv bi)).run P w= .ok a.isNone w:=by
   rw[e,Op.equalIn];cases a<;>simp[cN T.fL.1]
  rcases ho with rfl|rfl
  ·simp[execOp,ax,he _ _ hx,he _ _ hz,eqGuard,binOp,hr]
  ·cases a<;>simp_all [execOp,he _ _ hx,he _ _ hz,eqGuard,binOp]⟩
end ops
end
section
open Go.RowKit
theorem Km(sH FU:Nat)(h:FU<sH):Builtin.nextslicecap sH FU≤2*sH+192:=by
 unfold Builtin.nextslicecap;have key:∀r c,c<sH+(sH+768)/4+1→Builtin.growBy sH r c≤sH+(sH+768)/4:=by
  intro r;induction r with
  |zero=>intro c hc;simp[Builtin.growBy];omega
  |succ r ih=>
   intro c hc;unfold Builtin.growBy;split
   ·omega
   ·exact ih _ (by omega)
 split
 ·omega
 ·split
  ·omega
  ·have:=key 4 FU (by omega);omega
section ops
variable {P:Program} {X:Cx} {n:Nat} {ds:List Deferred} {ρ:aK} {Γ:List HP} {Nx:Value→List HP→Prop} {d:Nat} {ty:TypeId}
theorem oq{A:HP}{Γ:List HP}{E:Env}{w:World}{s len cap:Nat}{a:Option Addr}{xs:List Value}(st:St E Γ w)(R:Reads A s a len xs)[H:Has Γ A]:(Builtin.firstCells s len (.slice a len cap)).run P w= .ok xs.toArray w:=by
 rcases st.reads R with h0|⟨b,off,ha,hc⟩
 ·have:=R.1;subst h0;simp at this;subst this;cases a with
  |none=>simp[Builtin.firstCells]
  |some a=>simp[Builtin.firstCells,loadCells,loadCellsFrom]
 ·subst ha;simp only[Builtin.firstCells];exact Cl R.1 hc
class uw(P:Program)(t:TypeId):Prop where h:(∃e,P.underlying t=some (.slice e))∨P.underlying t=some .string
instance {t e s y:Nat}[T:cX P t e s y]:uw P t:=⟨.inl ⟨_,T.fL.1⟩⟩
instance {t:Nat}[T:pY P t]:uw P t:=⟨.inr T.h⟩
theorem St.jJ{E:Env}{Δ:List HP}{w:World}{a:Option Addr}{s len cap:Nat}{xs:List Value}(st:St E (Sl s a len cap xs::Δ) w):xs.length=len*s∧len≤cap∧
 ((a=none∧len=0∧cap=0∧xs=[]∧St E Δ w)∨∃b off junk,a=some ⟨b,off,none⟩∧(xs++junk).length=cap*s∧St E (Row b off (xs++junk)::Δ) w):=by
 obtain⟨e,_,⟨h1,r,hA,hr,dj,rfl⟩,W⟩:=st;obtain⟨g1,g2⟩:=Sl.len hA;refine⟨g1,g2,?_⟩;rcases hA with ⟨rfl,h2,h3,h4,rfl⟩|⟨b,off,junk,ha,q1,q2,q3,rfl⟩
 ·exact .inl ⟨rfl,h2,h3,h4,e,r,hr,W.right dj⟩
 ·exact .inr ⟨b,off,junk,ha,q2,e,_,⟨_,r,rfl,hr,dj,rfl⟩,W⟩
theorem St.ou{E:Env}{Δ:List HP}{w:World}{b off s len cap:Nat}{xs junk:List Value}(h1:xs.length=len*s)(h2:(xs++junk).length=cap*s)(h3:len≤cap)(st:St E (Row b off (xs++junk)::Δ) w):St E (Sl s (some ⟨b,off,none⟩) len cap xs::Δ) w:=
 ak.st (ak.one (fun _ hh=> .inr ⟨b,off,junk,rfl,h1,h2,h3,hh⟩) Δ) st
theorem Kn{w:World}{t t2 e s y:Nat}{base:Option Addr}{len cap m:Nat}{yv:Value}{new:Array Value}[T:cX P t e s y][NI:uw P t2]
 (hlen:∀w,(Builtin.lenOf yv).run P w= .ok m w) (Cw:∀(w':World),w'.heap=w.heap→(Builtin.firstCells s m yv).run P w'= .ok new w') (iT:0<y) (hb:(2*(len+m)+192)*y≤2^48) (ty:TypeId)
 (yI:Array Value) (hold:∀(w':World),w'.heap=w.heap→(Builtin.firstCells s len (.slice base len cap)).run P w'= .ok yI w') (zv:Value) (hz:∃i,P.info? e=some i∧i.zero=some zv):
 (len+m≤cap∧(Builtin.append_ #[t,t2] ty #[.slice base len cap,yv]).run P w=((match base with|some a=>storeCells (a.add (len*s)) new.toList|none=>pure ())>>=fun _=>pure (Value.slice base (len+m) cap)).run P w)∨
 (cap<len+m∧∃c,len+m≤c∧(Builtin.append_ #[t,t2] ty #[.slice base len cap,yv]).run P w= .ok (.slice (some ⟨w.heap.size,0,none⟩) (len+m) c) (w.drew.alloc (.cells (yI++new++Builtin.zeroCells zv.cells (c-(len+m))) e))):=by
 obtain⟨hu,inf,fA,bZ,mK⟩:=T.fL;obtain⟨Ko,yJ,hzero⟩:=hz;rw[fA]at yJ;cases yJ;have yK:=Cw w rfl;by_cases fR:len+m≤cap
 ·refine .inl ⟨fR,?_⟩;rcases NI.h with ⟨e2,mL⟩|mL<;>
  ·simp[Builtin.append_,cN hu,cN mL,eB fA,bZ,hlen,fR,yK];cases base<;>simp
 ·refine .inr ⟨by omega,len+m+(w.tape w.drawn (.appendCap (len+m) cap e))%(2^63-(len+m)),by omega,?_⟩;have sI:=Km (len+m) cap (by omega);have hle:¬(2^48<Builtin.nextslicecap (len+m) cap*y):=by
   have:=zn y sI;omega
  have gl:¬(281474976710656<Builtin.nextslicecap (len+m) cap*y):=hle;have h1:=Cw w.drew rfl;have h2:=hold w.drew rfl;have Cy:¬y=0:=by omega
  rcases NI.h with ⟨e2,mL⟩|mL<;>
  ·simp[Builtin.append_,cN hu,cN mL,eB fA,m6 fA,bZ,mK,hlen,fR,Cy,gl,Question.forced,Question.cut,h1,h2,zeroValue,hzero,newRow]
theorem FV(m:Nat)(zero:Array Value):(Builtin.zeroCells zero m).toList.length=m*zero.size:=by simp[Builtin.zeroCells]
theorem FW{E:Env}{Δ:List HP}{w:World}{t t2 e s y:Nat}{a:Option Addr}{len cap m:Nat}{xs ys:List Value}{zv yv:Value}[T:cX P t e s y][NI:uw P t2]
 (hz:∃i,P.info? e=some i∧i.zero=some zv) (jK:zv.cells.size=s) (iT:0<y)
 (st:St E (Sl s a len cap xs::Δ) w) (hlen:∀w,(Builtin.lenOf yv).run P w= .ok m w) (qQ:ys.length=m*s)
 (Cw:∀(w':World),w'.heap=w.heap→(Builtin.firstCells s m yv).run P w'= .ok ys.toArray w') (h1:ys.all Value.oneCell'=true) (hb:(2*(len+m)+192)*y≤2^48) (ty:TypeId):
 ∃a' bi w',(Builtin.append_ #[t,t2] ty #[.slice a len cap,yv]).run P w= .ok (.slice a' (len+m) bi) w'∧len+m≤bi∧St E (Sl s a' (len+m) bi (xs++ys)::Δ) w':=by
 obtain⟨g1,g2,gC⟩:=st.jJ;have hold:∀(w':World),w'.heap=w.heap→(Builtin.firstCells s len (.slice a len cap)).run P w'= .ok xs.toArray w':=fun w' jW=>by
  have RM:St (Env.of w') (Sl s a len cap xs::Δ) w':=by
   obtain⟨_,h,sat,W⟩:=st;refine⟨⟨rfl,rfl,rfl⟩,h,sat,fun b x f hf=>?_⟩;have:=W b x f hf;have hh:w'.heap[b]? =w.heap[b]? :=by rw[jW]
   cases x with
   |some i=>cases f with
    |own z=>exact⟨(World.cell?_of_block hh).trans this.1,(World.frozen?_of_block hh).trans this.2⟩
    |obj z=>exact this
   |none=>cases f with
    |own z=>exact this
    |obj z=>exact hh.trans this
  exact oq (P:=P) (cap:=cap) RM (Sl.reads s a len cap xs g1)
 rcases Kn (P:=P) (t:=t) (t2:=t2) (e:=e) (s:=s) (y:=y) (w:=w) (base:=a) (cap:=cap) hlen Cw iT hb ty xs.toArray hold zv hz with ⟨fR,hr⟩|⟨bM,c,hc,hr⟩
 ·rcases gC with ⟨rfl,rfl,rfl,rfl,iG⟩|⟨b,off,junk,rfl,q2,iG⟩
  ·obtain rfl:m=0:=by omega
   simp at qQ;subst qQ;exact⟨none,0,w,by rw[hr];simp,by omega,by simpa using st⟩
  ·have lu:ys.length≤junk.length:=by
    have:(len+m)*s≤cap*s:=zn s fR;rw[zA]at this;simp at q2;omega
   obtain⟨w',ie,s1⟩:=wA (P:=P) (off:=off) ys xs.length w (fun B=>B::Δ) (xs++junk) E _ (km.here Δ b off _) iG (by simp;omega) (fun v hv=>zaQ.1 h1 v hv) (off+len*s) 0 (by omega);refine⟨some ⟨b,off,none⟩,cap,w',?_,fR,?_⟩
   ·rw[hr];simp[Addr.kL,ie]
   ·have e1:(xs++junk).take xs.length++ys++(xs++junk).drop (xs.length+ys.length)=(xs++ys)++junk.drop ys.length:=by
     rw[zbT,←zaS,zbC]
    rw[e1]at s1;exact St.ou (by simp[g1,qQ,zA]) (by simp at q2⊢;omega) fR s1
 ·have iG:St E Δ w:=st.drop;refine⟨_,c,_,hr,hc,?_⟩;have s1:=iG.drew.sD (xs++ys++(Builtin.zeroCells zv.cells (c-(len+m))).toList) e;have e1:(xs++ys++(Builtin.zeroCells zv.cells (c-(len+m))).toList).toArray=xs.toArray++ys.toArray++Builtin.zeroCells zv.cells (c-(len+m)):=by
   apply zbW;simp
  rw[e1]at s1;refine St.ou (by simp[g1,qQ,zA]) ?_ hc s1;have h3:=FV (c-(len+m)) zv.cells;rw[jK]at h3;rw[zd,h3,zd,g1,qQ,←zA,←zA];congr 1;omega
end ops
end
section
open Go.RowKit
class ig(Γ:List HP)(a:Option Addr)(s len cap:outParam Nat)(xs:outParam (List Value))(Δ:outParam (List HP)):Prop where
 h:Γ.Perm (Sl s a len cap xs::Δ)
instance ig.here(Γ:List HP)(a:Option Addr)(s len cap:Nat)(xs:List Value):ig (Sl s a len cap xs::Γ) a s len cap xs Γ:=⟨.refl _⟩
instance (priority:=low) ig.there(B:HP)(Γ:List HP)(a:Option Addr)(s len cap:Nat)(xs:List Value)(Δ:List HP)[H:ig Γ a s len cap xs Δ]:ig (B::Γ) a s len cap xs (B::Δ):=⟨(H.h.cons B).trans (.swap _ _ _)⟩
theorem St.env{E:Env}{Γ:List HP}{w w':World}(st:St E Γ w)(hw:w'.heap=w.heap):St (Env.of w') Γ w':=by
 obtain⟨_,h,sat,W⟩:=st;refine⟨⟨rfl,rfl,rfl⟩,h,sat,fun b x f hf=>?_⟩;have:=W b x f hf;have hh:w'.heap[b]? =w.heap[b]? :=by rw[hw]
 cases x with
 |some i=>cases f with
  |own z=>exact⟨(World.cell?_of_block hh).trans this.1,(World.frozen?_of_block hh).trans this.2⟩
  |obj z=>exact this
 |none=>cases f with
  |own z=>exact this
  |obj z=>exact hh.trans this
theorem jr.intro(Γ:List HP):ak Γ (jr::Γ):=fun h s=>⟨h,⟨PH.emp,h,rfl,s,PH.Cc h,(PH.yA h).symm⟩,fun _ _ _ x=>x⟩
theorem Sl.nil(s:Nat):Sl s none 0 0 [] PH.emp:= .inl ⟨rfl,rfl,rfl,rfl,rfl⟩
theorem ak.cq(s:Nat)(Γ:List HP):ak Γ (Sl s none 0 0 []::Γ):=(jr.intro Γ).trans (ak.one (fun _ h=>h ▸ Sl.nil s) Γ)
def FY:Value→List Value
 | .agg cs=>cs.toList
 |v=>[v]
theorem Kp(v:Value):FY v=v.cells.toList:=by cases v<;>rfl
def Cz:List Value→Option (List Value)
 |[]=>some []
 |v::vs=>match Cz vs with
  |some us=>some (v::us)
  |none=>none
theorem RQ{vs us:List Value}(h:Cz vs=some us):us=vs:=by
 induction vs generalizing us with
 |nil=>cases h;rfl
 |cons v vs ih=>
  unfold Cz at h;split at h
  ·rename_i ws hw;cases h;rw[ih hw]
  ·cases h
def lay:List Value→Nat→List Value→List Value
 |v::vs,off+1,us=>v::lay vs off us
 |_::vs,0,u::us=>u::lay vs 0 us
 |vs,_,_=>vs
def ux(place:Nat→Option (Nat×Nat))(cells:List Value):List (Nat×Value)→Option (List Value)
 |[]=>Cz cells
 |(i,v)::rest=>match place i with
  |none=>none
  |some (off,size)=>match Nat.beq (FY v).length size,Nat.ble (off+size) cells.length with
   |true,true=>ux place (lay cells off (FY v)) rest
   |_,_=>none
theorem RU(vs us:List Value)(u:Value):∀(off:Nat),off<vs.length→lay vs off (u::us)=(lay (vs.set off u) (off+1) us):=by
 induction vs with
 |nil=>intro off h;simp at h
 |cons v vs ih=>
  intro off h;cases off with
  |zero=>cases vs<;>simp[lay]
  |succ off=>simp only[lay,zaJ];rw[ih off (by simpa using h)]
theorem RW(vs:List Value)(off:Nat):lay vs off []=vs:=by
 induction vs generalizing off with
 |nil=>simp[lay]
 |cons v vs ih=>cases off<;>simp[lay,ih]
theorem R_(us:List Value):∀(cs:Array Value) (off j:Nat),off+j+us.length≤cs.size→
 ((us.zipIdx j).foldl (fun (cs:Array Value) (x:Value×Nat)=>cs.setIfInBounds (off+x.2) x.1) cs)=(lay cs.toList (off+j) us).toArray:=by
 induction us with
 |nil=>intro cs off j _;simp[RW]
 |cons u us ih=>
  intro cs off j h;simp only[zy]at h;rw[List.zipIdx_cons,zaN,ih _ off (j+1) (by simp;omega),RU _ _ _ _ (by simp;omega)];congr 1;simp[zax]
theorem CB{place:Nat→Option (Nat×Nat)}:∀{parts:List (Nat×Value)} {cells cs:List Value},ux place cells parts=some cs→Instr.fill place cells.toArray parts=some cs.toArray:=by
 intro parts;induction parts with
 |nil=>intro cells cs h;rw[RQ h];rfl
 |cons p rest ih=>
  intro cells cs h;obtain⟨i,v⟩:=p;unfold ux at h;unfold Instr.fill;cases hp:place i with
  |none=>simp[hp]at h
  |some q=>
   obtain⟨off,size⟩:=q;simp only[hp]at h;split at h
   ·rename_i h1 h2;have e1:v.cells.size=size:=by have:=zJ h1;rw[Kp]at this;simpa using this
    have e2:=zX h2;simp only[e1];rw[if_neg (by simp;omega)];have e3:=R_ v.cells.toList cells.toArray off 0 (by simp;omega);rw[←Array.foldl_toList,Array.toList_zipIdx];simp only[zbx]at e3;rw[e3,←Kp];exact ih h
   ·cases h
def Sa(P:Program)(t:TypeId)(ps:List (Nat×Nat)):Prop:=∃fs,P.underlying t=some (.struct fs)∧fs.toList.mapM (fun (f:Field)=>(P.info? f.type).map fun i=>(f.offset,i.size))=some ps
class ij(P:Program)(t:TypeId)(ps:outParam (List (Nat×Nat))):Prop where h:Sa P t ps
def sJ(ρ:aK):List (Nat×Operand)→Option (List (Nat×Value))
 |[]=>some []
 |(i,x)::xs=>match ev ρ x with
  |some v=>match sJ ρ xs with
   |some vs=>some ((i,v)::vs)
   |none=>none
  |none=>none
theorem CC{ρ:aK}{e:Operand→Value}(he:∀x v,ev ρ x=some v→e x=v):∀{xs:List (Nat×Operand)} {vs:List (Nat×Value)},sJ ρ xs=some vs→xs.map (fun (p:Nat×Operand)=>(p.1,e p.2))=vs:=by
 intro xs;induction xs with
 |nil=>intro vs h;cases h;rfl
 |cons p xs ih=>
  intro vs h;obtain⟨i,x⟩:=p;unfold sJ at h;cases h1:ev ρ x with
  |none=>simp[h1]at h
  |some v=>
   cases h2:sJ ρ xs with
   |none=>simp[h1,h2]at h
   |some us=>simp[h1,h2]at h;subst h;simp[he x v h1,ih h2]
theorem Kq{P:Program}:∀{fs:List Field} {ps:List (Nat×Nat)},fs.mapM (fun (f:Field)=>(P.info? f.type).map fun i=>(f.offset,i.size))=some ps→
 ∀w,(fs.mapM (fun (f:Field)=>do let z←sizeOf f.type;pure (f.offset,z):Field→Sem (Nat×Nat))).run P w= .ok ps w:=by
 intro fs;induction fs with
 |nil=>intro ps h w;simp at h;subst h;simp
 |cons f fs ih=>
  intro ps h w;rw[zbU]at h;cases h1:P.info? f.type with
  |none=>simp[h1]at h
  |some i=>
   cases h2:fs.mapM (fun (f:Field)=>(P.info? f.type).map fun i=>(f.offset,i.size))with
   |none=>simp[h1,h2]at h
   |some qs=>
    simp[h1,h2]at h;subst h;rw[zbU];simp only[Sem.run_bind,eB h1,Result.andThen_ok,Sem.run_pure,ih h2]
section ops
variable {P:Program} {X:Cx} {n:Nat} {ds:List Deferred} {ρ:aK} {Γ:List HP} {Nx:Value→List HP→Prop} {d:Nat} {ty:TypeId}
theorem lV{t:Nat}{parts:List (Nat×Operand)}{vs:List (Nat×Value)}{zs cs:List Value}{ps:List (Nat×Nat)}[T:ij P t ps][Z:cp P t zs](hx:sJ ρ parts=some vs)(hf:ux (ps[·]?) zs vs=some cs)(hn:Nat.blt d n=true)
 (h:Nx (.agg cs.toArray) Γ):bm P X n ds (some d) (.build t parts.toArray) ty Nx ρ Γ:=
 b_ (by simp) hn fun ee o w ax aS he bg hs=>⟨_,w,Γ,by
  obtain⟨i,zv,hi,hz,rfl⟩:=Z.h;obtain⟨fs,hu,hm⟩:=T.h;have h1:=Kq hm w;have h2:=CB hf;have h3:=CC he hx;have h4:(fs.mapM (fun (f:Field)=>do let z←sizeOf f.type;pure (f.offset,z):Field→Sem (Nat×Nat))).run P w= .ok ps.toArray w:=by
   have e:fs.mapM (fun (f:Field)=>do let z←sizeOf f.type;pure (f.offset,z):Field→Sem (Nat×Nat))=List.toArray<$>fs.toList.mapM (fun (f:Field)=>do let z←sizeOf f.type;pure (f.offset,z):Field→Sem (Nat×Nat)):=by
    rw[zbu]
   rw[e,Sem.run_map,h1];rfl
  have h5:(List.map (fun x:Nat×Operand=>(x.1,ee x.2)) parts)=vs:=h3;simp[execOp,ax,Instr.build,zeroValue,m6 hi,hz,cN hu];simp at h4;rw[h4];simp[h5];have h6:(fun x=>ps[x]?)=(fun (x:Nat)=>ps[x]?):=rfl;simp at h2;rw[h2];simp,hs,h⟩
theorem yL{t:Nat}{parts:List (Nat×Operand)}{vs:List (Nat×Value)}{zs cs:List Value}{ps:List (Nat×Nat)}[T:ij P t ps][Z:cp P t zs](hx:sJ ρ parts=some vs)(hf:ux (ps[·]?) zs vs=some cs):bI P (.build t parts.toArray) ty ρ Γ (.agg cs.toArray):=
 ⟨by simp,fun ee o E w ax aS he bg hs=>by
  obtain⟨i,zv,hi,hz,rfl⟩:=Z.h;obtain⟨fs,hu,hm⟩:=T.h;have h1:=Kq hm w;have h2:=CB hf;have h3:=CC he hx;have h4:(fs.mapM (fun (f:Field)=>do let z←sizeOf f.type;pure (f.offset,z):Field→Sem (Nat×Nat))).run P w= .ok ps.toArray w:=by
   have e:fs.mapM (fun (f:Field)=>do let z←sizeOf f.type;pure (f.offset,z):Field→Sem (Nat×Nat))=List.toArray<$>fs.toList.mapM (fun (f:Field)=>do let z←sizeOf f.type;pure (f.offset,z):Field→Sem (Nat×Nat)):=by
    rw[zbu]
   rw[e,Sem.run_map,h1];rfl
  have h5:(List.map (fun x:Nat×Operand=>(x.1,ee x.2)) parts)=vs:=h3;simp[execOp,ax,Instr.build,zeroValue,m6 hi,hz,cN hu];simp at h4;rw[h4];simp[h5];have h6:(fun x=>ps[x]?)=(fun (x:Nat)=>ps[x]?):=rfl;simp at h2;rw[h2];simp⟩
end ops
end
section
open Go.RowKit
def bv(x:UInt8):Value:= .int .u8 (x.toNat:Int)
theorem wE(l:List UInt8):(l.map bv).all Value.oneCell'=true:=by simp[bv,Value.oneCell']
def bC(l:List UInt8):ByteArray:=⟨l.toArray⟩
theorem dV(l:List UInt8):(bC l).size=l.length:=by simp[bC,ByteArray.size]
theorem yM{a b:List UInt8}(h:bC a=bC b):a=b:=by
 simpa[bC]using h
theorem Kr(f:Nat→Value):Array.map f (Array.range 0)= #[]:=by apply zbW;simp
def zs(zv:List Value):Nat→List Value
 |0=>[]
 |m+1=>zv++zs zv m
theorem lv(zv:List Value)(m:Nat):(zs zv m).length=m*zv.length:=by
 induction m with
 |zero=>simp[zs]
 |succ m ih=>simp[zs,ih,Nat.succ_mul,zaF]
theorem FZ(v:Value)(m:Nat):zs [v] m=List.replicate m v:=by
 induction m with
 |zero=>rfl
 |succ m ih=>simp[zs,ih,zbl]
theorem F0(zv:List Value)(m i:Nat)(h:i<m*zv.length):(zs zv m)[i]? =zv[i%zv.length]? :=by
 induction m generalizing i with
 |zero=>simp at h
 |succ m ih=>
  unfold zs;by_cases hi:i<zv.length
  ·rw[zt hi,zaf hi]
  ·rw[zz (by omega),ih _ (by rw[Nat.succ_mul]at h;omega)];rw[←Nat.mod_eq_sub_mod (by omega)]
theorem CD(zero:Array Value)(m:Nat):(Builtin.zeroCells zero m).toList=zs zero.toList m:=by
 apply zbP;intro i;by_cases hi:i<m*zero.size
 ·rw[F0 _ _ _ (by simpa using hi)];have hz:0<zero.size:=by
   apply Nat.pos_of_ne_zero;intro h0;rw[h0]at hi;simp at hi
  have hm:i%zero.size<zero.size:=za0 _ hz;simp only[Builtin.zeroCells,Array.toList_map,zf,Array.toList_range,za3 hi,zb3,Array.length_toList];rw[getElem!_pos zero _ hm];simp[hm]
 ·rw[zam (by simp[Builtin.zeroCells];omega),zam (by rw[lv];simp;omega)]
section ops
variable {P:Program} {X:Cx} {n:Nat} {ds:List Deferred} {ρ:aK} {Γ:List HP} {Nx:Value→List HP→Prop} {d:Nat} {ty:TypeId}
theorem cf{t e s y m:Nat}{parts:List (Nat×Operand)}{vs:List (Nat×Value)}{zv cs:List Value}[T:cX P t e s y][Z:cp P e zv](hx:sJ ρ parts=some vs)(fB:zv.length=s)(hm:Nat.ble (m*s) 16777216=true)
 (hf:ux (fun i=>some (i*s,s)) (zs zv m) vs=some cs) (fj:Nat.beq cs.length (m*s)=true) (hn:Nat.blt d n=true)
 (h:∀a,Nx (.slice a m m) (Sl s a m m cs::Γ)):bm P X n ds (some d) (.buildSlice t m parts.toArray) ty Nx ρ Γ:=
 b_ (by simp) hn fun ee o w ax aS he bg hs=>by
  obtain⟨i,z,hi,hz,ik⟩:=Z.h;obtain⟨hu,inf,fA,bZ,mK⟩:=T.fL;rw[hi]at fA;cases fA;have h2:=CB hf;have h3:(List.map (fun x:Nat×Operand=>(x.1,ee x.2)) parts)=vs:=CC he hx;have hle:=zX hm;have Ks:=zJ fj;have s1:=hs.sD cs e;have jK:z.cells.size=s:=by rw[←fB,←ik];simp
  refine⟨.slice (some ⟨w.heap.size,0,none⟩) m m,_,Sl s (some ⟨w.heap.size,0,none⟩) m m cs::Γ,?_,St.ou (junk:=[]) Ks (by simpa using Ks) (zq _) (by simpa using s1),h _⟩;have qR:((Array.range (m*s)).map (z.cells[·%z.cells.size]!)).toList=zs zv m:=by
   have:=CD z.cells m;rw[ik]at this;rw[←this];simp[Builtin.zeroCells,jK]
  have h4:(Array.range (m*s)).map (z.cells[·%z.cells.size]!)=(zs zv m).toArray:=by rw[←qR]
  by_cases h0:m*s=0
  ·have e0:zs zv m=[]:=by
    apply List.length_eq_zero_iff.1;rw[lv,fB];exact h0
   rw[e0]at h2;simp[execOp,ax,Instr.buildSlice,cN hu,eB hi,bZ,h0,h3];rw[Kr,h2];simp[newRow]
  ·have h5:¬(16777216<m*s):=by omega
   simp[execOp,ax,Instr.buildSlice,cN hu,eB hi,bZ,h0,h3,h5,zeroValue,m6 hi,hz];rw[h4,h2];simp[newRow]
theorem cp.get{t:Nat}{zv:List Value}[Z:cp P t zv]:∃z:Value,z.cells.toList=zv∧∃i,P.info? t=some i∧i.zero=some z:=
 let ⟨i,z,hi,hz,hh⟩:=Z.h;⟨z,hh,i,hi,hz⟩
theorem pZ{A:HP}{t t2 e s y:Nat}{x z:Operand}{a a2:Option Addr}{len cap m gD:Nat}{xs ys zv:List Value}{Δ:List HP}[T:cX P t e s y][NI:uw P t2][Z:cp P e zv](hx:ev ρ x=some (.slice a len cap))(hz:ev ρ z=some (.slice a2 m gD))
 [TS:ig Γ a s len cap xs Δ] (R:Reads A s a2 m ys) [H:Has Δ A] (fB:zv.length=s) (iT:Nat.blt 0 y=true) (h1:ys.all Value.oneCell'=true) (hb:(2*(len+m)+192)*y≤2^48) (hn:Nat.blt d n=true)
 (h:∀a' bi,len+m≤bi→Nx (.slice a' (len+m) bi) (Sl s a' (len+m) bi (xs++ys)::Δ)):
 bm P X n ds (some d) (.call ⟨.builtin .append,#[x,z],#[t,t2]⟩) ty Nx ρ Γ:=
 b_ (by simp) hn fun ee o w ax aS he bg hs=>by
  obtain⟨z0,fY,oY⟩:=cp.get (P:=P) (t:=e);have st:=hs.perm TS.h;have jK:z0.cells.size=s:=by rw[←fB,←fY];simp
  obtain⟨a',bi,w',hr,hc,s1⟩:=FW (P:=P) (t:=t) (t2:=t2) (y:=y) (m:=m) (yv:= .slice a2 m gD) oY jK (by simpa[zN]using iT) st (fun w=>by simp[Builtin.lenOf]) R.1
   (fun w' jW=>oq (P:=P) (cap:=gD) (Γ:=Δ) (st.drop.env jW) R) h1 hb o.type
  refine⟨_,w',_,?_,s1,h a' bi hc⟩;simp[execOp,ax,resolve,he x _ hx,he z _ hz,invoke,builtin,hr]
theorem cF{t t2 e s y:Nat}{x z:Operand}{a a2:Option Addr}{len cap m gD:Nat}{xs ys zv:List Value}{Δ Θ:List HP}[T:cX P t e s y][NI:uw P t2][Z:cp P e zv](hx:ev ρ x=some (.slice a len cap))(hz:ev ρ z=some (.slice a2 m gD))
 [Sb:ig Γ a2 s m gD ys Δ] [TS:ig Δ a s len cap xs Θ] (fB:zv.length=s) (iT:Nat.blt 0 y=true) (h1:ys.all Value.oneCell'=true) (hb:(2*(len+m)+192)*y≤2^48) (hn:Nat.blt d n=true)
 (h:∀a' bi,len+m≤bi→Nx (.slice a' (len+m) bi) (Sl s a' (len+m) bi (xs++ys)::Θ)):
 bm P X n ds (some d) (.call ⟨.builtin .append,#[x,z],#[t,t2]⟩) ty Nx ρ Γ:=
 b_ (by simp) hn fun ee o w ax aS he bg hs=>by
  obtain⟨z0,fY,oY⟩:=cp.get (P:=P) (t:=e);have iU:=hs.perm Sb.h;have R:=Sl.reads s a2 m gD ys iU.jJ.1;have st:=iU.perm ((TS.h.cons _).trans (.swap _ _ _));have jK:z0.cells.size=s:=by rw[←fB,←fY];simp
  obtain⟨a',bi,w',hr,hc,s1⟩:=FW (P:=P) (t:=t) (t2:=t2) (y:=y) (m:=m) (yv:= .slice a2 m gD) oY jK (by simpa[zN]using iT) st (fun w=>by simp[Builtin.lenOf]) R.1
   (fun w' jW=>oq (P:=P) (cap:=gD) (A:=Sl s a2 m gD ys) (Γ:=Sl s a2 m gD ys::Δ) (iU.env jW) R) h1 hb o.type
  refine⟨_,w',_,?_,ak.st ((ak.drop _ _).cons _) s1,h a' bi hc⟩;simp[execOp,ax,resolve,he x _ hx,he z _ hz,invoke,builtin,hr]
theorem F1{t e s y m:Nat}{x z:Operand}{k1 k2:IntKind}{i j:Int}{zv:List Value}[T:cX P t e s y][Z:cp P e zv](hx:ev ρ x=some (.int k1 i))(hz:ev ρ z=some (.int k2 j))(hi:i=(m:Int))(hj:j=(m:Int))(fB:zv.length=s)(hb:y*m≤281474976710656)(hm:m<9223372036854775808)(hn:Nat.blt d n=true)
 (h:∀a,Nx (.slice a m m) (Sl s a m m (zs zv m)::Γ)):bm P X n ds (some d) (.makeSlice t x z) ty Nx ρ Γ:=
 b_ (by simp) hn fun ee o w ax aS he bg hs=>by
  subst hi hj;obtain⟨inf,z0,hi,fY,ik⟩:=Z.h;obtain⟨hu,Ko,fA,bZ,mK⟩:=T.fL;rw[hi]at fA;cases fA;have jK:z0.cells.size=s:=by rw[←fB,←ik];simp
  have s1:=hs.sD (zs zv m) e;refine⟨.slice (some ⟨w.heap.size,0,none⟩) m m,_,Sl s (some ⟨w.heap.size,0,none⟩) m m (zs zv m)::Γ,?_,St.ou (junk:=[]) (by rw[lv,fB]) (by simp[lv,fB]) (zq _) (by simpa using s1),h _⟩;have hw:IntKind.i64.wrap (m:Int)=m:=by
   have h0:(m:Int)<9223372036854775808:=by omega
   rw[IntKind.wrap_i64];omega
  have h1:¬((281474976710656:Int)<y*m):=by
   rw[←zav];omega
  have h2:¬((m:Int)<0):=by omega
  have qR:((Array.range (m*s)).map (z0.cells[·%z0.cells.size]!))=(zs zv m).toArray:=by
   have:=CD z0.cells m;rw[ik]at this;rw[←this];unfold Builtin.zeroCells;rw[jK]
  by_cases h0:m*s=0
  ·have e0:zs zv m=[]:=by apply List.length_eq_zero_iff.1;rw[lv,fB];exact h0
   simp[execOp,ax,he x _ hx,he z _ hz,Instr.makeSlice,cN hu,asInt,asIntOf,m6 hi,mK,hw,h1,h2,eB hi,bZ,h0,e0,newRow];rw[Kr]
  ·simp[execOp,ax,he x _ hx,he z _ hz,Instr.makeSlice,cN hu,asInt,asIntOf,m6 hi,mK,hw,h1,h2,eB hi,bZ,h0,zeroValue,fY,newRow];rw[qR]
end ops
end
section
open Go.RowKit
theorem Reads.oZ{A:HP}{s m:Nat}{a:Option Addr}{ys:List Value}(R:Reads A s a m ys)(c:Nat)(h:c≤m):Reads A s a c (ys.take (c*s)):=by
 have:=R.sub m 0 c (zj _) h (zq _);simpa[FT]using this
theorem Kt{P:Program}(s c m cap bi:Nat)(a:Option Addr)(w:World):(Builtin.firstCells s c (.slice a m cap)).run P w=(Builtin.firstCells s c (.slice a c bi)).run P w:=by
 cases a<;>rfl
section ops
variable {P:Program} {X:Cx} {n:Nat} {ds:List Deferred} {ρ:aK} {Γ:List HP} {Nx:Value→List HP→Prop} {d:Nat} {ty:TypeId}
theorem Ku{E:Env}{Δ:List HP}{w:World}{a:Option Addr}{len cap lo:Nat}{xs ys:List Value}(st:St E (Sl 1 a len cap xs::Δ) w)(fN:lo+ys.length≤len)(h1:ys.all Value.oneCell'=true):
 ∃w',((match cy 1 a cap lo with|some a=>storeCells a ys|none=>pure ()):Sem Unit).run P w= .ok () w'∧St E (Sl 1 a len cap (xs.take lo++ys++xs.drop (lo+ys.length))::Δ) w':=by
 obtain⟨g1,g2,gC⟩:=st.jJ;rw[zaj]at g1;rcases gC with ⟨rfl,rfl,rfl,rfl,iG⟩|⟨b,off,junk,rfl,q2,iG⟩
 ·obtain rfl:lo=0:=by omega
  have:ys=[]:=List.length_eq_zero_iff.1 (by omega);subst this;exact⟨w,by simp[cy],by simpa using st⟩
 ·by_cases h0:ys=[]
  ·subst h0;refine⟨w,?_,by simpa using st⟩;unfold cy;split<;>simp[storeCells]
  ·have qS:0<ys.length:=List.length_pos_iff.2 h0;have e0:cy 1 (some ⟨b,off,none⟩) cap lo=some ⟨b,off+lo,none⟩:=by
    unfold cy;rw[if_neg (by omega)];simp[Addr.kL]
   obtain⟨w',ie,s1⟩:=wA (P:=P) (off:=off) ys lo w (fun B=>B::Δ) (xs++junk) E _ (km.here Δ b off _) iG (by simp;omega) (fun v hv=>zaQ.1 h1 v hv) (off+lo) 0 (by omega);refine⟨w',by rw[e0];exact ie,?_⟩;have e1:(xs++junk).take lo++ys++(xs++junk).drop (lo+ys.length)=(xs.take lo++ys++xs.drop (lo+ys.length))++junk:=by
    rw[zZ (by omega),zaE (by omega)];simp
   rw[e1]at s1;exact St.ou (by simp;omega) (by simp at q2⊢;omega) g2 s1
theorem Sc{A:HP}{t t2 e y:Nat}{x z:Operand}{a a2:Option Addr}{len cap lo m gD:Nat}{xs ys:List Value}{Δ:List HP}[T:cX P t e 1 y](hx:ev ρ x=some (.slice (cy 1 a cap lo) (len-lo) (cap-lo)))(hz:ev ρ z=some (.slice a2 m gD))
 [TS:ig Γ a 1 len cap xs Δ] (R:Reads A 1 a2 m ys) [H:Has Δ A] (fN:lo≤len) (h1:ys.all Value.oneCell'=true) (hn:Nat.blt d n=true)
 (h:Nx (.int .i64 ((min m (len-lo):Nat):Int)) (Sl 1 a len cap (xs.take lo++ys.take (min m (len-lo))++xs.drop (lo+min m (len-lo)))::Δ)):
 bm P X n ds (some d) (.call ⟨.builtin .copy,#[x,z],#[t,t2]⟩) ty Nx ρ Γ:=
 b_ (by simp) hn fun ee o w ax aS he bg hs=>by
  obtain⟨hu,inf,fA,bZ,mK⟩:=T.fL;have st:=hs.perm TS.h;have R1:=R.oZ (min m (len-lo)) (Nat.min_le_left _ _);rw[zaj]at R1;have e_:(ys.take (min m (len-lo))).length=min m (len-lo):=by have:=R.1;simp;omega
  obtain⟨w',hr,s1⟩:=Ku (P:=P) (lo:=lo) (ys:=ys.take (min m (len-lo))) st (by rw[e_];omega) (zaQ.2 fun v hv=>zaQ.1 h1 v (zaD hv));have hf:=oq (P:=P) (cap:=gD) (Γ:=Δ) (st.drop) R1;rw[←Kt 1 (min m (len-lo)) m gD gD]at hf;rw[e_]at s1;refine⟨_,w',_,?_,s1,h⟩;have hm:Nat.min m (len-lo)=min m (len-lo):=rfl;simp only[execOp,ax,resolve,List.map_toArray,zE,zal,he x _ hx,he z _ hz,invoke,builtin,Builtin.copy_,Sem.run_bind,Sem.run_pure,Result.andThen_ok,cN hu,Builtin.lenOf,eB fA,bZ,hm,hf,
   List.getElem?_toArray,zaW,zaX]
  cases kn:cy 1 a cap lo with
  |none=>rw[kn]at hr;simp at hr;subst hr;simp[goInt]
  |some q=>rw[kn]at hr;simp only at hr;simp only[Sem.run_bind,hr,Result.andThen_ok,Sem.run_pure,goInt]
theorem Sd{t t2 e y:Nat}{x z:Operand}{a:Option Addr}{len cap lo:Nat}{xs:List Value}{bs:List UInt8}{Δ:List HP}[T:cX P t e 1 y](hx:ev ρ x=some (.slice (cy 1 a cap lo) (len-lo) (cap-lo)))(hz:ev ρ z=some (.string (bC bs)))
 [TS:ig Γ a 1 len cap xs Δ] (fN:lo≤len) (hn:Nat.blt d n=true)
 (h:Nx (.int .i64 ((min bs.length (len-lo):Nat):Int)) (Sl 1 a len cap (xs.take lo++(bs.take (min bs.length (len-lo))).map bv++xs.drop (lo+min bs.length (len-lo)))::Δ)):
 bm P X n ds (some d) (.call ⟨.builtin .copy,#[x,z],#[t,t2]⟩) ty Nx ρ Γ:=
 b_ (by simp) hn fun ee o w ax aS he bg hs=>by
  obtain⟨hu,inf,fA,bZ,mK⟩:=T.fL;have st:=hs.perm TS.h;have e_:((bs.take (min bs.length (len-lo))).map bv).length=min bs.length (len-lo):=by simp
  obtain⟨w',hr,s1⟩:=Ku (P:=P) (lo:=lo) (ys:=(bs.take (min bs.length (len-lo))).map bv) st (by rw[e_];omega) (wE _);rw[e_]at s1;refine⟨_,w',_,?_,s1,h⟩;have hm:Nat.min bs.length (len-lo)=min bs.length (len-lo):=rfl;have hf:(Builtin.firstCells 1 (min bs.length (len-lo)) (.string (bC bs))).run P w= .ok ((bs.take (min bs.length (len-lo))).map bv).toArray w:=by
   simp only[Builtin.firstCells,Sem.run_pure];congr 1;apply zbW;simp[bC,zcf]
   rfl
  simp only[execOp,ax,resolve,List.map_toArray,zE,zal,he x _ hx,he z _ hz,invoke,builtin,Builtin.copy_,Sem.run_bind,Sem.run_pure,Result.andThen_ok,cN hu,Builtin.lenOf,eB fA,bZ,dV,hm,hf,
   List.getElem?_toArray,zaW,zaX]
  cases kn:cy 1 a cap lo with
  |none=>rw[kn]at hr;simp at hr;subst hr;simp[goInt]
  |some q=>rw[kn]at hr;simp only at hr;simp only[Sem.run_bind,hr,Result.andThen_ok,Sem.run_pure,goInt]
theorem Kv{t yt:TypeId}{x y:Operand}{a b:ByteArray}(hx:ev ρ x=some (.string a))(hy:ev ρ y=some (.string b))(c:a=b)(hn:Nat.blt d n=true)(h:Nx (.bool true) Γ):bm P X n ds (some d) (.binOp .eql t x y yt) ty Nx ρ Γ:=
 b_ (by simp) hn fun e o w ax aS he bg hs=>⟨_,w,Γ,by subst c;simp[execOp,ax,he _ _ hx,he _ _ hy,eqGuard,binOp_string_eql],hs,h⟩
theorem Kw{t yt:TypeId}{x y:Operand}{a b:ByteArray}(hx:ev ρ x=some (.string a))(hy:ev ρ y=some (.string b))(c:a≠b)(hn:Nat.blt d n=true)(h:Nx (.bool false) Γ):bm P X n ds (some d) (.binOp .eql t x y yt) ty Nx ρ Γ:=
 b_ (by simp) hn fun e o w ax aS he bg hs=>⟨_,w,Γ,by
  have:¬a.toList=b.toList:=fun e=>c (by rw[ByteArray.toList_eq,ByteArray.toList_eq]at e;cases a;cases b;simpa using e);simp[execOp,ax,he _ _ hx,he _ _ hy,eqGuard,binOp_string_eql,this],hs,h⟩
theorem yN{t yt:TypeId}{x y:Operand}{a b:ByteArray}(hx:ev ρ x=some (.string a))(hy:ev ρ y=some (.string b))(c:a=b)(hn:Nat.blt d n=true)(h:Nx (.bool false) Γ):bm P X n ds (some d) (.binOp .neq t x y yt) ty Nx ρ Γ:=
 b_ (by simp) hn fun e o w ax aS he bg hs=>⟨_,w,Γ,by subst c;simp[execOp,ax,he _ _ hx,he _ _ hy,eqGuard,binOp_string_neq],hs,h⟩
theorem F2{t yt:TypeId}{x y:Operand}{a b:ByteArray}(hx:ev ρ x=some (.string a))(hy:ev ρ y=some (.string b))(c:a≠b)(hn:Nat.blt d n=true)(h:Nx (.bool true) Γ):bm P X n ds (some d) (.binOp .neq t x y yt) ty Nx ρ Γ:=
 b_ (by simp) hn fun e o w ax aS he bg hs=>⟨_,w,Γ,by
  have:¬a.toList=b.toList:=fun e=>c (by rw[ByteArray.toList_eq,ByteArray.toList_eq]at e;cases a;cases b;simpa using e);simp[execOp,ax,he _ _ hx,he _ _ hy,eqGuard,binOp_string_neq,this],hs,h⟩
theorem yO{t yt:TypeId}{x y:Operand}{a b:ByteArray}(hx:ev ρ x=some (.string a))(hy:ev ρ y=some (.string b))(hb:a.size+b.size≤9223372036854775807)(hn:Nat.blt d n=true)(h:Nx (.string (a++b)) Γ):bm P X n ds (some d) (.binOp .add t x y yt) ty Nx ρ Γ:=
 b_ (by simp) hn fun e o w ax aS he bg hs=>⟨_,w,Γ,by simp[execOp,ax,he _ _ hx,he _ _ hy,eqGuard,binOp_string_add,run_string_add_sum w a b hb],hs,h⟩
theorem Kx{t yt:TypeId}{x y:Operand}{a b:ByteArray}(hx:ev ρ x=some (.string a))(hy:ev ρ y=some (.string b))(hb:a.size+b.size≤9223372036854775807):bI P (.binOp .add t x y yt) ty ρ Γ (.string (a++b)):=
 ⟨by simp,fun e o E w ax aS he bg hs=>by simp[execOp,ax,he _ _ hx,he _ _ hy,eqGuard,binOp_string_add,run_string_add_sum w a b hb]⟩
class F3(P:Program)(t:TypeId):Prop where h:P.underlying t=some (.int .u8)
theorem uy{A:HP}{src dst e y:Nat}{x:Operand}{a:Option Addr}{len cap:Nat}{bs:List UInt8}[T:cX P src e 1 y][U:F3 P e][S:pY P dst](hx:ev ρ x=some (.slice a len cap))(R:Reads A 1 a len (bs.map bv))[H:Has Γ A](hn:Nat.blt d n=true)
 (h:Nx (.string (bC bs)) Γ):bm P X n ds (some d) (.convert src dst x) ty Nx ρ Γ:=
 b_ (by simp) hn fun ee o w ax aS he bg hs=>⟨_,w,Γ,by
  have hr:(Conv.bytesToString (.slice a len cap)).run P w= .ok (.string (bC bs)) w:=by
   cases a with
   |none=>
    rcases hs.reads R with h0|⟨b,off,ha,_⟩
    ·have:=R.1;rw[h0]at this;have:bs=[]:=by simpa using this
     subst this;rfl
    ·cases ha
   |some q=>
    have hl:(loadCells q len).run P w= .ok ((bs.map fun (z:UInt8)=>(z.toNat:Int)).map (Value.int .u8)).toArray w:=by
     have:=oq (P:=P) (cap:=cap) hs R;simp only[Builtin.firstCells,zaj]at this;rw[this];simp[bv,Function.comp_def]
    rw[run_bytesToString w q len cap _ hl];congr 2;have key:∀(l:List UInt8) (s:ByteArray),(l.map fun (z:UInt8)=>(z.toNat:Int)).foldl (fun r n=>r.push (UInt8.ofNat n.toNat)) s=⟨s.data++l.toArray⟩:=by
     intro l;induction l with
     |nil=>intro s;simp
     |cons z l ih=>
      intro s;rw[zE,zaN,ih];have:UInt8.ofNat ((z.toNat:Int).toNat)=z:=by simp
      rw[this];congr 1;apply zbW;simp[ByteArray.push]
    rw[key];simp[bC]
  simp[execOp,ax,he _ _ hx,run_convert_bytes_string w src dst e a len cap T.fL.1 U.h S.h,hr],hs,h⟩
theorem Se{A:HP}{src dst e y:Nat}{x:Operand}{a:Option Addr}{len cap:Nat}{bs:List UInt8}[T:cX P src e 1 y][U:F3 P e][S:pY P dst](hx:ev ρ x=some (.slice a len cap))(R:Reads A 1 a len (bs.map bv))[H:Has Γ A]:bI P (.convert src dst x) ty ρ Γ (.string (bC bs)):=
 ⟨by simp,fun ee o E w ax aS he bg hs=>by
  have hr:(Conv.bytesToString (.slice a len cap)).run P w= .ok (.string (bC bs)) w:=by
   cases a with
   |none=>
    rcases hs.reads R with h0|⟨b,off,ha,_⟩
    ·have:=R.1;rw[h0]at this;have:bs=[]:=by simpa using this
     subst this;rfl
    ·cases ha
   |some q=>
    have hl:(loadCells q len).run P w= .ok ((bs.map fun (z:UInt8)=>(z.toNat:Int)).map (Value.int .u8)).toArray w:=by
     have:=oq (P:=P) (cap:=cap) hs R;simp only[Builtin.firstCells,zaj]at this;rw[this];simp[bv,Function.comp_def]
    rw[run_bytesToString w q len cap _ hl];congr 2;have key:∀(l:List UInt8) (s:ByteArray),(l.map fun (z:UInt8)=>(z.toNat:Int)).foldl (fun r n=>r.push (UInt8.ofNat n.toNat)) s=⟨s.data++l.toArray⟩:=by
     intro l;induction l with
     |nil=>intro s;simp
     |cons z l ih=>
      intro s;rw[zE,zaN,ih];have:UInt8.ofNat ((z.toNat:Int).toNat)=z:=by simp
      rw[this];congr 1;apply zbW;simp[ByteArray.push]
    rw[key];simp[bC]
  simp[execOp,ax,he _ _ hx,run_convert_bytes_string w src dst e a len cap T.fL.1 U.h S.h,hr]⟩
class lW(P:Program)(t:TypeId)(kk:outParam IntKind):Prop where h:P.underlying t=some (.int kk)
theorem ft{src dst:Nat}{x:Operand}{k1 k2 k3:IntKind}{a:Int}[S:lW P src k1][T:lW P dst k2](hx:ev ρ x=some (.int k3 a))(hn:Nat.blt d n=true)
 (h:Nx (.int k2 (k2.wrap a)) Γ):bm P X n ds (some d) (.convert src dst x) ty Nx ρ Γ:=
 b_ (by simp) hn fun ee o w ax aS he bg hs=>⟨_,w,Γ,by
  simp[execOp,ax,he _ _ hx,convert,cN S.h,cN T.h,Conv.intToInt],hs,h⟩
theorem yP{src dst:Nat}{x:Operand}{k1 k2 k3:IntKind}{a:Int}[S:lW P src k1][T:lW P dst k2](hx:ev ρ x=some (.int k3 a)):bI P (.convert src dst x) ty ρ Γ (.int k2 (k2.wrap a)):=
 ⟨by simp,fun ee o E w ax aS he bg hs=>by
  simp[execOp,ax,he _ _ hx,convert,cN S.h,cN T.h,Conv.intToInt]⟩
class CE(P:Program)(t:TypeId):Prop where h:∃e,P.underlying t=some (.pointer e)
theorem F4(t:TypeId)(x y:Value):Op.equal t x y=Op.equalIn (9999+1) t x y:=rfl
theorem CF{t yt:TypeId}{x y:Operand}{v u:Value}{b:Bool}{w:World}{e:Operand→Value}{o:Oper}(op:BinOp)(ax:o.op= .binOp op t x y yt)(hx:e x=v)(hy:e y=u)
 (hg:(eqGuard op t x y v u).run P w= .ok () w) (Sf:binOp op t v u=(do let z←Op.equal t v u;pure (.bool (if op= .neq then !z else z)))) (hr:(Op.equal t v u).run P w= .ok b w):
 (execOp e o).run P w= .ok (.value (.bool (if op= .neq then !b else b))) w:=by
 simp[execOp,ax,hx,hy,hg,Sf,hr]
theorem yQ{t yt:TypeId}{x y:Operand}{op:BinOp}{a b:Option Addr}[T:CE P t](ho:op= .eql∨op= .neq)(hx:ev ρ x=some (.pointer a))(hy:ev ρ y=some (.pointer b))(dS:a=none∨b=none)(hn:Nat.blt d n=true)
 (h:Nx (.bool (if op= .neq then !(a.isNone&&b.isNone)else a.isNone&&b.isNone)) Γ):bm P X n ds (some d) (.binOp op t x y yt) ty Nx ρ Γ:=
 b_ (by simp) hn fun ee o w ax aS he bg hs=>⟨_,w,Γ,by
  obtain⟨e,hu⟩:=T.h;refine CF op ax (he _ _ hx) (he _ _ hy) ?_ ?_ ?_
  ·rcases ho with rfl|rfl<;>simp[eqGuard]
  ·rcases ho with rfl|rfl<;>simp[binOp]
  ·rw[F4,Op.equalIn];simp only[Sem.run_bind,cN hu,Result.andThen_ok];rcases dS with rfl|rfl
   ·cases b<;>simp
   ·cases a<;>simp,hs,h⟩
theorem Ky{t yt:TypeId}{x y:Operand}{op:BinOp}{a b:Option Addr}[T:CE P t](ho:op= .eql∨op= .neq)(hx:ev ρ x=some (.pointer a))(hy:ev ρ y=some (.pointer b))(dS:a=none∨b=none):bI P (.binOp op t x y yt) ty ρ Γ (.bool (if op= .neq then !(a.isNone&&b.isNone)else a.isNone&&b.isNone)):=
 ⟨by simp,fun ee o E w ax aS he bg hs=>by
  obtain⟨e,hu⟩:=T.h;refine CF op ax (he _ _ hx) (he _ _ hy) ?_ ?_ ?_
  ·rcases ho with rfl|rfl<;>simp[eqGuard]
  ·rcases ho with rfl|rfl<;>simp[binOp]
  ·rw[F4,Op.equalIn];simp only[Sem.run_bind,cN hu,Result.andThen_ok];rcases dS with rfl|rfl
   ·cases b<;>simp
   ·cases a<;>simp⟩
end ops
end
section
open Go.RowKit
def Spec(P:Program)(f:FuncId)(args:List Value)(A:List HP)(R:Value→List HP→Prop):Prop:=
 ∀E Γ w,St E (A++Γ) w→Calls P f args.toArray w fun e w'=>∃v B,e= .returned v∧R v B∧St E (B++Γ) w'
theorem Spec.mono{P:Program}{f:FuncId}{args:List Value}{A:List HP}{R R':Value→List HP→Prop}(h:Spec P f args A R)(hr:∀v B,R v B→R' v B):Spec P f args A R':=
 fun E Γ w s=>(h E Γ w s).mono fun _ _ ⟨v,B,e,r,s'⟩=>⟨v,B,e,hr v B r,s'⟩
theorem Spec.pre{P:Program}{f:FuncId}{args:List Value}{A A':List HP}{R:Value→List HP→Prop}(h:Spec P f args A R)(hA:ak A' A):Spec P f args A' R:=
 fun E Γ w s=>h E Γ w ((hA.frame Γ).st s)
class aB(P:Program)(f:FuncId):Prop where run:∀(args:Array Value) (w:World),(callFunc f args).run P w= .ok (.enter f args) w
section ops
variable {P:Program} {X:Cx} {n:Nat} {ds:List Deferred} {ρ:aK} {Γ:List HP} {Nx:Value→List HP→Prop} {d:Nat} {ty:TypeId}
theorem Sg{d:Nat}{op:Op}{ty:TypeId}(dH:∀c,op≠.defer c)(hn:Nat.blt d n=true)
 (h:∀(e:Operand→Value) (o:Oper) (w:World),o.op=op→(∀x v,ev ρ x=some v→e x=v)→(∀xs vs,gk ρ xs=some vs→xs.map e=vs)→St X.E Γ w→
  ∃f args w',(execOp e o).run P w= .ok (.enter f args) w'∧Calls P f args w' fun e F5=>∃v Γ',e= .returned v∧St X.E Γ' F5∧Nx v Γ'):
 bm P X n ds (some d) op ty Nx ρ Γ:=by
 intro ops i o rest k ρF hle ho gB ax aS hw hK t w cP hm hs;obtain⟨f,args,w',hr,Si⟩:=h (Act.mk t ds).eval o w ax (fun x v hx=>(hm.le hle).ev ds hx) (fun xs vs hx=>(hm.le hle).gk ds hx) hs;have aN:d<t.size:=by rw[cP];exact of_decide_eq_true (by simpa[zN]using hn)
 obtain⟨o4,uz⟩:∃o4,X.base.atR ⟨t,ds⟩ (.inRegion ops (i::rest)::k)=o4:=⟨_,rfl⟩
 have yR:step P (lone o4 X.cs w)= .next (lone (Frame.enter P f args .normal) (o4::X.cs) w'):=by
  rw[←uz];refine step_lone_go ?_;rw[stepGR_op ho (hw t hm),Oper.semAt_eq _ _ _ (by rw[ax];exact dH)];simp[stepG.apply,hr,Frame.atR]
 obtain⟨e,F5,fr,⟨v,Γ',rfl,ju,uk⟩,p_,fZ,qT⟩:=Si (o4::X.cs);have fX:=Frame.finish_atR X.base ⟨t,ds⟩ ops i rest k v;have hp:((ops[i]?).bind (·.dst))=some d:=by simp[ho,gB]
 rw[hp,uz]at fX;rw[uz];refine .step yR (.steps p_ (.step (step_leave_returned qT) ?_));rw[fX];exact hK _ _ uk _ F5 (by simpa using cP) (hm.put v aN) ju
theorem o5{fo:Operand}{args:List Operand}{ts:Array TypeId}{f:FuncId}{fs caps vs:List Value}{A Δ:List HP}{R:Value→List HP→Prop}(hf:ev ρ fo=some (.func (.func f) fs.toArray caps.toArray))(ha:gk ρ args=some vs)[C:aB P f]
 (S:Spec P f (fs++vs++caps) A R) [T:nN Γ A Δ] (hn:Nat.blt d n=true) (h:∀v B,R v B→Nx (v) (B++Δ)):
 bm P X n ds (some d) (.call ⟨.value fo,args.toArray,ts⟩) ty Nx ρ Γ:=
 Sg (by simp) hn fun e o w ax he bg hs=>⟨f,(fs++vs++caps).toArray,w,by
  simp[execOp,ax,resolve,he _ _ hf,Deferred.ofValue,invoke,bg _ _ ha,aB.run],(S X.E Δ w hs.take).mono fun _ _ ⟨v,B,e,r,s'⟩=>⟨v,B++Δ,e,s',h v B r⟩⟩
theorem aq{f:FuncId}{args:List Operand}{ts:Array TypeId}{vs:List Value}{A Δ:List HP}{R:Value→List HP→Prop}(ha:gk ρ args=some vs)[C:aB P f]
 (S:Spec P f vs A R) [T:nN Γ A Δ] (hn:Nat.blt d n=true) (h:∀v B,R v B→Nx (v) (B++Δ)):
 bm P X n ds (some d) (.call ⟨.value (.func f),args.toArray,ts⟩) ty Nx ρ Γ:=
 o5 (fs:=[]) (caps:=[]) rfl ha (by simpa using S) hn h
end ops
theorem Sj{P:Program}{X:Cx}{n:Nat}{ds:List Deferred}{ρ:aK}{Γ Δ:List HP}{todo:List Item}{s len cap:Nat}{xs:List Value}(a:Option Addr)[H:ig Γ a s len cap xs Δ](h:xs.length=len*s→len≤cap→Ex P X n ds todo ρ Γ):Ex P X n ds todo ρ Γ:=
 fun t w hn hm hs=>have st:=(hs.perm H.h).jJ;h st.1 st.2.1 t w hn hm hs
theorem yS{P:Program}{X:Cx}{n:Nat}{ds:List Deferred}{ops:Array Oper}{l:List Oper}{k:List Item}{ρ:aK}{Γ Δ:List HP}{s len cap:Nat}{xs:List Value}(a:Option Addr)[H:ig Γ a s len cap xs Δ](h:xs.length=len*s→len≤cap→jt P X n ds ops l k ρ Γ):jt P X n ds ops l k ρ Γ:=
 fun i hi t w hn hm hs=>have st:=(hs.perm H.h).jJ;h st.1 st.2.1 i hi t w hn hm hs
theorem gh{P:Program}{X:Cx}{n:Nat}{ds:List Deferred}{ops:Array Oper}{l:List Oper}{k:List Item}{ρ:aK}{Γ Γ':List HP}(hΓ:ak Γ Γ')(h:jt P X n ds ops l k ρ Γ'):jt P X n ds ops l k ρ Γ:=
 fun i hi t w hn hm hs=>h i hi t w hn hm (hΓ.st hs)
theorem yT{P:Program}{X:Cx}{n:Nat}{ds:List Deferred}{ops:Array Oper}{l:List Oper}{k:List Item}{ρ:aK}{Γ:List HP}{α:Type}{Γ':α→List HP}(hΓ:∀E w,St E Γ w→∃a,St E (Γ' a) w)(h:∀a,jt P X n ds ops l k ρ (Γ' a)):jt P X n ds ops l k ρ Γ:=
 fun i hi t w hn hm hs=>let ⟨a,s⟩:=hΓ _ _ hs;h a i hi t w hn hm s
theorem kN{P:Program}{X:Cx}{n:Nat}{ds:List Deferred}{ρ:aK}{Γ:List HP}{todo:List Item}{p:Prop}(hp:∀E w,St E Γ w→p)(h:p→Ex P X n ds todo ρ Γ):Ex P X n ds todo ρ Γ:=
 fun t w hn hm hs=>h (hp _ _ hs) t w hn hm hs
def Sk(P:Program)(f:FuncId)(E:Env)(cs:List Frame)(R:Value→List HP→Prop)(Γ:List HP):Machine→Prop:=fun m=>
 ∃fr w v B,m=lone fr cs w∧fr.fn=f∧fr.leaving P w (.returned v)∧R v B∧St E (B++Γ) w
def jX(P:Program)(f:FuncId)(E:Env)(cs:List Frame)(R:Value→List HP→Prop)(Γ:List HP):Cx:=⟨f,none,cs,E,Sk P f E cs R Γ⟩
def sK:Nat→List Value→aK
 |_,[]=>[]
 |i,v::vs=>(i,v)::sK (i+1) vs
theorem Sm:∀(vs:List Value) (i j:Nat) (u:Value),lk (sK i vs) j=some u→i≤j∧vs[j-i]? =some u:=by
 intro vs;induction vs with
 |nil=>intro i j u h;cases h
 |cons v vs ih=>
  intro i j u h;unfold sK lk at h;cases hb:Nat.beq i j with
  |true=>
   rw[hb]at h;have e:=zJ hb;subst e;simpa using h
  |false=>
   rw[hb]at h;obtain⟨h1,h2⟩:=ih _ _ _ h;refine⟨by omega,?_⟩;rw[show j-i=(j-(i+1))+1 by omega];simpa using h2
theorem Spec.az{P:Program}{f:FuncId}{fn:Func}{c:Code}{n:Nat}{args:List Value}{A:List HP}{R:Value→List HP→Prop}(hf:P.funcs[f]? =some fn)(hb:fn.body=some c)(hn:fn.ntmps=n)(hl:Nat.ble args.length n=true)
 (h:∀E cs Γ,Ex P (jX P f E cs R Γ) n [] [.code c] (sK 0 args) (A++Γ)):Spec P f args A R:=by
 intro E Γ w s cs;let b:Frame:={(default:Frame)with fn:=f,kind:= .normal}
 have hle:=zX hl;have yR:Frame.enter P f args.toArray .normal=(jX P f E cs R Γ).base.atR ⟨args.toArray++Array.replicate (n-args.length) undef,[]⟩ [.code c]:=by
  simp[Frame.enter,Frame.atR,hf,hb,hn,Cx.base,jX]
 obtain⟨m,Kz,fr,w',v,B,rfl,fZ,qT,hR,hs⟩:=h E cs Γ (args.toArray++Array.replicate (n-args.length) undef) w (by simp;omega) (fun i u hu=>by
  obtain⟨_,h2⟩:=Sm _ _ _ _ hu;have hi:=(List.getElem?_eq_some_iff.1 h2).1;rw[Array.getElem?_append_left (by simpa using hi)];simpa using h2) s
 rw[←yR]at Kz;exact⟨.returned v,w',fr,⟨v,B,rfl,hR,hs⟩,Kz,fZ,qT⟩
class aG(P:Program)(f:FuncId)(ts:outParam (List Nat)):Prop where h:∃fn,P.funcs[f]? =some fn∧fn.results=(ts.map ResultVar.tmp).toArray
def eo:List Value→Value
 |[v]=>v
 |vs=> .tuple vs.toArray
theorem CG{P:Program}{fn:Func}{ts:List Nat}{ρ:aK}{t:Array Value}{vs:List Value}(hr:fn.results=(ts.map ResultVar.tmp).toArray)(hm:gQ ρ t)(hv:gk ρ (ts.map .tmp)=some vs)(w:World):(results fn t).run P w= .ok (eo vs) w:=by
 have h1:=hm.gk [] hv;have key:∀(ts:List Nat) (vs:List Value),(ts.map Operand.tmp).map (Act.mk t []).eval=vs→((ts.map ResultVar.tmp).mapM (fun
  | .tmp i=>pure (t.getD i undef)
  | .cell a ty=>do loadVar ty (←asAddr (t.getD a undef)):ResultVar→Sem Value)).run P w= .ok vs w:=by
  intro ts;induction ts with
  |nil=>intro vs h;cases h;simp
  |cons i ts ih=>
   intro vs h;subst h;rw[zE,zbU];simp only[Sem.run_bind,Sem.run_pure,Result.andThen_ok,ih _ rfl]
   rfl
 have h2:=key ts vs h1;unfold results;rw[hr,zbu];simp only[Sem.run_bind,Sem.run_map,Sem.run_pure];refine(congrArg (fun (r:Result (List Value))=>((r.andThen fun a w'=>Result.ok a.toArray w').andThen fun a w'=>Result.ok (if h:a.size=1 then a[0]else Value.tuple a) w')) h2).trans ?_
 match vs with
 |[]=>rfl
 |[v]=>rfl
 |v::u::us=>rfl
theorem ap{P:Program}{f:FuncId}{E:Env}{cs:List Frame}{R:Value→List HP→Prop}{Γ Δ:List HP}{n:Nat}{k:List Item}{ρ:aK}{ts:List Nat}{vs:List Value}[F:aG P f ts](hv:gk ρ (ts.map .tmp)=some vs)(B:List HP)(hR:R (eo vs) B)(hE:ak Δ (B++Γ)):
 Ex P (jX P f E cs R Γ) n [] (.code .ret::k) ρ Δ:=by
 intro t w cP hm hs;obtain⟨fn,fZ,lx⟩:=F.h;refine .step (stepR_ret rfl) (.now ⟨_,w,eo vs,B,rfl,rfl,⟨rfl,rfl,rfl,fn,fZ,?_⟩,hR,hE.st hs⟩);exact CG lx hm hv w
theorem cJ{P:Program}{f:FuncId}{E:Env}{cs:List Frame}{R:Value→List HP→Prop}{Γ Δ:List HP}{n:Nat}{ρ:aK}[F:aG P f []](B:List HP)(hR:R (.tuple #[]) B)(hE:ak Δ (B++Γ)):
 Ex P (jX P f E cs R Γ) n [] [] ρ Δ:=by
 intro t w cP hm hs;obtain⟨fn,fZ,lx⟩:=F.h;refine .step (stepR_end rfl) (.now ⟨_,w,.tuple #[],B,rfl,rfl,⟨rfl,rfl,rfl,fn,fZ,?_⟩,hR,hE.st hs⟩);exact CG (ts:=[]) (vs:=[]) lx hm rfl w
theorem qa{x y:Int}(h: -9223372036854775808≤x+y∧x+y≤9223372036854775807):IntKind.i64.wrap (x+y)=x+y:=by
 rw[IntKind.wrap_i64];omega
theorem F6{x y:Int}(h: -9223372036854775808≤x-y∧x-y≤9223372036854775807):IntKind.i64.wrap (x-y)=x-y:=by
 rw[IntKind.wrap_i64];omega
theorem gE{x:Int}(h: -9223372036854775808≤x∧x≤9223372036854775807):IntKind.i64.wrap x=x:=by
 rw[IntKind.wrap_i64];omega
theorem CH{bs:List UInt8}{i:Nat}(h:i<bs.length):(bs.map bv)[i]? =some (bv bs[i]):=by simp[h]
theorem uA{α:Type}(f:α→Value){bs:List α}{i:Nat}(h:i<bs.length):(bs.map f)[i]? =some (f bs[i]):=by simp[h]
theorem F7{α β:Type}(f:α→β)(l:List α)(i:Nat)(h:i<l.length):(l.take i).map f++[f l[i]]=(l.take (i+1)).map f:=by
 rw[za1 h,zg];rfl
theorem CI{α:Type}(l:List α)(i:Nat)(h:l.length≤i):l.take i=l:=zo h
end
section
open Go.RowKit
inductive wF(ops:Array Oper):(Nat→Bool)→List Nat→Prop
 |nil {S:Nat→Bool} (h:∀i,i<ops.size→S i=true):wF ops S []
 |cons {S:Nat→Bool} {i:Nat} {o:Oper} {L:List Nat} (hi:ops[i]? =some o) (hS:S i=false) (hd:∀e∈o.after,Region.binds .any e=true→S e.on=true) (h:wF ops (fun j=>S j||j==i) L):wF ops S (i::L)
def o6:List Oper→Nat→Bool
 |[],_=>true
 |o::l,i=>o.after.all (fun e=> !Region.binds .any e||Nat.blt e.on i)&&o6 l (i+1)
theorem KA:∀{l:List Oper} {i j:Nat} {o:Oper},o6 l i=true→l[j]? =some o→∀e∈o.after,Region.binds .any e=true→e.on<i+j:=by
 intro l;induction l with
 |nil=>intro i j o _ h;cases h
 |cons p l ih=>
  intro i j o h hj e he hb;unfold o6 at h;simp only[zh]at h;cases j with
  |zero=>
   simp at hj;subst hj;have:=Array.all_eq_true'.1 h.1 e he;simp[hb,zN]at this;omega
  |succ j=>
   have:=ih h.2 (by simpa using hj) e he hb;omega
def ly(m:Nat)(fu:Array Bool):List Nat:=(List.range m).filter fun i=> !fu.getD i false
theorem Sn{m i:Nat}{fu:Array Bool}(hs:fu.size=m)(hi:i<m)(hl:fu.getD i false=false):(ly m (fu.setIfInBounds i true)).length<(ly m fu).length:=by
 have e:ly m (fu.setIfInBounds i true)=(ly m fu).filter (fun j=>j !=i):=by
  unfold ly;rw[List.filter_filter];apply List.filter_congr;intro j hj;have F8:j<m:=List.mem_range.1 hj;simp only[zaz,zbk];by_cases eC:i=j
  ·subst eC;simp[hs,hi]
  ·simp[eC,zb4 eC]
 rw[e,List.length_filter_lt_length_iff_exists];exact⟨i,by simp[ly,hi];simpa using hl,by simp⟩
theorem So{ops:Array Oper}(o7:o6 ops.toList 0=true):∀(dn t:Nat) (fu:Array Bool) (acc:List Nat),fu.size=ops.size→(ly ops.size fu).length≤dn→
 ∃L,Region.linearise.go .any ops dn t fu acc=acc.reverse++L∧wF ops (fun i=>fu.getD i false) L:=by
 intro dn;induction dn with
 |zero=>
  intro t fu acc hs hf;refine⟨[],by simp[Region.linearise.go],.nil fun i hi=>?_⟩;have:ly ops.size fu=[]:=List.length_eq_zero_iff.1 (by omega);apply zI;intro hn;have hm:i∈ly ops.size fu:=by simp[ly,hi];simpa using hn
  rw[this]at hm;cases hm
 |succ dn ih=>
  intro t fu acc hs hf;obtain⟨rs,CJ⟩:∃rs,((List.range ops.size).filter fun i=> !fu.getD i true&&((ops[i]?).map (·.after.all fun e=> !Region.binds .any e||fu.getD e.on false)).getD false)=rs:=⟨_,rfl⟩
  by_cases gF:ly ops.size fu=[]
  ·have Sp:rs=[]:=by
    rw[←CJ,zbH];intro i hi;have qb:i<ops.size:=List.mem_range.1 hi;have hl:fu.getD i false=true:=by
     apply zI;intro hn;have hm:i∈ly ops.size fu:=by simp[ly,qb];simpa using hn
     rw[gF]at hm;cases hm
    have iq:fu.getD i true=true:=by
     simp only[zaz]at hl⊢;rw[zan (by omega)]at hl⊢;simpa using hl
    simp[iq]
   refine⟨[],?_,.nil fun i hi=>?_⟩
   ·unfold Region.linearise.go;simp only[CJ,Sp];simp
   ·apply zI;intro hn;have hm:i∈ly ops.size fu:=by simp[ly,hi];simpa using hn
    rw[gF]at hm;cases hm
  ·
   have hex:∃i,i<ops.size∧fu.getD i false=false:=by
    obtain⟨i,hi⟩:=List.exists_mem_of_ne_nil _ gF;simp[ly]at hi;exact⟨i,hi.1,by simpa using hi.2⟩
   obtain⟨i0,⟨mJ,qU⟩,wH⟩:∃i,(i<ops.size∧fu.getD i false=false)∧∀j,j<i→¬(j<ops.size∧fu.getD j false=false):=by
    obtain⟨i,hi⟩:=hex;induction i using Nat.strongRecOn with
    |_ i Sq=>
     by_cases h:∃j,j<i∧j<ops.size∧fu.getD j false=false
     ·obtain⟨j,hj,lX⟩:=h;exact Sq j hj lX
     ·exact⟨i,hi,fun j hj lX=>h ⟨j,hj,lX⟩⟩
   have KB:∀i,i∈rs↔i<ops.size∧fu.getD i false=false∧∃o,ops[i]? =some o∧∀e∈o.after,Region.binds .any e=true→fu.getD e.on false=true:=by
    intro i;rw[←CJ,List.mem_filter,List.mem_range];constructor
    ·rintro⟨hi,h⟩;rw[zan hi]at h;simp only[zb3,Option.getD_some,zh,zbz]at h;refine⟨hi,?_,ops[i],zan hi,fun e he hb=>?_⟩
     ·have:=h.1;simp only[zaz]at this⊢;rw[zan (by omega)]at this⊢;simpa using this
     ·have:=Array.all_eq_true'.1 h.2 e he;simpa[hb]using this
    ·rintro⟨hi,hl,o,ho,hd⟩;refine⟨hi,?_⟩;rw[ho];simp only[zb3,Option.getD_some,zh,zbz];refine⟨?_,Array.all_eq_true'.2 fun e he=>?_⟩
     ·simp only[zaz]at hl⊢;rw[zan (by omega)]at hl⊢;simpa using hl
     ·cases hb:Region.binds .any e with
      |false=>simp
      |true=>simp[hd e he hb]
   have Sr:i0∈rs:=(KB i0).2 ⟨mJ,qU,ops[i0],zan mJ,fun e he hb=>by
    have aN:=KA o7 (j:=i0) (o:=ops[i0]) (by simp[mJ]) e he hb;have:=wH e.on (by omega);apply zI;intro hn;exact this ⟨by omega,by simpa using hn⟩⟩
   have hlen:0<rs.length:=List.length_pos_of_mem Sr;have aN:t%rs.length<rs.length:=za0 _ hlen;obtain⟨i,hi⟩:=bc (l:=rs) (i:=t%rs.length) aN;obtain⟨qb,ec,o,ho,hd⟩:=(KB i).1 (zc hi);obtain⟨L,hL,uB⟩:=ih (t/rs.length) (fu.setIfInBounds i true) (i::acc) (by simpa using hs) (by have:=Sn hs qb ec;omega);refine⟨i::L,?_,.cons ho ec hd ?_⟩
   ·unfold Region.linearise.go;simp only[CJ,hi];rw[hL];simp
   ·have e:(fun j=>(fu.setIfInBounds i true).getD j false)=(fun j=>fu.getD j false||j==i):=by
     funext j;simp only[zaz,zbk];by_cases hj:i=j
     ·subst hj;simp[hs,qb]
     ·simp[hj,zb4 hj]
    rw[←e];exact uB
theorem Ss{ops:Array Oper}(o7:o6 ops.toList 0=true)(t:Nat):wF ops (fun _=>false) (Region.schedule true ops t):=by
 obtain⟨L,hL,hs⟩:=So o7 ops.size t (Array.replicate ops.size false) [] (by simp) (by
  have:=zaR (fun i=> !(Array.replicate ops.size false).getD i false) (List.range ops.size);simpa[ly]using this)
 have e:(fun i=>(Array.replicate ops.size false).getD i false)=fun _=>false:=by
  funext i;simp[zaz,Array.getElem?_replicate];split<;>rfl
 rw[e]at hs;have:Region.schedule true ops t=L:=by
  unfold Region.schedule Region.linearise;simp[hL]
 rw[this];exact hs
section draw
variable {P:Program} {X:Cx} {n:Nat} {ds:List Deferred} {k:List Item} {ρ:aK} {Γ:List HP}
inductive KC(P:Program)(X:Cx)(n:Nat)(ds:List Deferred)(ops:Array Oper)(o:Oper)(Nx:aK→List HP→Prop)(ρ:aK)(Γ:List HP):Prop
 |plain (hg:o.guard=none) (h:bm P X n ds o.dst o.op o.type (fun v Γ'=>Nx (put o.dst v ρ) Γ') ρ Γ)
 |guarded {j:Nat} {b:Bool} (hg:o.guard=some (j,b)) (hv:gd ρ ops j=some (.bool b)) (h:bm P X n ds o.dst o.op o.type (fun v Γ'=>Nx (put o.dst v ρ) Γ') ρ Γ)
 |uC {j:Nat} {b:Bool} {v:Value} (hg:o.guard=some (j,b)) (hv:gd ρ ops j=some v) (hb:v= .bool (!b)∨v=undef) (hd:∀d,o.dst=some d→Nat.blt d n=true) (h:Nx (put o.dst undef ρ) Γ)
def CK(Q:Nat→Oper→Prop):Nat→List Oper→Prop
 |_,[]=>True
 |i,o::l=>Q i o∧CK Q (i+1) l
theorem CK.get{Q:Nat→Oper→Prop}:∀{l:List Oper} {i j:Nat} {o:Oper},CK Q i l→l[j]? =some o→Q (i+j) o:=by
 intro l;induction l with
 |nil=>intro i j o _ h;cases h
 |cons p l ih=>
  intro i j o h hj;cases j with
  |zero=>simp at hj;subst hj;exact h.1
  |succ j=>have:=ih h.2 (show l[j]? =some o by simpa using hj);rw[show i+(j+1)=i+1+j by omega];exact this
theorem CL{id:Nat}{l:List Oper}(hm:P.follows .mixedOrders=true)(o7:o6 l 0=true)(J:(Nat→Bool)→aK→List HP→Prop)(h0:J (fun _=>false) ρ Γ)
 (lY:∀i o,l[i]? =some o→∀S ρ Γ,S i=false→(∀e∈o.after,Region.binds .any e=true→S e.on=true)→J S ρ Γ→KC P X n ds l.toArray o (J fun j=>S j||j==i) ρ Γ)
 (cv:∀S ρ Γ,(∀i,i<l.length→S i=true)→J S ρ Γ→Ex P X n ds k ρ Γ):
 Ex P X n ds (.code (.region id l.toArray true)::k) ρ Γ:=by
 have key:∀S L,wF l.toArray S L→∀ρ Γ,J S ρ Γ→Ex P X n ds (.inRegion l.toArray L::k) ρ Γ:=by
  intro S L hs;induction hs with
  |nil h=>exact fun ρ Γ hJ t w cP fC eD=> .step stepR_region_end (cv _ ρ Γ (fun i hi=>h i (by simpa using hi)) hJ t w cP fC eD)
  | @cons S i o L hi hS hd _ ih=>
   intro ρ Γ hJ;have ho:l[i]? =some o:=by simpa using hi
   have:=lY i o ho S ρ Γ hS hd hJ;cases this with
   |plain hg h=>exact h l.toArray i o L k ρ (.refl ρ) hi rfl rfl rfl (fun t _=>by simp[Region.wanted,hg]) (fun v Γ' hN=>ih _ Γ' hN)
   |guarded hg hv h=>exact h l.toArray i o L k ρ (.refl ρ) hi rfl rfl rfl (fun t fC=>by simp[Region.wanted,hg,Ck hv fC]) (fun v Γ' hN=>ih _ Γ' hN)
   | @uC j b v hg hv hb gB h=>
    intro t w cP fC eD;have hw:Region.wanted o (yielded l.toArray t)=false:=by
     rcases hb with rfl|rfl
     ·simp only[Region.wanted,hg,Ck hv fC];cases b<;>rfl
     ·simp[Region.wanted,hg,JX hv fC]
    refine .step (stepR_op_skip (by simp[hi,hw])) ?_;cases lz:o.dst with
    |none=>
     have hp:((l.toArray[i]?).bind (·.dst))=none:=by simp[ho,lz]
     rw[hp];rw[lz]at h;exact ih _ _ h t w cP fC eD
    |some d=>
     have hp:((l.toArray[i]?).bind (·.dst))=some d:=by simp[ho,lz]
     rw[hp];rw[lz]at h;have hn:=gB d lz;have aN:d<t.size:=by rw[cP];exact of_decide_eq_true (by simpa[zN]using hn)
     exact ih _ _ h (t.setIfInBounds d undef) w (by simpa using cP) (fC.put undef aN) eD
 intro t w cP fC eD;refine .step stepR_region_draw ?_;rw[hm];exact key _ _ (Ss (ops:=l.toArray) o7 _) ρ Γ h0 t _ cP fC eD.drew
theorem Su{id:Nat}{l:List Oper}(hm:P.follows .mixedOrders=true)(o7:o6 l 0=true)(J:(Nat→Bool)→aK→List HP→Prop)(h0:J (fun _=>false) ρ Γ)
 (lY:CK (fun i o=>∀S ρ Γ,S i=false→(∀e∈o.after,Region.binds .any e=true→S e.on=true)→J S ρ Γ→KC P X n ds l.toArray o (J fun j=>S j||j==i) ρ Γ) 0 l)
 (cv:∀S ρ Γ,(∀i,i<l.length→S i=true)→J S ρ Γ→Ex P X n ds k ρ Γ):
 Ex P X n ds (.code (.region id l.toArray true)::k) ρ Γ:=
 CL hm o7 J h0 (fun i o ho S ρ Γ hS hd hJ=>by have:=lY.get ho S ρ Γ (by simpa using hS) hd hJ;rw[zO]at this;exact this) cv
def sL(ms:List Nat):List Edge→Nat
 |[]=>0
 |e::es=>match Region.binds .any e with
  |true=>(1<<<e.on)|||ms.getD e.on 0|||sL ms es
  |false=>sL ms es
def eS:List Oper→List Nat→List Nat
 |[],ms=>ms
 |o::l,ms=>eS l (ms++[sL ms o.after.toList])
def uD(l:List Oper)(S:Nat→Bool):Prop:=∀(j:Nat) (o:Oper),l[j]? =some o→S j=true→∀e∈o.after,Region.binds .any e=true→S e.on=true
theorem Sv{ms:List Nat}{c:Nat}:∀{es:List Edge},(sL ms es).testBit c=true→∃e∈es,Region.binds .any e=true∧(c=e.on∨(ms.getD e.on 0).testBit c=true):=by
 intro es;induction es with
 |nil=>intro h;simp[sL]at h
 |cons e es ih=>
  intro h;unfold sL at h;cases hb:Region.binds .any e with
  |false=>
   rw[hb]at h;obtain⟨e',iV,h'⟩:=ih h;exact⟨e',zP _ iV,h'⟩
  |true=>
   rw[hb]at h;simp only[Nat.testBit_or,zM]at h;rcases h with (h|h)|h
   ·refine⟨e,zay ..,hb,.inl ?_⟩;rw[Nat.one_shiftLeft,Nat.testBit_two_pow]at h;exact(of_decide_eq_true h).symm
   ·exact⟨e,zay ..,hb,.inr h⟩
   ·obtain⟨e',iV,h'⟩:=ih h;exact⟨e',zP _ iV,h'⟩
theorem KE:∀(l:List Oper) (ms:List Nat) (j:Nat),j<ms.length→(eS l ms)[j]? =ms[j]? :=by
 intro l;induction l with
 |nil=>intro ms j _;rfl
 |cons o l ih=>intro ms j hj;rw[eS,ih _ _ (by simp;omega),zt hj]
theorem Sw:∀(l:List Oper) (ms:List Nat) (j:Nat) (o:Oper),l[j]? =some o→∃wI,(∀i,i<ms.length+j→wI[i]? =(eS l ms)[i]?)∧wI.length=ms.length+j∧(eS l ms)[ms.length+j]? =some (sL wI o.after.toList):=by
 intro l;induction l with
 |nil=>intro ms j o h;cases h
 |cons p l ih=>
  intro ms j o h;cases j with
  |zero=>
   simp at h;subst h;refine⟨ms,fun i hi=>?_,rfl,?_⟩
   ·rw[eS,KE _ _ _ (by simp;omega),zt (by simpa using hi)]
   ·rw[eS,KE _ _ _ (by simp)];simp
  |succ j=>
   obtain⟨wI,h1,h2,h3⟩:=ih (ms++[sL ms p.after.toList]) j o (by simpa using h);simp at h1 h2 h3;refine⟨wI,fun i hi=>?_,by omega,?_⟩
   ·rw[eS];exact h1 i (by omega)
   ·rw[eS,show ms.length+(j+1)=ms.length+1+j by omega];exact h3
theorem qV{l:List Oper}(o7:o6 l 0=true){S:Nat→Bool}(hS:uD l S):∀(j:Nat),j<l.length→S j=true→∀c,((eS l []).getD j 0).testBit c=true→S c=true:=by
 intro j;induction j using Nat.strongRecOn with
 |_ j ih=>
  intro hj eE c hc;obtain⟨wI,h1,h2,h3⟩:=Sw l [] j l[j] (za hj);simp at h1 h2 h3;rw[ze,h3]at hc;obtain⟨e,he,hb,h⟩:=Sv (by simpa using hc);have iV:e∈l[j].after:=by simpa using he
  have KG:=hS j _ (za hj) eE e iV hb;have aN:=KA o7 (za hj) e iV hb;rcases h with rfl|h
  ·exact KG
  ·refine ih e.on (by omega) (by omega) KG c ?_;rw[ze,←h1 e.on (by omega),←ze];exact h
def yU(l:List Oper)(acc:aK):List Edge→aK
 |[]=>[]
 |e::es=>match Region.binds .any e,(l[e.on]?).bind (·.dst),lk acc e.on with
  |true,some d,some v=>(d,v)::yU l acc es
  |_,_,_=>yU l acc es
def dstsOf(l:List Oper):List Nat:=l.filterMap (·.dst)
def lZ(x:Nat):List Nat→Bool
 |[]=>false
 |y::ys=>Nat.beq x y||lZ x ys
theorem ox{x:Nat}{ys:List Nat}:lZ x ys=true↔x∈ys:=by
 induction ys with
 |nil=>simp[lZ]
 |cons y ys ih=>simp[lZ,ih]
def sM:List Nat→Bool
 |[]=>true
 |x::xs=> !lZ x xs&&sM xs
theorem CM{xs:List Nat}:sM xs=true↔xs.Nodup:=by
 induction xs with
 |nil=>simp[sM]
 |cons x xs ih=>
  simp only[sM,zh,zbz,ih,zb5];rw[←ox];simp
def wJ(l:List Oper)(ms:List Nat)(i s:Nat):Nat→List Oper→Bool
 |_,[]=>true
 |j,o::r=>(match o.dst with
  |some d=>match Nat.beq d s with
   |true=>(ms.getD j 0).testBit i
   |false=>true
  |none=>true)&&wJ l ms i s (j+1) r
theorem F9{l:List Oper}{ms:List Nat}{i s:Nat}:∀{r:List Oper} {j:Nat},wJ l ms i s j r=true→∀c,(r[c]?).bind (·.dst)=some s→(ms.getD (j+c) 0).testBit i=true:=by
 intro r;induction r with
 |nil=>intro j _ c hc;simp at hc
 |cons o r ih=>
  intro j h c hc;unfold wJ at h;rw[zh]at h;cases c with
  |zero=>
   have hd:o.dst=some s:=by simpa using hc
   have h1:=h.1;rw[hd]at h1;simp only[Nat.beq_refl]at h1;simpa using h1
  |succ c=>
   have:=ih h.2 c (by simpa using hc);rwa[show j+(c+1)=j+1+c by omega]
def yV(l:List Oper)(i:Nat):aK→aK
 |[]=>[]
 |(s,v)::r=>match wJ l (eS l []) i s 0 l with
  |true=>(s,v)::yV l i r
  |false=>yV l i r
theorem F_{l:List Oper}{i s:Nat}{v:Value}:∀{r:aK},lk (yV l i r) s=some v→lk r s=some v∧wJ l (eS l []) i s 0 l=true:=by
 intro r;induction r with
 |nil=>intro h;cases h
 |cons p r ih=>
  obtain⟨s',v'⟩:=p;intro h;unfold yV at h;cases hb:wJ l (eS l []) i s' 0 l with
  |true=>
   rw[hb]at h;unfold lk at h⊢;cases he:Nat.beq s' s with
   |true=>
    rw[he]at h;have:=zJ he;subst this;exact⟨h,hb⟩
   |false=>rw[he]at h;exact ih h
  |false=>
   rw[hb]at h;obtain⟨h1,h2⟩:=ih h;refine⟨?_,h2⟩;unfold lk;cases he:Nat.beq s' s with
   |true=>
    have:=zJ he;subst this;rw[h2]at hb;cases hb
   |false=>exact h1
def gn(l:List Oper)(m:Nat)(base acc:aK)(i:Nat)(es:List Edge):aK:=yU l acc es++(match Nat.blt i m with|true=>base|false=>yV l i base)
def kO(l:List Oper):aK→aK
 |[]=>[]
 |(i,v)::r=>match (l[i]?).bind (·.dst)with
  |some d=>(d,v)::kO l r
  |none=>kO l r
@[reducible] def fo (op:Op) (F:List HP):List HP:=match op with
 | .fieldAddr _ _ _=>[]
 | .move _=>[]
 | .assign _=>[]
 | .extract _ _=>[]
 | .nilCheck _=>[]
 | .slice _ _ _ _ _=>[]
 | .indexAddr _ _ _=>[]
 | .index _ _ _=>[]
 | .pick _ _ _=>[]
 | .build _ _=>[]
 | .binOp _ _ _ _ _=>[]
 | .unOp _ _ _=>[]
 |_=>F
def yW(op:Op):Bool:=match op with
 | .fieldAddr _ _ _=>false
 | .move _=>false
 | .assign _=>false
 | .extract _ _=>false
 | .nilCheck _=>false
 | .slice _ _ _ _ _=>false
 | .indexAddr _ _ _=>false
 | .index _ _ _=>false
 | .pick _ _ _=>false
 | .build _ _=>false
 | .binOp _ _ _ _ _=>false
 | .unOp _ _ _=>false
 |_=>true
theorem Sx{op:Op}(F:List HP)(h:yW op=false):fo op F=[]:=by
 unfold yW at h;unfold fo;split at h<;>first|rfl|cases h
theorem Ga(op:Op)(F:List HP):fo op F=F∨fo op F=[]:=by
 unfold fo;split<;>simp
def uE(ms:List Nat):List (Nat×Bool)→Bool
 |[]=>true
 |(c,true)::r=>r.all (fun p=>(ms.getD p.1 0).testBit c)&&uE ms r
 |(_,false)::r=>uE ms r
def Gb(l:List Oper):Bool:=l.all fun o=>match o.guard with
 |none=>true
 |some (j,_)=>o.after.any (fun e=>Nat.beq e.on j&&Region.binds .any e)&&((l[j]?).bind (·.dst)).isSome
def CN(l:List Oper)(i:Nat):Bool:=match l[i]? with
 |some o=>yW o.op
 |none=>true
def KH(l:List Oper)(m:Nat)(π:List (Nat×Bool)):Bool:=
 o6 l 0&&sM (π.map (·.1))&&(List.range l.length).all (fun i=>lZ i (π.map (·.1)))&&uE (eS l []) π&&sM (dstsOf l)&&Gb l&&π.all (fun c=> !c.2||Nat.blt c.1 m||π.all (fun p=>p.2|| !CN l p.1||((eS l []).getD c.1 0).testBit p.1))
def CP(ms:List Nat)(m s:Nat):Nat→List Oper→Bool
 |_,[]=>true
 |j,o::r=>(match o.dst with
  |some d=>match Nat.beq d s with
   |true=>(List.range m).all fun i=>(ms.getD j 0).testBit i
   |false=>true
  |none=>true)&&CP ms m s (j+1) r
theorem Sy{ms:List Nat}{m s:Nat}:∀{r:List Oper} {j:Nat},CP ms m s j r=true→∀c,(r[c]?).bind (·.dst)=some s→∀i,i<m→(ms.getD (j+c) 0).testBit i=true:=by
 intro r;induction r with
 |nil=>intro j _ c hc;simp at hc
 |cons o r ih=>
  intro j h c hc i hi;unfold CP at h;rw[zh]at h;cases c with
  |zero=>
   have hd:o.dst=some s:=by simpa using hc
   have h1:=h.1;rw[hd]at h1;simp only[Nat.beq_refl]at h1;have:=zaQ.1 h1 i (List.mem_range.2 hi);simpa using this
  |succ c=>
   have:=ih h.2 c (by simpa using hc) i hi;rwa[show j+(c+1)=j+1+c by omega]
def wK(l:List Oper)(m:Nat):aK→Bool
 |[]=>true
 |(s,_)::r=>CP (eS l []) m s 0 l&&wK l m r
def GV(P:Program)(acc:aK)(o:Oper)(ρ:aK)(F:List HP)(v:Value):Prop:=match o.guard with
 |none=>bI P o.op o.type ρ (fo o.op F) v
 |some (j,b)=>(lk acc j=some (.bool b)∧bI P o.op o.type ρ (fo o.op F) v)∨((lk acc j=some (.bool (!b))∨lk acc j=some undef)∧v=undef)
def iW(P:Program)(X:Cx)(n:Nat)(ds:List Deferred)(l:List Oper)(m:Nat)(base:aK)(F:List HP)(k:List Item):List (Nat×Bool)→aK→List HP→Prop
 |[],acc,Γ=>Ex P X n ds k (kO l acc++base) Γ
 |(i,false)::π,acc,Γ=>∃o v,l[i]? =some o∧GV P acc o (gn l m base acc i o.after.toList) F v∧iW P X n ds l m base F k π ((i,v)::acc) Γ
 |(i,true)::π,acc,Γ=>∃o,l[i]? =some o∧(o.guard=none∨∃j b,o.guard=some (j,b)∧lk acc j=some (.bool b))∧
  bm P X n ds o.dst o.op o.type (fun v Γ'=>(Nat.ble m i=true∨∃Δ,Γ'.Perm (F++Δ))∧iW P X n ds l m base F k π ((i,v)::acc) Γ') (gn l m base acc i o.after.toList) Γ
theorem ir{r:aK}{i j:Nat}{v:Value}(h:i≠j):lk ((i,v)::r) j=lk r j:=by
 conv=>lhs;unfold lk
 cases hb:Nat.beq i j with
 |true=>exact absurd (zJ hb) h
 |false=>rfl
theorem jY{r:aK}{i:Nat}{v:Value}:lk ((i,v)::r) i=some v:=by
 unfold lk;rw[Nat.beq_refl]
theorem wL{r r':aK}{s:Nat}{v:Value}(h:lk (r++r') s=some v):lk r s=some v∨(lk r s=none∧lk r' s=some v):=by
 induction r with
 |nil=>exact .inr ⟨rfl,h⟩
 |cons p r ih=>
  obtain⟨i,u⟩:=p;rw[zl]at h;by_cases e:i=s
  ·subst e;rw[jY]at h;rw[jY];exact .inl h
  ·rw[ir e]at h;rw[ir e];exact ih h
theorem Gc{l:List Oper}{acc:aK}{s:Nat}{u:Value}:∀{es:List Edge},lk (yU l acc es) s=some u→∃e∈es,Region.binds .any e=true∧(l[e.on]?).bind (·.dst)=some s∧lk acc e.on=some u:=by
 intro es;induction es with
 |nil=>intro h;cases h
 |cons e es ih=>
  intro h;unfold yU at h;split at h
  ·rename_i d v h1 h2 h3;unfold lk at h;cases hb:Nat.beq d s with
   |true=>
    rw[hb]at h;have:=zJ hb;subst this;exact⟨e,zay ..,h1,h2,by rw[h3];exact h⟩
   |false=>rw[hb]at h;obtain⟨e',iV,h'⟩:=ih h;exact⟨e',zP _ iV,h'⟩
  ·obtain⟨e',iV,h'⟩:=ih h;exact⟨e',zP _ iV,h'⟩
theorem Gd{l:List Oper}{s:Nat}{u:Value}:∀{acc:aK},(acc.map (·.1)).Nodup→lk (kO l acc) s=some u→∃i,(l[i]?).bind (·.dst)=some s∧lk acc i=some u:=by
 intro acc;induction acc with
 |nil=>intro _ h;cases h
 |cons p acc ih=>
  obtain⟨i,v⟩:=p;intro hn h;rw[zE,zb5]at hn;have step:lk (kO l acc) s=some u→∃j,(l[j]?).bind (·.dst)=some s∧lk ((i,v)::acc) j=some u:=fun h=>by
   obtain⟨j,h1,h2⟩:=ih hn.2 h;refine⟨j,h1,?_⟩;rw[ir]
   ·exact h2
   ·rintro rfl;apply hn.1;have:∀(r:aK) (j:Nat) (u:Value),lk r j=some u→j∈r.map (·.1):=by
     intro r;induction r with
     |nil=>intro j u h;cases h
     |cons q r Sz=>
      obtain⟨a,b⟩:=q;intro j u h;unfold lk at h;cases hb:Nat.beq a j with
      |true=>have:=zJ hb;subst this;simp
      |false=>rw[hb]at h;exact zP _ (Sz j u h)
    exact this _ _ _ h2
  unfold kO at h;split at h
  ·rename_i d hd;unfold lk at h;cases hb:Nat.beq d s with
   |true=>
    rw[hb]at h;have:=zJ hb;subst this;exact⟨i,hd,by rw[jY];exact h⟩
   |false=>rw[hb]at h;exact step h
  ·exact step h
structure Inv(P:Program)(X:Cx)(n:Nat)(ds:List Deferred)(l:List Oper)(m:Nat)(base:aK)(F:List HP)(k:List Item)(π:List (Nat×Bool))(S:Nat→Bool)(ρ:aK)(Γ:List HP)(π1 π2:List (Nat×Bool))(acc:aK):Prop where
 split:π=π1++π2
 jL:iW P X n ds l m base F k π2 acc Γ
 facts:∀i b,(i,b)∈π1→∃v o,lk acc i=some v∧l[i]? =some o∧(b=true→S i=true)∧(b=false→∃ep,gR ep acc∧GV P ep o (gn l m base ep i o.after.toList) F v)
 gS:acc.map (·.1)=(π1.map (·.1)).reverse
 done:∀i,S i=true→i∈π1.map (·.1)
 iX:∀i v d,S i=true→lk acc i=some v→(l[i]?).bind (·.dst)=some d→lk ρ d=some v
 jZ:∀s v,lk base s=some v→(∀j,(l[j]?).bind (·.dst)=some s→S j=false)→lk ρ s=some v
 m_:uD l S
 fr:(∃t,m≤t∧S t=true∧(t,true)∈π)∨∃Δ,Γ.Perm (F++Δ)
theorem qW{r:aK}{j:Nat}{u:Value}(h:lk r j=some u):j∈r.map (·.1):=by
 induction r with
 |nil=>cases h
 |cons q r ih=>
  obtain⟨a,b⟩:=q;unfold lk at h;cases hb:Nat.beq a j with
  |true=>have:=zJ hb;subst this;simp
  |false=>rw[hb]at h;exact zP _ (ih h)
theorem Inv.pure{l:List Oper}{m:Nat}{base:aK}{F:List HP}{π:List (Nat×Bool)}{S:Nat→Bool}(dH:(π.map (·.1)).Nodup):∀(π2 π1:List (Nat×Bool)) (acc:aK),Inv P X n ds l m base F k π S ρ Γ π1 π2 acc→
 ∃π1' π2' qc,Inv P X n ds l m base F k π S ρ Γ π1' π2' qc∧(π2'=[]∨∃c r,π2'=(c,true)::r):=by
 intro π2;induction π2 with
 |nil=>exact fun π1 acc I=>⟨π1,[],acc,I,.inl rfl⟩
 |cons p π2 ih=>
  obtain⟨i,b⟩:=p;intro π1 acc I;cases b with
  |true=>exact⟨π1,_,acc,I,.inr ⟨i,π2,rfl⟩⟩
  |false=>
   obtain⟨o,v,ho,hg,hs⟩:=I.jL;have kP:i∉π1.map (·.1):=by
    have:=dH;rw[I.split,zg,zE,zab]at this;intro hm;exact this.2.2 i hm i (zay ..) rfl
   have o8:lk acc i=none:=by
    cases h:lk acc i with
    |none=>rfl
    |some u=>have:=qW h;rw[I.gS]at this;exact absurd (by simpa using this) kP
   have hle:gR acc ((i,v)::acc):=fun j u hj=>by
    rw[ir]
    ·exact hj
    ·rintro rfl;rw[o8]at hj;cases hj
   refine ih (π1++[(i,false)]) ((i,v)::acc) ⟨by rw[I.split];simp,hs,?_,by simp[I.gS],?_,?_,I.jZ,I.m_,I.fr⟩
   ·intro j b hj;rw[zL]at hj;rcases hj with hj|hj
    ·obtain⟨u,o',h1,h2,h3,h4⟩:=I.facts j b hj;refine⟨u,o',hle j u h1,h2,h3,fun hb=>?_⟩;obtain⟨ep,h5,h6⟩:=h4 hb;exact⟨ep,fun a c hc=>hle a c (h5 a c hc),h6⟩
    ·have e:(j,b)=(i,false):=by simpa using hj
     cases e;exact⟨v,o,jY,ho,(fun h=>by cases h),fun _=>⟨acc,hle,hg⟩⟩
   ·intro j hj;rw[zg];exact zK _ (I.done j hj)
   ·intro j u d hS hj hd;have eC:i≠j:=by rintro rfl;exact kP (I.done _ hS)
    rw[ir eC]at hj;exact I.iX j u d hS hj hd
theorem iW.sN{l:List Oper}{m:Nat}{base:aK}{F:List HP}{π π1 π2:List (Nat×Bool)}{S:Nat→Bool}{acc ep:aK}{i:Nat}{o:Oper}(I:Inv P X n ds l m base F k π S ρ Γ π1 π2 acc)(hle:gR ep acc)
 (hd:∀e∈o.after,Region.binds .any e=true→S e.on=true) (hb:∀s v,lk base s=some v→∀j,(l[j]?).bind (·.dst)=some s→∀i,i<m→((eS l []).getD j 0).testBit i=true)
 (fj:∀j,((eS l []).getD j 0).testBit i=true→S j=false):gR (gn l m base ep i o.after.toList) ρ:=by
 intro s u h;unfold gn at h;rcases wL h with h|⟨_,h⟩
 ·obtain⟨e,he,hb,h1,h2⟩:=Gc h;exact I.iX e.on u s (hd e (by simpa using he) hb) (hle _ _ h2) h1
 ·cases hm:Nat.blt i m with
  |true=>
   rw[hm]at h;have qb:i<m:=by simpa[zN]using hm
   exact I.jZ s u h fun j hj=>fj j (hb s u h j hj i qb)
  |false=>
   rw[hm]at h;obtain⟨h1,h2⟩:=F_ h;exact I.jZ s u h1 fun j hj=>fj j (by have:=F9 h2 j hj;simpa using this)
theorem sO{l:List Oper}{i d:Nat}(h:(l[i]?).bind (·.dst)=some d):d∈dstsOf l:=by
 cases ho:l[i]? with
 |none=>simp[ho]at h
 |some o=>simp[ho]at h;exact List.mem_filterMap.2 ⟨o,zc ho,h⟩
theorem wM{l:List Oper}:∀{i j d:Nat},(dstsOf l).Nodup→(l[i]?).bind (·.dst)=some d→(l[j]?).bind (·.dst)=some d→i=j:=by
 induction l with
 |nil=>intro i j d _ h;simp at h
 |cons o l ih=>
  intro i j d hn hi hj;unfold dstsOf at hn;rw[List.filterMap_cons]at hn;have sP:(dstsOf l).Nodup:=by
   split at hn
   ·exact hn
   ·exact(zb5.1 hn).2
  cases i with
  |zero=>
   cases j with
   |zero=>rfl
   |succ j=>
    simp at hi hj;rw[hi]at hn;exact absurd (sO (l:=l) (i:=j) (by simpa using hj)) (zb5.1 hn).1
  |succ i=>
   cases j with
   |zero=>
    simp at hi hj;rw[hj]at hn;exact absurd (sO (l:=l) (i:=i) (by simpa using hi)) (zb5.1 hn).1
   |succ j=>exact congrArg (·+1) (ih (d:=d) sP (by simpa using hi) (by simpa using hj))
theorem wN{l:List Oper}{m:Nat}:∀{base:aK},wK l m base=true→∀s v,lk base s=some v→∀j,(l[j]?).bind (·.dst)=some s→∀i,i<m→((eS l []).getD j 0).testBit i=true:=by
 intro base;induction base with
 |nil=>intro _ s v h;cases h
 |cons p base ih=>
  obtain⟨s',v'⟩:=p;intro h s v hl j hj i hi;unfold wK at h;rw[zh]at h;unfold lk at hl;cases hb:Nat.beq s' s with
  |true=>
   have e:=zJ hb;subst e;have:=Sy h.1 j hj i hi;simpa using this
  |false=>rw[hb]at hl;exact ih h.2 s v hl j hj i hi
theorem Ge{l:List Oper}{i d:Nat}(hd:(l[i]?).bind (·.dst)=some d):∀{acc:aK},i∈acc.map (·.1)→lk (kO l acc) d≠none:=by
 intro acc;induction acc with
 |nil=>intro h;cases h
 |cons p acc ih=>
  obtain⟨j,v⟩:=p;intro h;unfold kO;by_cases e:i=j
  ·subst e;rw[hd];simp only;rw[jY];simp
  ·have h':i∈acc.map (·.1):=by
    rw[zE,zbe]at h;exact h.resolve_left e
   split
   ·rename_i d' _;by_cases e':d'=d
    ·subst e';rw[jY];simp
    ·rw[ir e'];exact ih h'
   ·exact ih h'
theorem SA{l:List Oper}{m:Nat}{base:aK}{F:List HP}{π π1 π2:List (Nat×Bool)}{S:Nat→Bool}{acc:aK}(I:Inv P X n ds l m base F k π S ρ Γ π1 π2 acc)(dH:(π1.map (·.1)).Nodup)(gF:∀i,i∈π1.map (·.1)→S i=true)(yX:∀i,i<l.length→i∈π1.map (·.1)):gR (kO l acc++base) ρ:=by
 intro s v h;have hn:(acc.map (·.1)).Nodup:=by rw[I.gS];exact(List.reverse_perm _).nodup_iff.2 dH
 rcases wL h with h|⟨h0,h⟩
 ·obtain⟨i,h1,h2⟩:=Gd hn h;have hm:=qW h2;rw[I.gS]at hm;exact I.iX i v s (gF i (by simpa using hm)) h2 h1
 ·by_cases hs:s∈dstsOf l
  ·exfalso;obtain⟨o,ho,hd⟩:=List.mem_filterMap.1 hs;obtain⟨i,hi⟩:=zk ho;refine Ge (l:=l) (i:=i) (d:=s) (by simp[hi,hd]) ?_ h0;rw[I.gS];simpa using yX i (List.getElem?_eq_some_iff.1 hi).1
  ·exact I.jZ s v h fun j hj=>absurd (sO hj) hs
theorem nc{id:Nat}{l:List Oper}(m:Nat)(π:List (Nat×Bool))(F:List HP)(yY:P.follows .mixedOrders=true)(sQ:(KH l m π&&wK l m ρ&&(dstsOf l).all fun d=>Nat.blt d n)=true)(hF:∃Δ,Γ.Perm (F++Δ))
 (h:iW P X n ds l m ρ F k π [] Γ):Ex P X n ds (.code (.region id l.toArray true)::k) ρ Γ:=by
 simp only[zh]at sQ;obtain⟨⟨bn,hb⟩,sP⟩:=sQ;have hn:∀d∈dstsOf l,d<n:=fun d hd=>by have:=zaQ.1 sP d hd;simpa[zN]using this
 unfold KH at bn;simp only[zh]at bn;obtain⟨⟨⟨⟨⟨⟨h1,h2⟩,h3⟩,h4⟩,h5⟩,h8⟩,h9⟩:=bn;have dH:=CM.1 h2;have qd:=CM.1 h5;have gF:∀i,i<l.length→i∈π.map (·.1):=fun i hi=>ox.1 (zaQ.1 h3 i (List.mem_range.2 hi));refine CL yY h1 (fun S ρ' Γ'=>∃π1 π2 acc,Inv P X n ds l m ρ F k π S ρ' Γ' π1 π2 acc∧(π2=[]∨∃c r,π2=(c,true)::r)) ?_ ?_ ?_
 ·exact Inv.pure dH π [] [] ⟨rfl,h,fun i b hi=>(by cases hi),rfl,fun i hi=>(by cases hi),fun i v d hi=>(by cases hi),fun s v hs _=>hs,fun j o _ hj=>(by cases hj),.inr hF⟩
 ·rintro i o ho S ρ' Γ' nf hd ⟨π1,π2,acc,I,iY⟩;have ec:i<l.length:=(List.getElem?_eq_some_iff.1 ho).1;have o9:uD l (fun j=>S j||j==i):=by
   intro j o' hj eE e he sR;simp only[zM,beq_iff_eq]at eE⊢;rcases eE with eE|rfl
   ·exact .inl (I.m_ j o' hj eE e he sR)
   ·rw[ho]at hj;cases hj;exact .inl (hd e he sR)
  have sS:∀j,((eS l []).getD j 0).testBit i=true→S j=false:=by
   intro t yZ;cases lA:S t with
   |false=>rfl
   |true=>
    exfalso;have pd:t<l.length:=by
     have hm:=I.done t lA;obtain⟨⟨a,b⟩,dS,rfl⟩:=zbY.1 hm;obtain⟨_,o',_,eF,_⟩:=I.facts a b dS;exact(List.getElem?_eq_some_iff.1 eF).1
    have:=qV h1 I.m_ t pd lA i yZ;rw[nf]at this;cases this
  have next:∀v,lk acc i=some v→i∈π1.map (·.1)→Inv P X n ds l m ρ F k π (fun j=>S j||j==i) (put o.dst v ρ') Γ' π1 π2 acc:=by
   intro v hv dW;refine⟨I.split,I.jL,fun j b hj=>?_,I.gS,?_,?_,?_,o9,I.fr.imp_left fun ⟨t,a,b,c⟩=>⟨t,a,by simp[b],c⟩⟩
   ·obtain⟨u,o',g1,g2,g3,g4⟩:=I.facts j b hj;exact⟨u,o',g1,g2,fun hb=>by simp[g3 hb],g4⟩
   ·intro j hj;simp only[zM,beq_iff_eq]at hj;rcases hj with hj|rfl
    ·exact I.done j hj
    ·exact dW
   ·intro j u d hj gT iZ;simp only[zM,beq_iff_eq]at hj;by_cases eC:j=i
    ·subst eC;rw[hv]at gT;cases gT;have:o.dst=some d:=by simpa[ho]using iZ
     rw[this];exact jY
    ·have eE:S j=true:=hj.resolve_right eC;have:=I.iX j u d eE gT iZ;cases dJ:o.dst with
     |none=>exact this
     |some d'=>
      have cE:d'≠d:=by
       rintro rfl;exact eC (wM qd iZ (by simp[ho,dJ]))
      show lk ((d',v)::ρ') d=some u;rw[ir cE];exact this
   ·intro s u hs gU;have hold:lk ρ' s=some u:=I.jZ s u hs fun j hj=>by
     have:=gU j hj;simp only[zaY]at this;exact this.1
    cases dJ:o.dst with
    |none=>exact hold
    |some d'=>
     have cE:d'≠s:=by
      rintro rfl;have:=gU i (by simp[ho,dJ]);simp at this
     show lk ((d',v)::ρ') s=some u;rw[ir cE];exact hold
  have gB:∀d,o.dst=some d→Nat.blt d n=true:=fun d dJ=>by
   have:=hn d (sO (i:=i) (by simp[ho,dJ]));simpa[zN]using this
  have hiπ:=gF i ec;rw[I.split,zg,zL]at hiπ;rcases hiπ with dW|fS
  ·
   obtain⟨⟨a,b⟩,dS,rfl⟩:=zbY.1 dW;obtain⟨v,o',g1,g2,g3,g4⟩:=I.facts a b dS;rw[ho]at g2;cases g2;cases b with
   |true=>have:=g3 rfl;rw[nf]at this;cases this
   |false=>
    obtain⟨ep,hle,j1⟩:=g4 rfl;have gl:=iW.sN I hle hd (wN hb) sS;have y9:yW o.op=false∨∃Δ,Γ'.Perm (F++Δ):=by
     rcases I.fr with ⟨t,wO,lA,htπ⟩|h
     ·cases SB:yW o.op with
      |false=>exact .inl rfl
      |true=>
      exfalso;have mM:=zaQ.1 h9 _ htπ;have pf:π.all (fun p=>p.2|| !CN l p.1||((eS l []).getD t 0).testBit p.1)=true:=by
       simp only[Bool.not_true,Bool.false_or,zM]at mM;rcases mM with mM|mM
       ·simp[zN]at mM;omega
       ·exact mM
      have oy:=zaQ.1 pf (a,false) (by rw[I.split];exact zK _ dS);have SC:CN l a=true:=by unfold CN;rw[ho];exact SB
      simp only[Bool.false_or,SC,Bool.not_true]at oy;have pd:t<l.length:=by
       have sU:=I.done t lA;obtain⟨⟨a',b'⟩,y_,rfl⟩:=zbY.1 sU;obtain⟨_,o',_,eF,_⟩:=I.facts a' b' y_;exact(List.getElem?_eq_some_iff.1 eF).1
      have:=qV h1 I.m_ t pd lA a oy;rw[nf]at this;cases this
     ·exact .inr h
    have sV:∀(F Δ:List HP),ak (F++Δ) F:=fun F Δ=>by
     refine(ak.perm zac).trans ?_;induction Δ with
     |nil=>exact .refl _
     |cons A Δ ih=>exact(ak.drop A _).trans ih
    have sW:∀E w,St E Γ' w→St E (fo o.op F) w:=fun E w s=>by
     have CQ:St E [] w:=(sV [] Γ').st s;rcases y9 with h|⟨Δ,z_⟩
     ·rw[Sx F h];exact CQ
     ·rcases Ga o.op F with h|h
      ·rw[h];exact(sV F Δ).st (s.perm z_)
      ·rw[h];exact CQ
    have go:bI P o.op o.type (gn l m ρ ep a o.after.toList) (fo o.op F) v→bm P X n ds o.dst o.op o.type (fun v' Γ''=>∃π1 π2 acc,Inv P X n ds l m ρ F k π (fun j=>S j||j==a) (put o.dst v' ρ') Γ'' π1 π2 acc∧(π2=[]∨∃c r,π2=(c,true)::r)) ρ' Γ':=by
     intro hv;cases dJ:o.dst with
     |none=>
      intro pg i' o' rest k' ρF sX sY Aa ax aS hw hK t w cP fC eD;have hr:=hv.2 (Act.mk t ds).eval o' X.E w ax aS (fun x u hx=>(fC.le fun s z hz=>sX s z (gl s z hz)).ev ds hx) (fun xs vs hx=>(fC.le fun s z hz=>sX s z (gl s z hz)).gk ds hx) (sW _ _ eD);refine .step (m':=lone (X.base.atR ⟨t,ds⟩ (.inRegion pg rest::k')) X.cs w) (step_lone_go ?_)
       (hK v Γ' ⟨π1,π2,acc,(by have:=next v g1 dW;rwa[dJ]at this),iY⟩ t w cP fC eD)
      rw[stepGR_op sY (hw t fC),Oper.semAt_eq _ _ _ (by rw[ax];exact hv.1)];have fX:=Frame.finish_atR X.base ⟨t,ds⟩ pg i' rest k' v;have hp:((pg[i']?).bind (·.dst))=none:=by simp[sY,Aa]
      rw[hp]at fX;simp only[stepG.apply,Sem.runT_eq,hr,if_true,GStep.bare_after,fX]
      rfl
     |some d=>
      have:=bL (X:=X) (n:=n) (ds:=ds) (d:=d) (Nx:=fun v' Γ''=>∃π1 π2 acc,Inv P X n ds l m ρ F k π (fun j=>S j||j==a) (put (some d) v' ρ') Γ'' π1 π2 acc∧(π2=[]∨∃c r,π2=(c,true)::r))
       (hv.Fw sW) (gB d dJ) ⟨π1,π2,acc,(by have:=next v g1 dW;rwa[dJ]at this),iY⟩
      exact this.le gl
    unfold GV at j1;cases dv:o.guard with
    |none=>rw[dv]at j1;exact .plain dv (go j1)
    |some jb=>
     obtain⟨j,b⟩:=jb;rw[dv]at j1;simp only at j1;have lB:=zaQ.1 h8 o (zc ho);simp only[dv,zh]at lB;obtain⟨ph,pi⟩:=lB;obtain⟨e,he,i_⟩:=Array.any_eq_true'.1 ph;simp only[zh]at i_;have pj:=zJ i_.1;obtain⟨d,lC⟩:=Option.isSome_iff_exists.1 pi;have eE:S j=true:=pj ▸ hd e he i_.2;have gV:∀u,lk ep j=some u→gd ρ' l.toArray j=some u:=by
      intro u hu;unfold gd;have:(l.toArray[j]?).bind (·.dst)=some d:=by simpa using lC
      rw[this];exact I.iX j u d eE (hle j u hu) lC
     rcases j1 with ⟨ed,hv⟩|⟨ed,rfl⟩
     ·exact .guarded dv (gV _ ed) (go hv)
     ·rcases ed with ed|ed
      ·exact .uC dv (gV _ ed) (.inl rfl) gB ⟨π1,π2,acc,next undef g1 dW,iY⟩
      ·exact .uC dv (gV _ ed) (.inr rfl) gB ⟨π1,π2,acc,next undef g1 dW,iY⟩
  ·
   rcases iY with rfl|⟨c,r,rfl⟩
   ·cases fS
   ·have SE:i=c:=by
     rw[zE,zbe]at fS;rcases fS with rfl|fS
     ·rfl
     ·exfalso;have SF:∀(π1:List (Nat×Bool)),uE (eS l []) (π1++(c,true)::r)=true→r.all (fun p=>((eS l []).getD p.1 0).testBit c)=true:=by
       intro π1;induction π1 with
       |nil=>intro h;simp only[zB,uE,zh]at h;exact h.1
       |cons p π1 ih=>
        obtain⟨a,b⟩:=p;cases b with
        |true=>intro h;simp only[zl,uE,zh]at h;exact ih h.2
        |false=>intro h;simp only[zl,uE]at h;exact ih h
      have h7:=SF π1 (by rw[←I.split];exact h4);obtain⟨⟨a,b⟩,dS,rfl⟩:=zbY.1 fS;have Ab:=zaQ.1 h7 _ dS;have l8:(fun j=>S j||j==a) c=true:=qV h1 o9 a ec (by simp) c Ab;have kQ:=dH;rw[I.split,zg,zE,zab]at kQ;simp only[zM,beq_iff_eq]at l8;rcases l8 with l8|rfl
      ·exact kQ.2.2 c (I.done c l8) c (zay ..) rfl
      ·exact(zb5.1 kQ.2.1).1 fS
    subst SE;obtain⟨o',eF,Ac,hex⟩:=I.jL;rw[ho]at eF;cases eF;have kP:i∉π1.map (·.1):=by
     have kQ:=dH;rw[I.split,zg,zE,zab]at kQ;intro hm;exact kQ.2.2 i hm i (zay ..) rfl
    have o8:lk acc i=none:=by
     cases h:lk acc i with
     |none=>rfl
     |some u=>have:=qW h;rw[I.gS]at this;exact absurd (by simpa using this) kP
    have gl:=iW.sN I (gR.refl acc) hd (wN hb) sS;have sZ:=(hex.mono (Nx':=fun v Γ''=>∃π1 π2 acc,Inv P X n ds l m ρ F k π (fun j=>S j||j==i) (put o.dst v ρ') Γ'' π1 π2 acc∧(π2=[]∨∃c r,π2=(c,true)::r)) fun v Γ'' ⟨Ad,uB⟩=>by
     have hle:gR acc ((i,v)::acc):=fun j u hj=>by
      rw[ir]
      ·exact hj
      ·rintro rfl;rw[o8]at hj;cases hj
     have s9:∀s u,(∀d,o.dst=some d→d≠s)→lk ρ' s=some u→lk (put o.dst v ρ') s=some u:=by
      intro s u cE hs;cases dJ:o.dst with
      |none=>exact hs
      |some d'=>show lk ((d',v)::ρ') s=some u;rw[ir (cE d' dJ)];exact hs
     refine Inv.pure dH r (π1++[(i,true)]) ((i,v)::acc) ⟨by rw[I.split];simp,uB,?_,by simp[I.gS],?_,?_,?_,o9,Ad.imp_left fun hm=>⟨i,zX hm,by simp,by rw[I.split];simp⟩⟩
     ·intro j b hj;rw[zL]at hj;rcases hj with hj|hj
      ·obtain⟨u,Ae,g1,g2,g3,g4⟩:=I.facts j b hj;refine⟨u,Ae,hle j u g1,g2,fun hb=>by simp[g3 hb],fun hb=>?_⟩;obtain⟨ep,g5,g6⟩:=g4 hb;exact⟨ep,fun a c hc=>hle a c (g5 a c hc),g6⟩
      ·have e:(j,b)=(i,true):=by simpa using hj
       cases e;exact⟨v,o,jY,ho,(fun _=>by simp),fun h=>by cases h⟩
     ·intro j hj;simp only[zM,beq_iff_eq]at hj;rw[zg,zL];rcases hj with hj|rfl
      ·exact .inl (I.done j hj)
      ·exact .inr (by simp)
     ·intro j u d hj gT iZ;simp only[zM,beq_iff_eq]at hj;by_cases eC:j=i
      ·subst eC;rw[jY]at gT;cases gT;have:o.dst=some d:=by simpa[ho]using iZ
       rw[this];exact jY
      ·have eE:S j=true:=hj.resolve_right eC;rw[ir (zb4 eC)]at gT;exact s9 d u (fun d' dJ lz=>by
        subst lz;exact eC (wM qd iZ (by simp[ho,dJ]))) (I.iX j u d eE gT iZ)
     ·intro s u hs gU;refine s9 s u (fun d' dJ lz=>?_) (I.jZ s u hs fun j hj=>by
       have:=gU j hj;simp only[zaY]at this;exact this.1)
      subst lz;have:=gU i (by simp[ho,dJ]);simp at this).le gl
    rcases Ac with dv|⟨j,b,dv,Af⟩
    ·exact .plain dv sZ
    ·have lB:=zaQ.1 h8 o (zc ho);simp only[dv,zh]at lB;obtain⟨ph,pi⟩:=lB;obtain⟨e,he,i_⟩:=Array.any_eq_true'.1 ph;simp only[zh]at i_;have pj:=zJ i_.1;obtain⟨d,lC⟩:=Option.isSome_iff_exists.1 pi;have eE:S j=true:=pj ▸ hd e he i_.2;refine .guarded dv ?_ sZ;unfold gd;have:(l.toArray[j]?).bind (·.dst)=some d:=by simpa using lC
     rw[this];exact I.iX j _ d eE Af lC
 ·rintro S ρ' Γ' hS ⟨π1,π2,acc,I,iY⟩;have hπ2:π2=[]:=by
   rcases iY with h|⟨c,r,rfl⟩
   ·exact h
   ·exfalso;obtain⟨o,ho,_⟩:=I.jL;have l8:=hS c (List.getElem?_eq_some_iff.1 ho).1;have kQ:=dH;rw[I.split,zg,zE,zab]at kQ;exact kQ.2.2 c (I.done c l8) c (zay ..) rfl
  subst hπ2;have hπ:π=π1:=by rw[I.split];simp
  have qX:Ex P X n ds k (kO l acc++ρ) Γ':=I.jL;have hl:=SA I (by rw[←hπ];exact dH) (fun i hi=>by
   obtain⟨⟨a,b⟩,dS,rfl⟩:=zbY.1 hi;obtain⟨_,o',_,eF,_⟩:=I.facts a b dS;exact hS a (List.getElem?_eq_some_iff.1 eF).1) (fun i hi=>by rw[←hπ];exact gF i hi)
  exact fun t w cP fC eD=>qX t w cP (fC.le hl) eD
def Ag:aK→Option aK
 |[]=>some []
 |(i,v)::r=>match Ag r with
  |some r'=>some ((i,v)::r')
  |none=>none
theorem KN{r r':aK}(h:Ag r=some r'):r'=r:=by
 induction r generalizing r' with
 |nil=>cases h;rfl
 |cons p r ih=>
  obtain⟨i,v⟩:=p;unfold Ag at h;split at h
  ·rename_i u hu;cases h;rw[ih hu]
  ·cases h
variable {l:List Oper} {m:Nat} {base:aK} {F:List HP} {π:List (Nat×Bool)} {acc:aK}
theorem au{i:Nat}{dst:Option Tmp}{op:Op}{ty:TypeId}{pos:String}{af:Array Edge}{v:Value}(ho:l[i]? =some ⟨dst,op,ty,pos,af,none⟩)(hv:bI P op ty (gn l m base acc i af.toList) (fo op F) v)(h:iW P X n ds l m base F k π ((i,v)::acc) Γ):
 iW P X n ds l m base F k ((i,false)::π) acc Γ:=⟨_,v,ho,hv,h⟩
theorem bE{i:Nat}{dst:Option Tmp}{op:Op}{ty:TypeId}{pos:String}{af:Array Edge}{j:Nat}{b:Bool}{v:Value}(ho:l[i]? =some ⟨dst,op,ty,pos,af,some (j,b)⟩)(hg:lk acc j=some (.bool b))(hv:bI P op ty (gn l m base acc i af.toList) (fo op F) v)(h:iW P X n ds l m base F k π ((i,v)::acc) Γ):
 iW P X n ds l m base F k ((i,false)::π) acc Γ:=⟨_,v,ho,.inl ⟨hg,hv⟩,h⟩
theorem acz{i:Nat}{dst:Option Tmp}{op:Op}{ty:TypeId}{pos:String}{af:Array Edge}{j:Nat}{b c:Bool}(ho:l[i]? =some ⟨dst,op,ty,pos,af,some (j,b)⟩)(hg:lk acc j=some (.bool c))(hc:(c== !b)=true)(h:iW P X n ds l m base F k π ((i,undef)::acc) Γ):
 iW P X n ds l m base F k ((i,false)::π) acc Γ:=⟨_,undef,ho,.inr ⟨.inl (by rw[hg];rw[eq_of_beq hc]),rfl⟩,h⟩
theorem acA{i:Nat}{dst:Option Tmp}{op:Op}{ty:TypeId}{pos:String}{af:Array Edge}{j:Nat}{b:Bool}(ho:l[i]? =some ⟨dst,op,ty,pos,af,some (j,b)⟩)(hg:lk acc j=some undef)(h:iW P X n ds l m base F k π ((i,undef)::acc) Γ):
 iW P X n ds l m base F k ((i,false)::π) acc Γ:=⟨_,undef,ho,.inr ⟨.inr hg,rfl⟩,h⟩
theorem aE{i:Nat}{dst:Option Tmp}{op:Op}{ty:TypeId}{pos:String}{af:Array Edge}(ho:l[i]? =some ⟨dst,op,ty,pos,af,none⟩)
 (h:bm P X n ds dst op ty (fun v Γ'=>(∃Δ,Γ'.Perm (F++Δ))∧iW P X n ds l m base F k π ((i,v)::acc) Γ') (gn l m base acc i af.toList) Γ):
 iW P X n ds l m base F k ((i,true)::π) acc Γ:=⟨_,ho,.inl rfl,h.mono fun _ _ ⟨a,b⟩=>⟨.inr a,b⟩⟩
theorem bN{i:Nat}{dst:Option Tmp}{op:Op}{ty:TypeId}{pos:String}{af:Array Edge}(ho:l[i]? =some ⟨dst,op,ty,pos,af,none⟩)(hm:Nat.ble m i=true)
 (h:bm P X n ds dst op ty (fun v Γ'=>iW P X n ds l m base F k π ((i,v)::acc) Γ') (gn l m base acc i af.toList) Γ):
 iW P X n ds l m base F k ((i,true)::π) acc Γ:=⟨_,ho,.inl rfl,h.mono fun _ _ b=>⟨.inl hm,b⟩⟩
theorem gp{i:Nat}{dst:Option Tmp}{op:Op}{ty:TypeId}{pos:String}{af:Array Edge}{j:Nat}{b:Bool}(ho:l[i]? =some ⟨dst,op,ty,pos,af,some (j,b)⟩)(hg:lk acc j=some (.bool b))
 (h:bm P X n ds dst op ty (fun v Γ'=>(∃Δ,Γ'.Perm (F++Δ))∧iW P X n ds l m base F k π ((i,v)::acc) Γ') (gn l m base acc i af.toList) Γ):
 iW P X n ds l m base F k ((i,true)::π) acc Γ:=⟨_,ho,.inr ⟨j,b,rfl,hg⟩,h.mono fun _ _ ⟨a,b⟩=>⟨.inr a,b⟩⟩
theorem SG{ρ':aK}(he:Ag (kO l acc++base)=some ρ')(h:Ex P X n ds k ρ' Γ):iW P X n ds l m base F k [] acc Γ:=by
 rw[KN he]at h;exact h
theorem bd{Δ':List HP}[T:nN Γ F Δ']:∃Δ,Γ.Perm (F++Δ):=⟨_,T.h⟩
theorem Gf:∃Δ,Γ.Perm ([]++Δ):=⟨Γ,.refl _⟩
end draw
section looks
variable {P:Program} {ρ:aK} {Γ:List HP} {ty:TypeId}
theorem qY{t:TypeId}{x:Operand}{b o off:Nat}{vs:List Value}{v:Value}[T:cU P t](hx:ev ρ x=some (.pointer (some ⟨b,o,none⟩)))[H:lq Γ b off vs](ho:Nat.ble off o=true)(hv:vs[o-off]? =some v):bI P (.load t x) ty ρ Γ v:=FO hx (Cell.row ho hv)
theorem fk{t:TypeId}{x:Operand}{b o off i:Nat}{vs:List Value}{v:Value}[T:cU P t](hx:ev ρ x=some (.pointer (some ⟨b,o,none⟩)))[H:lq Γ b off vs](ho:o=off+i)(hv:vs[i]? =some v):bI P (.load t x) ty ρ Γ v:=
 FO hx (fun E w s=>by rw[ho];exact(s.yE (b:=b) hv).1)
theorem b7{A:HP}{t s:Nat}{x:Operand}{a:Option Addr}{b o off len i:Nat}{xs:List Value}{v:Value}[T:cU P t](hx:ev ρ x=some (.pointer (some ⟨b,o,none⟩)))(R:Reads A s a len xs)[H:Has Γ A](ha:a=some ⟨b,off,none⟩)(ho:o=off+i)(hv:xs[i]? =some v):bI P (.load t x) ty ρ Γ v:=
 FO hx (fun E w s=>by
  rcases s.reads R with h0|⟨b',qO,jI,hc⟩
  ·have:=R.1;rw[h0]at this;simp at this;subst this;cases hv
  ·rw[ha]at jI;cases jI;rw[ho];exact hc _ _ hv)
theorem oz{t s:Nat}{x:Operand}{b o off:Nat}{vs us:List Value}[T:cI P t s](hx:ev ρ x=some (.pointer (some ⟨b,o,none⟩)))[H:lq Γ b off vs](ho:Nat.ble off o=true)(hv:(vs.drop (o-off)).take s=us)(hl:us.length=s):bI P (.load t x) ty ρ Γ (.agg us.toArray):=
 FQ hx hl (fun j v hj=>Cell.row (by have:=zX ho;exact za9 ▸ (by omega:off≤o+j)) (by
  have h1:=zX ho;rw[←hv,zbb]at hj;split at hj
  ·rw[zar]at hj;rw[show o+j-off=o-off+j by omega];exact hj
  ·cases hj))
theorem eQ{A:HP}{t s s':Nat}{x:Operand}{a:Option Addr}{b off o len i:Nat}{xs us:List Value}[T:cI P t s](hx:ev ρ x=some (.pointer (some ⟨b,o,none⟩)))(R:Reads A s' a len xs)[H:Has Γ A](ha:a=some ⟨b,off,none⟩)(ho:o=off+i)
 (hl:us.length=s) (hv:∀j v,us[j]? =some v→xs[i+j]? =some v):bI P (.load t x) ty ρ Γ (.agg us.toArray):=
 FQ hx hl (fun j v hj E w s=>by
  rcases s.reads R with h0|⟨b',qO,jI,hc⟩
  ·have:=R.1;rw[h0]at this;simp at this;subst this;have:=hv _ _ hj;cases this
  ·rw[ha]at jI;cases jI;rw[ho,zax];exact hc _ _ (hv _ _ hj))
theorem aY{t e s y:Nat}{x ix:Operand}{a:Option Addr}{b off len cap j:Nat}{kk:IntKind}{i:Int}[T:cX P t e s y](hx:ev ρ x=some (.slice a len cap))(hi:ev ρ ix=some (.int kk i))(ha:a=some ⟨b,off,none⟩)(hj:i=(j:Int))(aN:j<len):
 bI P (.indexAddr t x ix) ty ρ Γ (.pointer (some ⟨b,off+j*s,none⟩)):=by subst ha;exact Rw hx hi hj aN
end looks
theorem jw{P:Program}{X:Cx}{n:Nat}{ds:List Deferred}{ρ:aK}{Γ:List HP}{todo:List Item}{A:HP}{s len:Nat}{a:Option Addr}{xs:List Value}(R:Reads A s a len xs)[H:Has Γ A](h0:0<len)(h:∀b off,a=some ⟨b,off,none⟩→Ex P X n ds todo ρ Γ):Ex P X n ds todo ρ Γ:=
 fun t w hn hm hs=>by
  rcases hs.reads R with e|⟨b,off,ha,_⟩
  ·omega
  ·exact h b off ha t w hn hm hs
end
end Go.Proofs.YtacfncmndodlpaaGreat
