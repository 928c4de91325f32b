/- Part of a proof over the seat YtacfncmndodlpaaGreat. Its claim's last module says what is proved. -/
import Derived.Test.YtacfncmndodlpaaGreatQ4
set_option linter.all false
set_option maxHeartbeats 12800000
namespace Go.Proofs.YtacfncmndodlpaaGreat
section
open Go.Proofs Tryz
open Go.Proofs Go.RowKit
def gZ:List (Nat×Bool)→Tr
 |[]=> .nil
 |(i,false)::π=> .look i (gZ π)
 |(i,true)::π=> .act i (gZ π)
theorem gL{P:Program}{X:Cx}{n:Nat}{ds:List Deferred}{k:List Item}{l:List Oper}{m:Nat}{base:aK}{F:List HP}:∀(π:List (Nat×Bool)) {acc:aK} {Γ:List HP},iW P X n ds l m base F k π acc Γ→kz P X n ds l m base F k (gZ π) acc Γ
 |[],_,_,h=>h
 |(i,false)::π,acc,Γ,⟨o,v,h1,h2,h3⟩=>⟨o,v,h1,h2,gL π h3⟩
 |(i,true)::π,acc,Γ,⟨o,h1,h2,h3⟩=>⟨o,h1,h2,h3.mono fun _ _ ⟨a,b⟩=>⟨a,gL π b⟩⟩
def Bo(l:List Nd)(i:Nat):Prop:=(0<i→¬ei (dR l (cW i)) (dR l i)→oJ ei (dR l) l.length i)∧(i=0∨ei (dR l (cW i)) (dR l i)→rN ei (dR l) l.length i)
theorem Bo.of{l:List Nd}{i:Nat}(h:i<l.length)(H:Heap ei (dR l) l.length)(n:Nd):Bo (l.set i n) i:=by
 have hg:∀j,j≠i→dR (l.set i n) j=dR l j:=fun j hj=>by rw[HH h,if_neg hj]
 refine⟨fun h0 hl=>?_,fun hl=>?_⟩
 ·rw[zH];exact H.VV DM hg h0 (DN hl) h
 ·rw[zH];exact H.VW DM hg hl h
theorem Nf{bk off cap i:Nat}{l:List Nd}(h:i<l.length)(hl:l.length≤8)(hw:∀n∈l,n.Wf)(hS:Bo l i):
 Spec prog 214 [.slice (some ⟨bk,off,none⟩) l.length cap,.int .i64 i] [Sl 6 (some ⟨bk,off,none⟩) l.length cap (cw l)] (fun v B=>∃(l':List Nd),v= .tuple #[]∧B=[Sl 6 (some ⟨bk,off,none⟩) l'.length cap (cw l')]∧l'.length=l.length∧l'.Perm l∧Heap ei (dR l') l'.length):=by
 refine x_sp func214 ntmps214 fun E cs Γ=>?_;refine dx (h:=iu (h:=iu (h:=?_)));refine aJ rfl (M7 h hl hw hS.1) rfl ?_;rintro v B ⟨l',r,rfl,rfl,hlen,hp,hc⟩;refine a_ (h:=?_);rcases hc with ⟨rfl,rfl,hi⟩|⟨hr,hH⟩
 ·refine Wq ?_;refine aJ rfl (WV h hl hw (hS.2 hi)) rfl ?_;rintro v B ⟨l',rfl,rfl,hlen,hp,hH⟩;refine mY (h:=?_);exact cJ [Sl 6 (some ⟨bk,off,none⟩) l'.length cap (cw l')] ⟨l',rfl,rfl,hlen,hp,hH⟩ Sub.h
 ·have:¬(r:Int)=i:=by omega
  refine Wq ?_;exact cJ [Sl 6 (some ⟨bk,off,none⟩) l'.length cap (cw l')] ⟨l',rfl,rfl,hlen,hp,hH⟩ Sub.h
theorem gw.snoc{l:List Nd}(H:gw l){n:Nd}(hn:n.Wf)(bM:∀m∈l,m.a≠n.a){l':List Nd}(hp:l'.Perm (l++[n]))(hh:Heap ei (dR l') l'.length):gw l':=by
 refine gw.MS (l:=l++[n]) (fun m hm=>?_) ?_ hp hh
 ·rcases zL.1 hm with hm|hm
  ·exact H.wf m hm
  ·rw[zbr.1 hm];exact hn
 ·rw[zg,zab];refine⟨H.nd,by simp,fun a ha b hb=>?_⟩;obtain⟨m,hm,rfl⟩:=zbY.1 ha;rw[zbY]at hb;obtain⟨k,hk,rfl⟩:=hb;rw[zbr.1 hk];exact bM m hm
theorem WX{l:List Nd}{n:Nd}(bM:∀m∈l,m.a≠n.a){r:Int}(hp:Bg l n.a r):r= -1:=by
 rcases hp with ⟨h,_⟩|⟨j,m,-,hj,ha,-⟩
 ·exact h
 ·exact absurd (by omega) (bM m (zc hj))
theorem WY{A:HP}{ad:Option Addr}{cap:Nat}{l:List Nd}{n:Nd}(R:Reads A 6 ad l.length (cw l))(H:gw l)(hn:n.Wf)(bM:∀m∈l,m.a≠n.a):
 Spec prog 207 [.slice ad l.length cap,j9 n] [A] (fun v B=>∃(l':List Nd) (a':Option Addr) (c':Nat),v= .tuple #[.slice a' l'.length c',.int .i64 0]∧B=[A,Sl 6 a' l'.length c' (cw l')]∧l'.Perm (l++[n])∧gw l'):=by
 refine x_sp func207 ntmps207 fun E cs Γ=>?_;have b1:=hn.1;have hl:=H.len;refine dx (h:=?_);refine ao (aM rfl rfl fun p3=>?_);refine Wq ?_;refine aJ rfl (HJ R H) rfl ?_;refine de (h:=Eb (h:=xG (h:=?_)));refine aq (vs:=[j9 n]) rfl (DQ hn) rfl ?_;refine jO (h:=?_);refine aJ rfl (Bh R (n.a:Int) (by omega)) rfl ?_;rintro v B ⟨r,rfl,rfl,hr⟩;obtain rfl:=WX bM hr;refine bW (h:=?_);refine eL (α:=Option Addr×Nat) (fun _=>True) (fun q=>[(6,.slice q.1 (l++[n]).length q.2),(5,iv 0)]) (fun q=>A::Sl 6 q.1 (l++[n]).length q.2 (cw (l++[n]))::Γ) ?_ ?_
 ·rintro⟨a4,c4⟩ -;dsimp only;have hlen:(l++[n]).length=l.length+1:=by simp
  have WZ:∀m∈l++[n],m.Wf:=fun m hm=>by
   rcases zL.1 hm with hm|hm
   ·exact H.wf m hm
   ·rw[zbr.1 hm];exact hn
  have D4:oJ ei (dR (l++[n])) (l++[n]).length l.length:=by
   rw[hlen];refine H.hp.push fun j hj=>?_;unfold dR;rw[ze,ze,zt hj]
  have dH:(l.map Nd.a++[n.a]).Nodup:=by
   rw[zab];refine⟨H.nd,by simp,fun a ha b hb=>?_⟩;obtain⟨m,hm,rfl⟩:=zbY.1 ha;rw[zbr.1 hb];exact bM m hm
  have Dm:(l++[n]).length≤8:=by
   have:=HI 8 (l.map Nd.a++[n.a]) dH (fun x hx=>by
    rcases zL.1 hx with hx|hx
    ·obtain⟨m,hm,rfl⟩:=zbY.1 hx;exact(H.wf m hm).1
    ·rw[zbr.1 hx];exact b1)
   simpa using this
  refine Wq ?_;rw[show((((l++[n]).length:Nat):Int)-1)=(l.length:Int)by omega];refine aJ rfl (M7 (i:=l.length) (by omega) Dm WZ fun _ _=>D4) rfl ?_;rintro v B ⟨l',r,rfl,rfl,xL,hp,hc⟩;have hH:Heap ei (dR l') l'.length:=by
   rcases hc with ⟨rfl,rfl,hi⟩|⟨hr,hH⟩
   ·exact D4.done hi
   ·exact hH
  refine bW (h:=?_);exact ap rfl [A,Sl 6 a4 l'.length c4 (cw l')] ⟨l',a4,c4,by rw[xL];rfl,rfl,hp,H.snoc hn bM hp hH⟩ Sub.h
 intro td fin;have hlen:(l++[n]).length=l.length+1:=by simp
 have Bm:cw (l++[n])=cw l++fH n:=by simp
 rw[hlen,Bm]at fin;refine rz 6 [1,3,4] (.look 0 (.look 2 (.alt (.act 1 (.act 3 (.act 4 (.look 5 .nil)))) (.act 3 (.act 1 (.act 4 (.look 5 .nil))))))) [A,Row p3 0 (fH n)] mixed (by kernel_rfl) bd ?_;refine dg rfl (lU rfl) ?_;refine dg rfl (rC rfl rfl) ?_;refine mf (gL [(1,true),(3,true),(4,true),(5,false)] ?_) (gL [(3,true),(1,true),(4,true),(5,false)] ?_)
 ·refine aE rfl (aq rfl (Dx R (by omega) (DO l)) rfl ?_);rintro v B ⟨a2,c2,rfl,rfl,eV⟩;refine dc (h:=?_);refine aE rfl (cf rfl (by rfl) (by rfl) (by rfl) (by rfl) rfl fun a3=>⟨bd,?_⟩);skip;refine aE rfl (cF rfl rfl (by rfl) (by rfl) (by rfl) (by omega) rfl fun a4 c4 gI=>⟨bd,?_⟩);refine df (h:=?_);exact aV (fin (a4,c4) trivial)
 ·refine aE rfl (cf rfl (by rfl) (by rfl) (by rfl) (by rfl) rfl fun a3=>⟨bd,?_⟩);refine aE rfl (aq rfl (Dx R (by omega) (DO l)) rfl ?_);rintro v B ⟨a2,c2,rfl,rfl,eV⟩;refine dc (h:=?_);refine aE rfl (cF rfl rfl (by rfl) (by rfl) (by rfl) (by omega) rfl fun a4 c4 gI=>⟨bd,?_⟩);refine df (h:=?_);exact aV (fin (a4,c4) trivial)
end
end Go.Proofs.YtacfncmndodlpaaGreat
