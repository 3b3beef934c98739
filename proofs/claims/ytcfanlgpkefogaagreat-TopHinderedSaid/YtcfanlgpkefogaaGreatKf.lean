import Derived.Test.YtcfanlgpkefogaaGreatKb
import Derived.Test.YtcfanlgpkefogaaGreatAr
import Derived.Test.YtcfanlgpkefogaaGreatEr
namespace Go.Proofs.YtcfanlgpkefogaaGreat
open Go.RowKit
namespace V
namespace St
def Cac (l:List (TCT No)) (re dr:Int) (s:Bal) (t:SS):Prop:=t=(s,[])∨∃ (i k:Nat) (rest:Prs),t.2=((i:Int),(k:Int),())::rest∧i<k∧k<l.length∧(Bbi (bAt l s i) (bAt l s k) re dr).2.2.1=0
theorem C5l {l:List (TCT No)} {re dr:Int} {s:Bal} {i k:Nat} (hik:i<k) (hk:k<l.length) {t t':SS} (h:Cac l re dr s t) (e:Bds l re dr i k t=some t'):Cac l re dr s t':=by
 unfold Bds at e
 cases h1:(Bbi (bAt l t.1 i) (bAt l t.1 k) re dr).2.2.1==0 with
 | true =>
  rw [h1,cond_true,Option.some.injEq] at e
  subst e
  rcases h with h | ⟨a,b,rest,e1,e2,e3,e4⟩
  ·subst h
   exact .inr ⟨i,k,[],rfl,hik,hk,eq_of_beq h1⟩
  ·refine .inr ⟨a,b,rest++[((i:Int),(k:Int),())],?_,e2,e3,e4⟩
   show t.2++_=_
   rw [e1];rfl
 | false =>
  rw [h1,cond_false] at e
  cases h2:(Bbi (bAt l t.1 i) (bAt l t.1 k) re dr).2.2.1==4 with
  | true=>rw [h2] at e;cases e
  | false=>rw [h2,cond_false,Option.some.injEq] at e;subst e;exact h
theorem Bz1 {l:List (TCT No)} {re dr:Int} {s:Bal} {i:Nat}:∀ (f k:Nat) (t t':SS),i<k→k+f≤l.length→Cac l re dr s t→V.inR l re dr i f k t=some t'→Cac l re dr s t'
 | 0,k,t,t',_,_,h,e=>by rw [V.inR,Option.some.injEq] at e;subst e;exact h
 | f+1,k,t,t',h1,h2,h,e=>by
  rw [V.inR] at e
  cases h3:Bds l re dr i k t with
  | none=>rw [h3] at e;cases e
  | some t1 =>
   rw [h3] at e
   exact Bz1 f (k+1) t1 t' (by omega) (by omega) (C5l h1 (by omega) h h3) e
theorem Bv6 {l:List (TCT No)} {re dr:Int} {s:Bal}:∀ (f i:Nat) (t t':SS),i+f≤l.length→Cac l re dr s t→Bfk l re dr f i t=some t'→Cac l re dr s t'
 | 0,i,t,t',_,h,e=>by rw [Bfk,Option.some.injEq] at e;subst e;exact h
 | f+1,i,t,t',h2,h,e=>by
  rw [Bfk] at e
  cases h3:V.inR l re dr i (l.length-(i+1)) (i+1) t with
  | none=>rw [h3] at e;cases e
  | some t1 =>
   rw [h3] at e
   exact Bv6 f (i+1) t1 t' (by omega) (Bz1 _ _ _ _ (by omega) (by omega) h h3) e
theorem C1n {l:List (TCT No)} {s:Bal} {re dr:Int} (h:(Bbn l s re dr).2.2.1=0):Cac l re dr s ((Bbn l s re dr).1,(Bbn l s re dr).2.1):=by
 unfold Bbn at h ⊢
 cases h1:Bjd l s != 0 with
 | true =>
  rw [h1,cond_true] at h
  rw [show Bjd l s=0 from h] at h1
  cases h1
 | false =>
  rw [h1] at h
  simp only [cond_false] at h ⊢
  cases h2:!Be3 re dr with
  | true=>rw [h2] at h;cases h
  | false =>
   rw [h2] at h
   simp only [cond_false] at h ⊢
   cases h3:Bfk l re dr l.length 0 (s,[]) with
   | none=>rw [h3] at h;cases h
   | some t=>exact Bv6 l.length 0 (s,[]) t (by omega) (.inl rfl) h3
theorem D6q {a b:Bm} {re dr:Int} (h:(Bbi a b re dr).2.2.1=0):sq a.px a.py b.px b.py≤(a.r+b.r)*(a.r+b.r)∧0<uN a b:=by
 refine Cgs (a:=a) (b:=b) (re:=re) (dr:=dr) (P:=fun _ u=>u.2.2.1=0→sq a.px a.py b.px b.py≤(a.r+b.r)*(a.r+b.r)∧0<uN a b) (fun _ h=>absurd h (by decide)) (fun _ _ _ _ h=>absurd h (by decide)) (fun _ _ _ _ _ h=>absurd h (by decide)) (fun _ _ _ _ h=>absurd h (by decide)) (fun _ _ K _ _ _=>?_) h
 have c:=K.cl
 unfold Bcv at c
 exact ⟨(of_decide_eq_true c).1,K.pos⟩
theorem Chr {W:List Int} {p:TCT Bek} {P:Prs} {t st:Int}:∃ more:Kns,kpV W (p::P) t st []=knP t st W p::more:=by
 refine ⟨unE (Bap (kpE W (p::P) t st) 1 P.length []),?_⟩
 show unE (Bap (kpE W (p::P) t st) 1 P.length ([]++[knP t st W p]))=_
 rw [Bt4]
 rfl
theorem Cad {W:List Int} {P:Prs} {t st:Int} {ks:Kns}:kpV W P t st ks=ks++kpV W P t st []:=by
 unfold kpV
 exact Bt4 P.length 0 ks
end St
end V
end Go.Proofs.YtcfanlgpkefogaaGreat
namespace Go.Proofs.YtcfanlgpkefogaaGreat
open Go.RowKit
namespace V
namespace Tp
open St
structure HC where
 x:Int
 y:Int
 a:Int
 b:Int
 fx:Int
 fy:Int
 bl:List (TCT No)
 pl:Nat→TCT cPt
 ps:Dss
 l:TCT Ban
 C:Int
structure HC.Ok (h:HC):Prop where
 n1:1≤h.bl.length
 hb:∀ i:Nat,i<h.bl.length→Bch h.bl i=Bdy
 hp:∀ j:Nat,1≤j→j<h.bl.length→onB h.l (h.pl j)=true
 hl:D3s h.l
 ba : -4194304≤h.a∧h.a≤4194304
 bb : -4194304≤h.b∧h.b≤4194304
def Way (h:HC) (c px py rx ry:Int):Prop:=∃ c':Int,0≤c'∧c'≤c∧FrZ h.x h.y h.a h.b c' (28800*(px-h.fx)+rx) (28800*(py-h.fy)+ry)∧(-14400≤rx∧rx≤14400)∧(-14400≤ry∧ry≤14400)
def B0 (h:HC) (c t:Int) (m:TCT Bat):Prop:=FrM h.x h.y h.a h.b t m.2.1.1 m.2.1.2.1∧Way h c m.1.1 m.1.2.1 m.2.2.1.1 m.2.2.1.2.1
def Cyl (h:HC) (cx cy S:Int):Prop:=∃ px py rx ry,Way h h.C px py rx ry∧sq px py cx cy≤S*S
def Hit (h:HC) (k:TCT cKn):Prop:=k.2.2.2.1=0∧((k.2.2.1=0∧∃ j:Nat,1≤j∧j<h.bl.length∧k.2.2.2.2.1=(j:Int)∧Cyl h (h.pl j).1 (h.pl j).2.1 5892)∨(k.2.2.1=1∧∃ j:Nat,j<h.ps.length∧k.2.2.2.2.1=(j:Int)∧1≤(Bd3 h.ps j).2.1∧Cyl h (Bd3 h.ps j).1.1 (Bd3 h.ps j).1.2.1 (2946+(Bd3 h.ps j).2.1)))
def AO (ks:Kns):Prop:=∀ y ∈ ks,y.2.2.1=2
def DG (h:HC) (ks:Kns):Prop:=∃ (A:Kns) (k:TCT cKn) (B:Kns),ks=A++k::B∧AO A∧Hit h k
structure UL (h:HC) (c t:Int) (ms:Bal) (os:List Bool):Prop where
 m:ms.length=h.bl.length
 o:os.length=h.bl.length
 r:∀ j:Nat,1≤j→j<h.bl.length→Bbs os j=false∧(Bag ms j).1=h.pl j∧Bil (Bag ms j)=false
 z:Bbs os 0=true∨B0 h c t (Bag ms 0)
def HI (h:HC) (c t:Int) (ms:Bal) (os:List Bool) (ks:Kns):Prop:=(UL h c t ms os∧AO ks)∨DG h ks
theorem DG.app {h:HC} {ks:Kns} (more:Kns) (d:DG h ks):DG h (ks++more):=by
 obtain ⟨A,k,B,e,a,b⟩:=d
 exact ⟨A,k,B++more,by rw [e,List.append_assoc,List.cons_append],a,b⟩
theorem AO.dg {h:HC} {ks:Kns} {k:TCT cKn} (more:Kns) (a:AO ks) (b:Hit h k):DG h (ks++k::more):=⟨ks,k,more,rfl,a,b⟩
theorem AO.snoc {ks:Kns} {k:TCT cKn} (a:AO ks) (e:k.2.2.1=2):AO (ks++[k]):=fun y hy=>by
 rcases List.mem_append.1 hy with q | q
 ·exact a y q
 ·rw [List.mem_singleton.1 q];exact e
theorem Way.mono {h:HC} {c c' px py rx ry:Int} (hc:c≤c') (w:Way h c px py rx ry):Way h c' px py rx ry:=by
 obtain ⟨d,a,b,e⟩:=w
 exact ⟨d,a,Int.le_trans b hc,e⟩
theorem Cqk {m:TCT Bat} (h:Bil m=false):m.2.1.1=0∧m.2.1.2.1=0:=by
 unfold Bil at h
 simp only [Bool.and_true,Bool.not_eq_false',Bool.and_eq_true,beq_iff_eq] at h
 exact h
theorem FrM.mono {x y a b t u v:Int} (h:FrM x y a b t u v):FrM x y a b (t+1) u v:=by
 have e:ab1 x y*(2*(t+1)+1)=ab1 x y*(2*t+1)+2*ab1 x y:=by grind
 have:=C0f (x:=x) (y:=y)
 have k:=h.h3
 exact ⟨h.h1,h.h2,by omega⟩
theorem Cql {p f u r q d:Int} (e:u+r=q*(64*450)+d):28800*(p+q-f)+d=28800*(p-f)+r+u:=by omega
theorem Cym {h:HC} {c t:Int} {m:TCT Bat} (ht:t≤40) (q:B0 h c t m) (hs:frK Bdy false m):B0 h (c+1) t (frS Bdy false m):=by
 unfold frS
 unfold frK at hs
 cases hm:Bil m with
 | false=>exact ⟨q.1,q.2.mono (by omega)⟩
 | true =>
  rw [hm] at hs
  have e:=(D3x (hs rfl)).1
  show B0 h (c+1) t (Bja Bdy m).1
  rw [e]
  obtain ⟨q1,d,d0,d1,z,r1,r2⟩:=q
  have ⟨e1,e2,e3⟩:=C1p (m.2.1.1+m.2.2.1.1) (64*450) (by decide)
  have ⟨f1,f2,f3⟩:=C1p (m.2.1.2.1+m.2.2.1.2.1) (64*450) (by decide)
  refine ⟨q1,d+1,by omega,by omega,?_,?_,?_⟩
  ·have s:=Cum d0 ht z q1
   have g1:28800*(m.1.1+DW (m.2.1.1+m.2.2.1.1) (64*450)-h.fx)+DR (m.2.1.1+m.2.2.1.1) (64*450)=28800*(m.1.1-h.fx)+m.2.2.1.1+m.2.1.1:=Cql e1
   have g2:28800*(m.1.2.1+DW (m.2.1.2.1+m.2.2.1.2.1) (64*450)-h.fy)+DR (m.2.1.2.1+m.2.2.1.2.1) (64*450)=28800*(m.1.2.1-h.fy)+m.2.2.1.2.1+m.2.1.2.1:=Cql f1
   show FrZ h.x h.y h.a h.b (d+1) (28800*(m.1.1+DW (m.2.1.1+m.2.2.1.1) (64*450)-h.fx)+DR (m.2.1.1+m.2.2.1.1) (64*450)) (28800*(m.1.2.1+DW (m.2.1.2.1+m.2.2.1.2.1) (64*450)-h.fy)+DR (m.2.1.2.1+m.2.2.1.2.1) (64*450))
   rw [g1,g2];exact s
  ·show -14400≤DR (m.2.1.1+m.2.2.1.1) (64*450)∧DR (m.2.1.1+m.2.2.1.1) (64*450)≤14400
   omega
  ·show -14400≤DR (m.2.1.2.1+m.2.2.1.2.1) (64*450)∧DR (m.2.1.2.1+m.2.2.1.2.1) (64*450)≤14400
   omega
theorem Cyn {h:HC} (k:h.Ok) {c t:Int} (ht:t≤40) {ms ms':Bal} {os:List Bool} (q:UL h c t ms os) (e:Bap (St.stE h.bl os) 0 h.bl.length ms=.inl ms'):UL h (c+1) t ms' os:=by
 have f:=Cl5 q.m e
 refine ⟨f.l.trans q.m,q.o,fun j h1 h2=>?_,?_⟩
 ·obtain ⟨a1,a2,a3⟩:=q.r j h1 h2
  have b:=(f.a j h2).1
  unfold frS at b
  rw [a3,Bool.and_false,cond_false] at b
  rw [b];exact ⟨a1,a2,a3⟩
 ·rcases q.z with z | z
  ·exact .inl z
  ·cases ho:Bbs os 0 with
   | true=>exact .inl rfl
   | false =>
    obtain ⟨a1,a2⟩:=f.a 0 k.n1
    rw [ho,k.hb 0 k.n1] at a1 a2
    rw [a1]
    exact .inr (Cym ht z a2)
theorem Bjo {l:List Bool} {i j:Nat} {x:Bool} (hi:i<l.length):Bbs (Bba l i x) j=if j=i then x else Bbs l j:=Bjm hi
theorem Cqm {h:HC} (k:h.Ok) {c t T st:Int} {s s':S2} {j:Nat} (hj:j<h.bl.length) (q:UL h c t s.1 s.2.1∧AO s.2.2) (e:lvE h.l T st j s=.inl s'):UL h c t s'.1 s'.2.1∧AO s'.2.2:=by
 unfold lvE at e
 cases e1:!Bam s.2.1 j (Baj .b) with
 | false=>rw [e1] at e;cases e;exact q
 | true =>
  rw [e1] at e
  cases e2:!onB h.l (Bag s.1 j).1 with
  | false=>rw [e2] at e;cases e;exact q
  | true =>
   rw [e2] at e
   cases e
   obtain ⟨u,a⟩:=q
   have j0:j=0:=by
    rcases Nat.eq_zero_or_pos j with z | z
    ·exact z
    ·obtain ⟨a1,a2,a3⟩:=u.r j z hj
     rw [a2,k.hp j z hj] at e2
     cases e2
   subst j0
   refine ⟨⟨(Bbd _ _ _).trans u.m,(Bbd _ _ _).trans u.o,fun i h1 h2=>?_,.inl ?_⟩,a.snoc rfl⟩
   ·show Bbs (Bba s.2.1 0 true) i=false∧(Bag (Bba s.1 0 (Cwg (Bag s.1 0))) i).1=h.pl i∧Bil (Bag (Bba s.1 0 (Cwg (Bag s.1 0))) i)=false
    rw [Bd4 (by omega),Bjo (by rw [u.o];exact hj),if_neg (by omega)]
    exact u.r i h1 h2
   ·show Bbs (Bba s.2.1 0 true) 0=true
    rw [Bjo (by rw [u.o];exact hj),if_pos rfl]
theorem Cyo {h:HC} (k:h.Ok) {c t T st:Int} (ht:t≤40) {s s':S2} (q:UL h c t s.1 s.2.1∧AO s.2.2) (e:mvF h.bl h.l T st h.bl.length s=.inl s'):UL h (c+1) t s'.1 s'.2.1∧AO s'.2.2:=by
 unfold mvF at e
 cases e1:Bap (St.stE h.bl s.2.1) 0 h.bl.length s.1 with
 | inr x=>rw [e1] at e;cases e
 | inl ms =>
  rw [e1] at e
  have u:=Cyn k ht q.1 e1
  exact Bay (n:=h.bl.length) (Inv:=fun _ (x:S2)=>UL h (c+1) t x.1 x.2.1∧AO x.2.2) (fun i x x' hi p e2=>Cqm k hi p e2) h.bl.length 0 (ms,s.2.1,s.2.2) s' (by omega) ⟨u,q.2⟩ e
theorem Cyp {h:HC} (k:h.Ok) {ms:Bal} {os:List Bool} {w fl:Int}:∀ b ∈ (gaV h.bl w fl h.bl.length ms os).2.1,b=Bdy :=
 Bay (n:=h.bl.length) (Inv:=fun _ (s:GA)=>∀ b ∈ s.2.1,b=Bdy) (fun i s s' hi q h2=>by
  unfold gaE at h2
  cases hc:!Bam os i (Baj .b)&&!Bdb w fl i with
  | false=>rw [hc] at h2;cases h2;exact q
  | true =>
   rw [hc] at h2
   cases h2
   intro b hb
   have hb:b ∈ s.2.1++[Bch h.bl i]:=hb
   rcases List.mem_append.1 hb with p | p
   ·exact q b p
   ·rw [List.mem_singleton.1 p];exact k.hb i (by omega)) h.bl.length 0 ([],[],[]) _ (by omega) (fun _ h=>nomatch h) (Bgh (Bap (gaE h.bl ms os w fl) 0 h.bl.length ([],[],[])))
end Tp
end V
end Go.Proofs.YtcfanlgpkefogaaGreat
namespace Go.Proofs.YtcfanlgpkefogaaGreat
open Go.RowKit
namespace V
namespace Tp
open St
theorem Cqn {h:HC} {ks:Kns} {W:List Int} {P:List (TCT Bek)} {p:TCT Bek} {t st:Int} (a:AO ks) (b:Hit h (knP t st W p)):DG h (kpV W (p::P) t st ks):=by
 obtain ⟨more,e⟩:=Chr (W:=W) (p:=p) (P:=P) (t:=t) (st:=st)
 rw [Cad,e]
 exact a.dg more b
theorem Cqo {h:HC} (_:h.Ok) {c t T st:Int} {s:S2} (u:UL h c t s.1 s.2.1) (hc:c≤h.C) {wi wj:Int} (ri:0≤wi∧wi<(h.bl.length:Int)) (rj:0≤wj∧wj<(h.bl.length:Int)) (lt:wi<wj) (i2:Bbs s.2.1 (Int.toNat wi)=false)
  (f5:sq (bm Bdy (Bag s.1 (Int.toNat wi))).px (bm Bdy (Bag s.1 (Int.toNat wi))).py (bm Bdy (Bag s.1 (Int.toNat wj))).px (bm Bdy (Bag s.1 (Int.toNat wj))).py≤((bm Bdy (Bag s.1 (Int.toNat wi))).r+(bm Bdy (Bag s.1 (Int.toNat wj))).r)*((bm Bdy (Bag s.1 (Int.toNat wi))).r+(bm Bdy (Bag s.1 (Int.toNat wj))).r)∧0<uN (bm Bdy (Bag s.1 (Int.toNat wi))) (bm Bdy (Bag s.1 (Int.toNat wj)))):Hit h (kn T st 0 wi wj):=by
 obtain ⟨a1,a2,a3⟩:=u.r (Int.toNat wj) (by omega) (by omega)
 obtain ⟨g1,g2⟩:=f5
 have z:wi=0:=by
  rcases Int.lt_or_le 0 wi with p | p
  ·exfalso
   obtain ⟨b1,b2,b3⟩:=u.r (Int.toNat wi) (by omega) (by omega)
   have m1:=Cqk a3
   have m2:=Cqk b3
   have e:uN (bm Bdy (Bag s.1 (Int.toNat wi))) (bm Bdy (Bag s.1 (Int.toNat wj)))=0:=by
    show (450*(Bag s.1 (Int.toNat wi)).2.1.1-450*(Bag s.1 (Int.toNat wj)).2.1.1)*_+(450*(Bag s.1 (Int.toNat wi)).2.1.2.1-450*(Bag s.1 (Int.toNat wj)).2.1.2.1)*_=0
    rw [m1.1,m1.2,m2.1,m2.2,Int.sub_self,Int.zero_mul,Int.zero_mul];rfl
   omega
  ·omega
 subst z
 rcases u.z with z | z
 ·have i2:Bbs s.2.1 0=false:=i2
  rw [z] at i2;cases i2
 ·refine ⟨rfl,.inl ⟨rfl,Int.toNat wj,by omega,by omega,(Int.toNat_of_nonneg rj.1).symm,(Bag s.1 0).1.1,(Bag s.1 0).1.2.1,_,_,z.2.mono hc,?_⟩⟩
  rw [← a2]
  exact g1
theorem Bv7 {h:HC} (k:h.Ok) {c t T st w fl:Int} (hc:c≤h.C) {bc:TCT Bbv} {s:S2} {r:Bal×Kns} (q:UL h c t s.1 s.2.1∧AO s.2.2) (e:seF h.bl bc T st w fl h.bl.length s=.inl r):(UL h c t r.1 s.2.1∧r.2=s.2.2)∨DG h r.2:=by
 have hlen:=C1k e
 unfold seF at e
 cases he:(seS h.bl bc w fl h.bl.length s).2.2.1 != 0 with
 | true=>rw [he] at e;cases e
 | false =>
  rw [he] at e
  cases e
  have e0:=bne_eq_false_iff_eq.1 he
  have hG:InvH s.1 s.2.1 h.bl.length h.bl.length (seG h.bl w fl h.bl.length s):=Bv1
  have hW:InvW h.bl.length (seG h.bl w fl h.bl.length s):=Cq7
  have hB:∀ b ∈ (seG h.bl w fl h.bl.length s).2.1,b=Bdy:=Cyp k
  obtain ⟨u,a⟩:=q
  rcases C1n (l:=(seG h.bl w fl h.bl.length s).2.1) (s:=(seG h.bl w fl h.bl.length s).2.2) (re:=bc.1) (dr:=bc.2.1) e0 with f | ⟨i,j,rest,f1,f2,f3,f4⟩
  ·have fP:(seS h.bl bc w fl h.bl.length s).2.1=[]:=congrArg Prod.snd f
   have fM:(seS h.bl bc w fl h.bl.length s).1=(seG h.bl w fl h.bl.length s).2.2:=congrArg Prod.fst f
   have same:∀ i:Nat,Bag (scV (seG h.bl w fl h.bl.length s).1 (seS h.bl bc w fl h.bl.length s).1 s.1) i=Bag s.1 i:=fun i=>C1m (seG h.bl w fl h.bl.length s).1.length 0 s.1 (by omega) (fun k' hk' e=>by
    have b:=(hG.h k' hk').1
    rw [e] at b
    rw [fM];exact b) rfl
   refine .inl ⟨⟨hlen.trans u.m,u.o,fun j h1 h2=>?_,?_⟩,?_⟩
   ·show Bbs s.2.1 j=false∧(Bag (scV (seG h.bl w fl h.bl.length s).1 (seS h.bl bc w fl h.bl.length s).1 s.1) j).1=h.pl j∧Bil (Bag (scV (seG h.bl w fl h.bl.length s).1 (seS h.bl bc w fl h.bl.length s).1 s.1) j)=false
    rw [same j];exact u.r j h1 h2
   ·show Bbs s.2.1 0=true∨B0 h c t (Bag (scV (seG h.bl w fl h.bl.length s).1 (seS h.bl bc w fl h.bl.length s).1 s.1) 0)
    rw [same 0];exact u.z
   ·show kpV (seG h.bl w fl h.bl.length s).1 (seS h.bl bc w fl h.bl.length s).2.1 T st s.2.2=s.2.2
    rw [fP];rfl
  ·refine .inr ?_
   show DG h (kpV (seG h.bl w fl h.bl.length s).1 (seS h.bl bc w fl h.bl.length s).2.1 T st s.2.2)
   have f1':(seS h.bl bc w fl h.bl.length s).2.1=((i:Int),(j:Int),())::rest:=f1
   rw [f1']
   refine Cqn a ?_
   have hb:=hG.g.b
   have hi:i<(seG h.bl w fl h.bl.length s).1.length:=by omega
   have hj:j<(seG h.bl w fl h.bl.length s).1.length:=by omega
   obtain ⟨i1,i2⟩:=hG.h i hi
   obtain ⟨j1,j2⟩:=hG.h j hj
   have ri:=hG.g.r _ (Bcl hi (Baj cI))
   have rj:=hG.g.r _ (Bcl hj (Baj cI))
   have lt:=hW.s i j f2 hj
   have bi:Bam (seG h.bl w fl h.bl.length s).2.1 i (Baj No)=Bdy:=hB _ (Bcl (by omega) _)
   have bj:Bam (seG h.bl w fl h.bl.length s).2.1 j (Baj No)=Bdy:=hB _ (Bcl (by omega) _)
   have ki:knP T st (seG h.bl w fl h.bl.length s).1 ((i:Int),(j:Int),())=kn T st 0 (Bam (seG h.bl w fl h.bl.length s).1 i (Baj cI)) (Bam (seG h.bl w fl h.bl.length s).1 j (Baj cI)):=rfl
   rw [ki]
   have f5:=D6q f4
   unfold bAt at f5
   rw [bi,bj] at f5
   have i1':Bam (seG h.bl w fl h.bl.length s).2.2 i (Baj Bat)=Bag s.1 (Int.toNat (Bam (seG h.bl w fl h.bl.length s).1 i (Baj cI))):=i1
   have j1':Bam (seG h.bl w fl h.bl.length s).2.2 j (Baj Bat)=Bag s.1 (Int.toNat (Bam (seG h.bl w fl h.bl.length s).1 j (Baj cI))):=j1
   rw [i1',j1'] at f5
   generalize Bam (seG h.bl w fl h.bl.length s).1 i (Baj cI)=wi at *
   generalize Bam (seG h.bl w fl h.bl.length s).1 j (Baj cI)=wj at *
   exact Cqo k u hc ri rj lt i2 f5
theorem Chs {h:HC} (k:h.Ok) {c t T st w fl:Int} (hc:c≤h.C) {bc:TCT Bbv} {s:S2} {r:Bal×Kns} (q:UL h c t s.1 s.2.1∧AO s.2.2) (e:seF h.bl bc T st w fl h.bl.length s=.inl r):HI h c t r.1 s.2.1 r.2:=by
 rcases Bv7 k hc q e with a | a
 ·exact .inl ⟨a.1,by rw [a.2];exact q.2⟩
 ·exact .inr a
theorem Cyq {a:Bm} {qx qy q re dr:Int} (h:(Bs4 a qx qy q re dr).2.1=0):1≤q∧sq a.px a.py qx qy≤(a.r+q)*(a.r+q):=by
 refine C8g (a:=a) (qx:=qx) (qy:=qy) (q:=q) (re:=re) (dr:=dr) (P:=fun u=>u.2.1=0→1≤q∧sq a.px a.py qx qy≤(a.r+q)*(a.r+q)) (fun h=>absurd h (by decide)) (fun h=>absurd h (by decide)) (fun h=>absurd h (by decide)) (fun h=>absurd h (by decide)) (fun x y K _ _=>⟨K.q1,K.cl⟩) h
theorem D6r {h:HC} (k:h.Ok) {c t T st w fl:Int} (hc:c≤h.C) {bc:TCT Bbv} {os:List Bool} {j i:Nat} (hj:j<h.bl.length) (hi:i<h.ps.length) {x:MK} (q:HI h c t x.1 os x.2):(∀ x',bpE (Bch h.bl j) bc h.ps os w fl T st j i x=.inl x'→HI h c t x'.1 os x'.2)∧(∀ x',bpE (Bch h.bl j) bc h.ps os w fl T st j i x=.inr (.inl x')→x'=x):=by
 unfold bpE
 cases e1:!Bbu x.1 os j||Bdb w fl j with
 | true=>exact ⟨(fun x' h=>by cases h),(fun x' h=>by cases h;rfl)⟩
 | false =>
  simp only [cond_false]
  cases e2:(bmV (Bch h.bl j) (Bag x.1 j) (Bd3 h.ps i) bc).2.1==0 with
  | true =>
   refine ⟨(fun x' hx=>?_),(fun x' h=>by cases h)⟩
   cases hx
   rcases q with ⟨u,a⟩ | d
   ·refine .inr (a.dg [] ?_)
    rw [Bool.or_eq_false_iff] at e1
    have e3:=e1.1
    rw [C0c] at e3
    simp only [Bool.not_eq_false',Bool.and_eq_true,Bool.not_eq_true'] at e3
    have j0:j=0:=by
     rcases Nat.eq_zero_or_pos j with z | z
     ·exact z
     ·obtain ⟨a1,a2,a3⟩:=u.r j z hj
      rw [a3] at e3;exact nomatch e3.2
    subst j0
    rcases u.z with z | z
    ·rw [z] at e3;exact nomatch e3.1
    ·have b:=Cyq (eq_of_beq e2)
     rw [k.hb 0 k.n1] at b
     exact ⟨rfl,.inr ⟨rfl,i,hi,rfl,b.1,(Bag x.1 0).1.1,(Bag x.1 0).1.2.1,_,_,z.2.mono hc,b.2⟩⟩
   ·exact .inr (d.app _)
  | false =>
   simp only [cond_false]
   cases e3:(bmV (Bch h.bl j) (Bag x.1 j) (Bd3 h.ps i) bc).2.1==4 with
   | true=>exact ⟨(fun x' h=>by cases h),(fun x' h=>by cases h)⟩
   | false=>exact ⟨(fun x' h=>by cases h;exact q),(fun x' h=>by cases h)⟩
theorem Cqp {h:HC} (k:h.Ok) {c t T st w fl:Int} (hc:c≤h.C) {bc:TCT Bbv} {os:List Bool} {j:Nat} (hj:j<h.bl.length):∀ (m i:Nat) (x x':MK),i+m=h.ps.length→HI h c t x.1 os x.2→Bsr (Bap (bpE (Bch h.bl j) bc h.ps os w fl T st j) i m x)=.inl x'→HI h c t x'.1 os x'.2
 | 0,i,x,x',_,q,e=>by cases e;exact q
 | m+1,i,x,x',hi,q,e=>by
  unfold Bap at e
  have a:=D6r k (T:=T) (st:=st) (w:=w) (fl:=fl) (bc:=bc) hc hj (i:=i) (by omega) q
  cases hf:bpE (Bch h.bl j) bc h.ps os w fl T st j i x with
  | inl y =>
   rw [hf] at e
   exact Cqp k hc hj m (i+1) y x' (by omega) (a.1 y hf) e
  | inr y =>
   rw [hf] at e
   cases y with
   | inl y=>have e1:=a.2 y hf;subst e1;cases e;exact q
   | inr y=>cases e
theorem Cyr {h:HC} (k:h.Ok) {c t T st w fl:Int} (hc:c≤h.C) {bc:TCT Bbv} {s:S2} {s':MK} (q:HI h c t s.1 s.2.1 s.2.2) (e:buF h.bl bc h.ps T st w fl h.bl.length s=.inl s'):HI h c t s'.1 s.2.1 s'.2 :=
 Bay (n:=h.bl.length) (Inv:=fun _ (x:MK)=>HI h c t x.1 s.2.1 x.2) (fun j x x' hj p e1=>Cqp k hc hj h.ps.length 0 x x' (by omega) p e1) h.bl.length 0 (s.1,s.2.2) s' (by omega) q e
theorem Cf1 {A B C D:Type} {f:A→C} {g:B→D} {x:A⊕B} {y:C} (h:Blh f g x=.inl y):∃ z,x=.inl z∧y=f z:=by
 cases x with
 | inl z=>cases h;exact ⟨z,rfl,rfl⟩
 | inr z=>cases h
theorem D6s {h:HC} (k:h.Ok) {c t:Int} {K:CT} (eb:K.bl=h.bl) (el:K.l=h.l) (ep:K.ps=h.ps) (ht:t≤40) (hc:c+1≤h.C) {i:Nat} {s s':S2} (q:HI h c t s.1 s.2.1 s.2.2) (e:tkE K i s=.inl s'):HI h (c+1) t s'.1 s'.2.1 s'.2.2:=by
 rcases q with q | d
 ·unfold tkE at e
  rw [eb,el,ep] at e
  cases h1:mvF h.bl h.l K.t ((i+1:Nat):Int) h.bl.length s with
  | inr x=>rw [h1] at e;cases e
  | inl s1 =>
   rw [h1] at e
   simp only at e
   have q1:=Cyo k ht q h1
   cases h2:seF h.bl K.c K.t ((i+1:Nat):Int) K.w K.fl h.bl.length s1 with
   | inr x=>rw [h2] at e;cases e
   | inl s2 =>
    rw [h2] at e
    simp only at e
    have q2:=Chs k hc q1 h2
    cases h3:buF h.bl K.c h.ps K.t ((i+1:Nat):Int) K.w K.fl h.bl.length (s2.1,s1.2.1,s2.2) with
    | inr x=>rw [h3] at e;cases e
    | inl s3 =>
     rw [h3] at e
     cases e
     exact Cyr k hc (s:=(s2.1,s1.2.1,s2.2)) q2 h3
 ·have e1:tkE K i (a2 s.2.2 (s.1,s.2.1,[]))=.inl s':=by
   unfold a2
   simp only [List.append_nil]
   exact e
  rw [Cel] at e1
  obtain ⟨z,_,e2⟩:=Cf1 e1
  rw [e2]
  exact .inr (d.app _)
theorem Cqq {a u:Int} (h:Btw a u) (k : -4194304≤a∧a≤4194304) : -4194304≤u∧u≤4194304:=by
 unfold Btw at h
 omega
theorem Cys {h:HC} (k:h.Ok) {c t:Int} (ht:0≤t) {m:TCT Bat} (q:B0 h c t m) (hs:slK h.l false false m):B0 h c (t+1) (slS h.l false false m):=by
 unfold slS
 unfold slK at hs
 cases hm:Bil m with
 | false=>exact ⟨FrM.mono q.1,q.2⟩
 | true =>
  rw [hm] at hs
  have h4:=(hs rfl).2
  obtain ⟨a,b,c0⟩:=k.hl m.1
  have q1:=q.1
  have b1:=q1.h1
  have b2:=q1.h2
  have ka:=k.ba
  have kb:=k.bb
  have d1 : -4194304≤m.2.1.1∧m.2.1.1≤4194304:=Cqq b1 ka
  have d2 : -4194304≤m.2.1.2.1∧m.2.1.2.1≤4194304:=Cqq b2 kb
  refine ⟨?_,q.2⟩
  show FrM h.x h.y h.a h.b (t+1) (Bi9 h.l m).1.1 (Bi9 h.l m).1.2.1
  unfold Bi9 at h4 ⊢
  rw [b,c0,Int.add_zero,Int.add_zero,Bb4 (Int.le_trans (by decide) d1.1) (Int.le_trans d1.2 (by decide)),Bb4 (Int.le_trans (by decide) d2.1) (Int.le_trans d2.2 (by decide))] at h4 ⊢
  exact Cul ht q1 a h4
theorem Cqr {w i:Int}:Bdb w 0 i=false:=by unfold Bdb;cases i==w <;> rfl
theorem Cyt {h:HC} (k:h.Ok) {t:Int} {K:CT} (eb:K.bl=h.bl) (el:K.l=h.l) (ep:K.ps=h.ps) (ef:K.fl=0) (ht0:0≤t) (ht:t≤39) (hc:16*(t+1)≤h.C) {s s':S2} (q:HI h (16*t) t s.1 s.2.1 s.2.2) (e:tkF K s=.inl s'):HI h (16*(t+1)) (t+1) s'.1 s'.2.1 s'.2.2:=by
 rcases q with q | d
 ·unfold tkF at e
  cases e0:K.t==4000 with
  | true=>rw [e0] at e;cases e
  | false =>
   rw [e0,cond_false,eb,el,ef] at e
   cases e1:Bap (slE h.l s.2.1 K.w 0) 0 h.bl.length s.1 with
   | inr x=>rw [e1] at e;cases e
   | inl ms =>
    rw [e1] at e
    obtain ⟨u,a⟩:=q
    have sl:=Cl6 u.m e1
    have u2:UL h (16*t) (t+1) ms s.2.1:=by
     refine ⟨sl.ll.trans u.m,u.o,fun j h1 h2=>?_,?_⟩
     ·obtain ⟨a1,a2,a3⟩:=u.r j h1 h2
      have b:=(sl.a j h2).1
      unfold slS at b
      rw [a3,Bool.and_false,Bool.false_and,cond_false] at b
      rw [b];exact ⟨a1,a2,a3⟩
     ·rcases u.z with z | z
      ·exact .inl z
      ·cases ho:Bbs s.2.1 0 with
       | true=>exact .inl rfl
       | false =>
        obtain ⟨b1,b2⟩:=sl.a 0 k.n1
        rw [ho,Cqr] at b1 b2
        rw [b1]
        exact .inr (Cys k ht0 z b2)
    have h2:Bap (tkE K) 0 16 (ms,s.2.1,s.2.2)=.inl s':=e
    have key:HI h (16*t+((16:Nat):Int)) (t+1) s'.1 s'.2.1 s'.2.2:=Bay (n:=16) (Inv:=fun i (x:S2)=>HI h (16*t+(i:Int)) (t+1) x.1 x.2.1 x.2.2) (fun i x x' hi p e2=>by
     have:=D6s k eb el ep (t:=t+1) (c:=16*t+(i:Int)) (by omega) (by omega) p e2
     have e3:16*t+((i+1:Nat):Int)=16*t+(i:Int)+1:=by omega
     rw [e3];exact this) 16 0 (ms,s.2.1,s.2.2) s' (by omega) (by
      have e3:16*t+((0:Nat):Int)=16*t:=by omega
      rw [e3];exact .inl ⟨u2,a⟩) h2
    have e4:16*(t+1)=16*t+((16:Nat):Int):=by omega
    rw [e4];exact key
 ·have e1:tkF K (a2 s.2.2 (s.1,s.2.1,[]))=.inl s':=by
   unfold a2
   simp only [List.append_nil]
   exact e
  rw [Cem] at e1
  obtain ⟨z,_,e2⟩:=Cf1 e1
  rw [e2]
  exact .inr (d.app _)
theorem Cqs {h:HC} (k:h.Ok) {g:TCT cGr} (eb:V2 g=h.bl) (el:g.1=h.l) (ep:postsV g.1=h.ps):∀ (m:Nat) (t:Int) (s:TCT cSt) (ks:Kns) (r:TCT cSt×Kns),0≤t→t+(m:Int)≤40→16*(t+(m:Int))≤h.C→s.2.2.2.1=0→HI h (16*t) t (msT s) (osT s) ks→rnS g m s ks=.inl r→AO r.2∨DG h r.2
 | 0,t,s,ks,r,_,_,_,_,q,e=>by
  rw [Bv4] at e
  cases h1:decide ((ks.length:Int)>4096) with
  | true=>rw [h1] at e;cases e
  | false=>rw [h1] at e;cases e;rcases q with q | q;exact .inl q.2;exact .inr q
 | m+1,t,s,ks,r,t0,t1,t2,f,q,e=>by
  rw [Bv5] at e
  cases h1:decide ((ks.length:Int)>4096) with
  | true=>rw [h1] at e;cases e
  | false =>
   rw [h1,cond_false] at e
   cases h2:Bcc s with
   | true=>rw [h2] at e;cases e;rcases q with q | q;exact .inl q.2;exact .inr q
   | false =>
    rw [h2] at e
    simp only [Bool.not_false,cond_true] at e
    cases h3:tkF (ctS g s) (msT s,osT s,ks) with
    | inr x=>rw [h3] at e;cases e
    | inl r1 =>
     rw [h3] at e
     have p:=Cyt k (K:=ctS g s) eb el ep f t0 (by omega) (by omega) (s:=(msT s,osT s,ks)) q h3
     refine Cqs k eb el ep m (t+1) (nxS s r1) r1.2.2 r (by omega) (by omega) (by omega) ?_ p e
     show max 0 (W64 (s.2.2.2.1-1))=0
     rw [f];decide
end Tp
end V
end Go.Proofs.YtcfanlgpkefogaaGreat
