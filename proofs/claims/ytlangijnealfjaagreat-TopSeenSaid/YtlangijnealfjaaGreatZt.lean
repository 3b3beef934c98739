import Derived.Test.YtlangijnealfjaaGreatZr
namespace Go.Proofs.YtlangijnealfjaaGreat
open Go.RowKit
namespace V
namespace Tp
open St
theorem Aln {c:QS0} {po:List (TCT A1)} {j m:Nat} (hi:c.i=(j:Int)) (hk:c.k=(m:Int)) (hj:j<c.p.length) (hm:m<c.q.length) (hl:po.length≤100)
  (h:∀ d ∈ po,Dt (A7 c.p j (A5 cPt)) (A7 c.q m (A5 cPt)) d=(false,0)):∀ (n i f:Nat),i+n=po.length→n+1≤f→iter (We Dt) f (A1r c po (i:Int))=some (Ala c)
 | _,_,0,_,hf=>by omega
 | 0,i,f+1,hn,_=>by
  have e:i=po.length:=by omega
  subst e
  refine F7 ?_
  show (Wd Dt c po (po.length:Int)).run=_
  unfold Wd
  rw [decide_eq_false (Int.lt_irrefl _)]
  rfl
 | n+1,i,f+1,hn,hf=>by
  refine (Js ?_).trans (Aln hi hk hj hm hl h n (i+1) f (by omega) (by omega))
  have hi':i<po.length:=by omega
  show (Wd Dt c po (i:Int)).run=_
  unfold Wd
  rw [decide_eq_true (show (i:Int)<(po.length:Int) by omega),cond_true,hi,hk,Ci (by omega),Ci (by omega),Ci (by omega),show Int.toNat (j:Int)=j by omega,show Int.toNat (m:Int)=m by omega,show Int.toNat (i:Int)=i by omega,h _ (Dd hi' _)]
  show (Tree.leaf (.inl (A1r c po (W64 ((i:Int)+1)))):Tree cS0).run=_
  rw [B6 (n:=(i:Int)+1) (by omega) (by omega)]
  rfl
structure GdS (c:QS2):Prop where
 lp:c.p.length=16
 lq:c.q.length=16
 ea:∀ j m:Nat,j<16→m<16→(Ao (A7 c.p j (A5 cPt)) (A7 c.q m (A5 cPt)) (dsk c.a)).2=0
 eb:∀ j m:Nat,j<16→m<16→(Ao (A7 c.p j (A5 cPt)) (A7 c.q m (A5 cPt)) (dsk c.b)).2=0
 ec:∀ j m:Nat,j<16→m<16→∀ d ∈ c.po,(Dt (A7 c.p j (A5 cPt)) (A7 c.q m (A5 cPt)) d).2=0
 al:Wa (dsk c.a) (dsk c.b) c.po c.p c.q
 pf:c.pf.length≤100000
theorem Alo {pre l:List Int} {x:Int}:A7 (pre++x::l) pre.length (A5 cI)=x:=by
 rw [B2]
 simp
abbrev rwN (c:QS2) (i k:Nat):List Int:=P2 Ao (dsk c.a) (dsk c.b) c.po (A7 c.p i (A5 cPt)) (i:Int) (c.q.drop k) (k:Int)
theorem Aqf {c:QS2} {i k:Nat} (h:c.q.length≤k):rwN c i k=[]:=by
 unfold rwN
 rw [List.drop_eq_nil_of_le h]
 rfl
theorem Av7 {c:QS2} {i k:Nat} (h:k<c.q.length):rwN c i k=bif lnB Ao (dsk c.a) (dsk c.b) (A7 c.p i (A5 cPt)) (A7 c.q k (A5 cPt)) then ixS c.po ((i:Int),(k:Int),A7 c.p i (A5 cPt),A7 c.q k (A5 cPt),())::rwN c i (k+1) else rwN c i (k+1):=by
 unfold rwN
 rw [List.drop_eq_getElem_cons h,C7 h]
 rfl
theorem Aeo {c:QS2} (g:GdS c) {i k:Nat} {pre suf:List Int} (hi:i<16) (hk:k<16) (h:c.pf=pre++rwN c i k++suf) :
  ∃ pre',c.pf=pre'++rwN c i (k+1)++suf∧pre'++rwN c i (k+1)=pre++rwN c i k∧(Nc Ao Dt (Ld c (pre.length:Int) (i:Int) (k:Int))).run=some (.inl (Ld c (pre'.length:Int) (i:Int) ((k+1:Nat):Int))):=by
 have hq:k<c.q.length:=by rw [g.lq];exact hk
 have hp:i<c.p.length:=by rw [g.lp];exact hi
 have hr:=Av7 (c:=c) (i:=i) hq
 have hk1:W64 ((k:Int)+1)=((k+1:Nat):Int):=B6 (n:=(k:Int)+1) (by omega) (by omega)
 have key:∀ (x y:Bool×Int),Ao (A7 c.p i (A5 cPt)) (A7 c.q k (A5 cPt)) (dsk c.a)=x→Ao (A7 c.p i (A5 cPt)) (A7 c.q k (A5 cPt)) (dsk c.b)=y→∀ z,(Ale Dt c (pre.length:Int) (i:Int) (k:Int) x y).run=z→(Nc Ao Dt (Ld c (pre.length:Int) (i:Int) (k:Int))).run=z:=by
  intro x y hx hy z hz
  show (Wg Ao Dt c (pre.length:Int) (i:Int) (k:Int)).run=z
  unfold Wg
  rw [decide_eq_true (show (k:Int)<16 by omega),cond_true,Ci (by omega),Ci (by omega),Ci (by omega),Ci (by omega),show Int.toNat (i:Int)=i by omega,show Int.toNat (k:Int)=k by omega,hx,hy]
  exact hz
 have ha:=g.ea i k hi hk
 have hb:=g.eb i k hi hk
 have hal:=g.al i k hp hq
 have hec:=g.ec i k hi hk
 unfold lnB at hr hal
 generalize hx:Ao (A7 c.p i (A5 cPt)) (A7 c.q k (A5 cPt)) (dsk c.a)=x at *
 generalize hy:Ao (A7 c.p i (A5 cPt)) (A7 c.q k (A5 cPt)) (dsk c.b)=y at *
 obtain ⟨x1,x2⟩:=x
 obtain ⟨y1,y2⟩:=y
 have ha:x2=0:=ha
 have hb:y2=0:=hb
 subst ha
 subst hb
 cases x1 with
 | true =>
  have hr:rwN c i k=rwN c i (k+1):=hr
  refine ⟨pre,by rw [← hr];exact h,by rw [hr],key _ _ rfl rfl _ ?_⟩
  show (Jt c (pre.length:Int) (i:Int) (k:Int)).run=_
  unfold Jt
  rw [hk1]
  rfl
 | false =>
  cases y1 with
  | true =>
   have hr:rwN c i k=rwN c i (k+1):=hr
   refine ⟨pre,by rw [← hr];exact h,by rw [hr],key _ _ rfl rfl _ ?_⟩
   show (Jt c (pre.length:Int) (i:Int) (k:Int)).run=_
   unfold Jt
   rw [hk1]
   rfl
  | false =>
   have hc:ctS c.po ((i:Int),(k:Int),A7 c.p i (A5 cPt),A7 c.q k (A5 cPt),())=true:=hal rfl
   obtain ⟨h0,h1,h2⟩:=Ay3 hc
   have hr:rwN c i k=ixS c.po ((i:Int),(k:Int),A7 c.p i (A5 cPt),A7 c.q k (A5 cPt),())::rwN c i (k+1):=hr
   generalize ixS c.po ((i:Int),(k:Int),A7 c.p i (A5 cPt),A7 c.q k (A5 cPt),())=v at *
   rw [hr] at h
   refine ⟨pre++[v],by rw [h];simp,by rw [hr];simp,key _ _ rfl rfl _ ?_⟩
   show (A8v Dt c (pre.length:Int) (i:Int) (k:Int)).run=_
   have hlen:pre.length<c.pf.length:=by rw [h];simp
   have hpl:=g.pf
   have hg:A7 c.pf pre.length (A5 cI)=v:=by
    rw [h,List.append_assoc]
    exact Alo
   have hcut:Dt (A7 c.p i (A5 cPt)) (A7 c.q k (A5 cPt)) (A7 c.po (Int.toNat v) (A5 A1))=(true,0):=Prod.ext h2 (hec _ (Dd (by omega) _))
   unfold A8v
   rw [decide_eq_false (show ¬ (pre.length:Int)≥(c.pf.length:Int) by omega),cond_false,Ci (by omega),show Int.toNat (pre.length:Int)=pre.length by omega,hg,decide_eq_false (show ¬ v<0 by omega),cond_false,Ci (by omega),decide_eq_false (show ¬ v≥(c.po.length:Int) by omega),cond_false,Ci (by omega),Ci (by omega),Ci (by omega),Ci (by omega),show Int.toNat (i:Int)=i by omega,show Int.toNat (k:Int)=k by omega,hcut]
   show (Jt c (W64 ((pre.length:Int)+1)) (i:Int) (k:Int)).run=_
   unfold Jt
   rw [hk1,B6 (n:=(pre.length:Int)+1) (by omega) (by omega),List.length_append]
   rfl
theorem Alp {c:QS2} (g:GdS c) {i:Nat} (hi:i<16) {suf:List Int}:∀ (n k f:Nat) (pre:List Int),k+n=16→n+1≤f→c.pf=pre++rwN c i k++suf →
  iter (Nc Ao Dt) f (Ld c (pre.length:Int) (i:Int) (k:Int))=some (Ald c ((pre++rwN c i k).length:Int) (i:Int))
 | _,_,0,_,_,hf,_=>by omega
 | 0,k,f+1,pre,hn,_,_=>by
  have e:k=16:=by omega
  subst e
  refine F7 ?_
  show (Wg Ao Dt c (pre.length:Int) (i:Int) 16).run=_
  unfold Wg
  rw [decide_eq_false (Int.lt_irrefl _),Aqf (by rw [g.lq];exact Nat.le_refl _),List.append_nil]
  rfl
 | n+1,k,f+1,pre,hn,hf,h=>by
  obtain ⟨pre',h1,h2,h3⟩:=Aeo g hi (show k<16 by omega) h
  rw [← h2]
  exact (Js h3).trans (Alp g hi n (k+1) f pre' (by omega) (by omega) h1)
abbrev clN (c:QS2) (i:Nat):List Int:=Qk Ao (dsk c.a) (dsk c.b) c.po c.q (c.p.drop i) (i:Int)
theorem Aqg {c:QS2} {i:Nat} (h:c.p.length≤i):clN c i=[]:=by
 unfold clN
 rw [List.drop_eq_nil_of_le h]
 rfl
theorem Av8 {c:QS2} {i:Nat} (h:i<c.p.length):clN c i=rwN c i 0++clN c (i+1):=by
 unfold clN
 rw [List.drop_eq_getElem_cons h]
 show P2 Ao (dsk c.a) (dsk c.b) c.po (c.p[i].1,c.p[i].2.1,()) (i:Int) c.q 0++_=_
 unfold rwN
 rw [List.drop_zero,C7 h]
 rfl
theorem Alq {c:QS2} (g:GdS c):∀ (n i f:Nat) (pre:List Int),i+n=16→n+1≤f→c.pf=pre++clN c i →
  iter (Qm Ao Dt) f (Ql c (pre.length:Int) (i:Int))=some (Alf c (c.pf.length:Int))
 | _,_,0,_,_,hf,_=>by omega
 | 0,i,f+1,pre,hn,_,h=>by
  have e:i=16:=by omega
  subst e
  rw [Aqg (by rw [g.lp];exact Nat.le_refl _),List.append_nil] at h
  rw [← h]
  refine F7 ?_
  show (Wh Ao Dt c (c.pf.length:Int) 16).run=_
  unfold Wh
  rw [decide_eq_false (Int.lt_irrefl _)]
  rfl
 | n+1,i,f+1,pre,hn,hf,h=>by
  have hp:i<c.p.length:=by rw [g.lp];omega
  rw [Av8 hp,← List.append_assoc] at h
  have hl:=g.pf
  refine (Js ?_).trans (Alq g n (i+1) f (pre++rwN c i 0) (by omega) (by omega) h)
  show (Wh Ao Dt c (pre.length:Int) (i:Int)).run=_
  unfold Wh
  rw [decide_eq_true (show (i:Int)<16 by omega),cond_true,show Ld c (pre.length:Int) (i:Int) 0=Ld c (pre.length:Int) (i:Int) ((0:Nat):Int) from rfl,Alp g (show i<16 by omega) 16 0 (c.q.length+1) pre rfl (by rw [g.lq];exact Nat.le_refl _) h]
  show (Tree.leaf (.inl (Ql c ((pre++rwN c i 0).length:Int) (W64 ((i:Int)+1)))):Tree cS1).run=_
  rw [B6 (n:=(i:Int)+1) (by omega) (by omega)]
  rfl
end Tp
end V
end Go.Proofs.YtlangijnealfjaaGreat
namespace Go.Proofs.YtlangijnealfjaaGreat
open Go.RowKit
namespace V
namespace Tp
open St
theorem Ac2:∀ t:Bool,B7 (Cf t)=E2 t
 | true=>by decide +kernel
 | false=>by decide +kernel
theorem Aqh:∀ t:Bool,(E2 t).all (fun d=>u_cdOk d.1.1 d.1.2.1 d.2.1)=true
 | true=>by decide +kernel
 | false=>by decide +kernel
theorem Av9 {x y:Int} (hx:0≤x∧x≤65535) (hy:0≤y∧y≤65535):(0≤W64 (Int.tdiv (W64 (W64 x*3)) 2)∧W64 (Int.tdiv (W64 (W64 x*3)) 2)≤1000000)∧0≤W64 (W64 y*3)∧W64 (W64 y*3)≤1000000:=by
 rw [B6 (n:=x) (by omega) (by omega),B6 (n:=y) (by omega) (by omega),B6 (n:=x*3) (by omega) (by omega),B6 (n:=y*3) (by omega) (by omega),Int.tdiv_eq_ediv_of_nonneg (by omega),B6 (n:=x*3 / 2) (by omega) (by omega)]
 omega
theorem Ava {r:Int} (h:0≤r∧r≤65535):1≤W64 (1+Int.tmod (W64 r) 9000)∧W64 (1+Int.tmod (W64 r) 9000)≤9000:=by
 rw [B6 (n:=r) (by omega) (by omega),Int.tmod_eq_emod_of_nonneg (by omega),B6 (n:=1+r % 9000) (by omega) (by omega)]
 omega
structure Dc9 (d:TCT A1):Prop where
 v:cdE d=0
 r:d.2.1≤16384
 g:(Al d).2=0
theorem dc9 {d:TCT Dm} {r:Int} (hd:WFD Dm d) (hr:0≤r∧r≤65535):Dc9 (Ox 9000 d r):=by
 have hb:=Av9 (x:=d.1) (y:=d.2.1) hd.1 hd.2.1
 have hr:=Ava hr
 have hv:cdE (Ox 9000 d r)=0:=by
  have h1:fpt (spt d).1 (spt d).2.1=true:=decide_eq_true ⟨Int.le_trans (by decide) hb.1.1,Int.le_trans hb.1.2 (by decide),Int.le_trans (by decide) hb.2.1,Int.le_trans hb.2.2 (by decide)⟩
  have h2:Bd (W64 (1+Int.tmod (W64 r) 9000)) 1 65536=false:=by
   unfold Bd
   rw [decide_eq_false (by omega),decide_eq_false (by omega)]
   rfl
  show (bif u_cdOk (spt d).1 (spt d).2.1 (W64 (1+Int.tmod (W64 r) 9000)) then 0 else 2:Int)=0
  unfold u_cdOk
  rw [h1,h2]
  rfl
 exact ⟨hv,Int.le_trans hr.2 (by decide),Al9 hv (Int.le_trans (by decide) hb.1.1) hb.1.2 (Int.le_trans (by decide) hb.2.1) hb.2.2⟩
theorem A1s {a b:TCT A1} (ha:Dc9 a) (hb:Dc9 b) (h:¬ Ex a b<0):N6 Al a b=false:=by
 unfold N6
 have h1:decide (a.2.1>16384)=false:=decide_eq_false (Int.not_lt.2 ha.r)
 have h2:decide (b.2.1>16384)=false:=decide_eq_false (Int.not_lt.2 hb.r)
 rw [ha.g,hb.g,h1,h2,decide_eq_false h]
 rfl
theorem Alr {a b:TCT A1} (h:Ex a b<0):N6 Al a b=true:=by
 unfold N6
 rw [decide_eq_true h]
 simp
abbrev X4 (t:Bool) (a b:TCT A1):Int×Int×Int:=Gd Ao Al Cb (Cf t) a b
theorem Als {t:Bool} {a b:TCT A1} (h:N6 Al a b=true):(X4 t a b).2.2=2:=by
 have hO:(Cb (Cf t)).2=0:=A5q t
 unfold X4 Gd
 rw [hO,h]
 rfl
theorem A1t {t:Bool} {a b:TCT A1} (h:N6 Al a b=false):X4 t a b=match Iv Ao a b (E2 t) (Al b).1 (Al a).1 0 with
  | some x=>(x.1,x.2,0)
  | none=>(0,0,19):=by
 have hO:(Cb (Cf t)).2=0:=A5q t
 have hP:(Cb (Cf t)).1=E2 t:=by
  rw [← Ac2]
  show Fc (Cf t)=_
  unfold Fc
  rw [A5q t];rfl
 unfold X4 Gd
 rw [hO,h,hP]
 rfl
theorem Aqi {t:Bool} {a b:TCT A1} (h:N6 Al a b=false):E9 Ao Al Cb (Cf t) a b=match P1 Ao a b (E2 t) (Al b).1 (Al a).1 0 [] with
  | some o=>(o,0)
  | none=>([],5):=by
 have hO:(Cb (Cf t)).2=0:=A5q t
 have hP:(Cb (Cf t)).1=E2 t:=by
  rw [← Ac2]
  show Fc (Cf t)=_
  unfold Fc
  rw [A5q t];rfl
 unfold E9
 rw [hO,h,hP]
 rfl
theorem Sp {p q:TCT cPt} {d:TCT A1} (hp:fpt p.1 p.2.1=true) (hq:fpt q.1 q.2.1=true) (hd:(Al d).2=0):(Ao p q d).2=0:=by
 have hd:(Rg.RingR d.1.1 d.1.2.1 d.2.1).2.1=0:=hd
 show (bif Rg.fp p&&Rg.fp q then bif (Rg.RingR d.1.1 d.1.2.1 d.2.1).2.1 != 0 then (false,(Rg.RingR d.1.1 d.1.2.1 d.2.1).2.1,()) else (Rg.passF ⟨p.1,p.2.1,q.1,q.2.1,false⟩ (Rg.RingR d.1.1 d.1.2.1 d.2.1).1,0,()) else (false,2,()):Rg.RPass).2.1=0
 rw [show Rg.fp p=true from hp,show Rg.fp q=true from hq,hd]
 rfl
theorem Ac3 {t:Bool} {p q:TCT cPt} {d:TCT A1} (hp:fpt p.1 p.2.1=true) (hq:fpt q.1 q.2.1=true) (hd:d ∈ E2 t):(Dt p q d).2=0:=by
 have h:=List.all_eq_true.1 (Aqh t) d hd
 show (CtR p.1 p.2.1 q.1 q.2.1 d.1.1 d.1.2.1 d.2.1).2=0
 unfold CtR
 rw [hp,hq,h]
 rfl
theorem Alt (t:Bool):(E2 t).length=5:=by cases t <;> rfl
theorem A63 {P:Ax} {a b:TCT A1} {po:List (TCT A1)} {lb:List (TCT cPt)}:∀ (l:List (TCT cPt)) (i:Int),(Qk P a b po lb l i).length≤l.length*lb.length
 | [],_=>Nat.zero_le _
 | p::l,i=>by
  have h1:∀ (q:List (TCT cPt)) (k:Int),(P2 P a b po (p.1,p.2.1,()) i q k).length≤q.length:=by
   intro q
   induction q with
   | nil=>exact fun _=>Nat.le_refl _
   | cons x q ih =>
    intro k
    show (bif lnB P a b (p.1,p.2.1,()) x then ixS po (i,k,(p.1,p.2.1,()),(x.1,x.2.1,()),())::P2 P a b po (p.1,p.2.1,()) i q (k+1) else P2 P a b po (p.1,p.2.1,()) i q (k+1)).length≤q.length+1
    have:=ih (k+1)
    cases lnB P a b (p.1,p.2.1,()) x with
    | true=>rw [cond_true,List.length_cons];omega
    | false=>rw [cond_false];omega
  have h2:=A63 (P:=P) (a:=a) (b:=b) (po:=po) (lb:=lb) l (i+1)
  have h3:=h1 lb 0
  show (P2 P a b po (p.1,p.2.1,()) i lb 0++Qk P a b po lb l (i+1)).length≤(l.length+1)*lb.length
  rw [List.length_append,Nat.add_mul,Nat.one_mul]
  omega
theorem pp9 {t:Bool} {a b:TCT A1} (ha:Dc9 a) (hb:Dc9 b) (h:¬ Ex a b<0):(Alk (E9 Ao Al Cb) Ao Dt t a b (X4 t a b) (Al a).1 (Al b).1 (E2 t)).sat (fun _=>True):=by
 obtain ⟨la,fa⟩:=Qf ha.g
 obtain ⟨lb,fb⟩:=Qf hb.g
 have hbad:=A1s ha hb h
 rw [A1t hbad]
 have hcut:=Aqi (t:=t) hbad
 cases hc:Iv Ao a b (E2 t) (Al b).1 (Al a).1 0 with
 | some r =>
  obtain ⟨j,m,h1,h2,h3,h4,h5⟩:=Qi _ _ hc
  subst h3
  have hk:(E9 Ao Al Cb (Cf t) a b).2=5:=by
   rw [hcut]
   cases hz:P1 Ao a b (E2 t) (Al b).1 (Al a).1 0 [] with
   | none=>rfl
   | some o=>exact (Na hc (A62 _ _ _ _ hz)).elim
  have fp:=fa _ (Dd h1 (A5 cPt))
  have fq:=fb _ (Dd h2 (A5 cPt))
  show (Alh (E9 Ao Al Cb) Ao Dt ⟨C0 (Cf t),kds a,kds b,(Al a).1,(Al b).1,0+(j:Int),(m:Int)⟩ (E2 t)).sat _
  rw [Int.zero_add]
  unfold Alh
  show (bif decide ((j:Int)<0) then _ else bif decide ((j:Int)>15) then _ else bif decide ((m:Int)<0) then _ else bif decide ((m:Int)>15) then _ else _:Tree Unit).sat _
  rw [decide_eq_false (show ¬ (j:Int)<0 by omega),decide_eq_false (show ¬ (j:Int)>15 by omega),decide_eq_false (show ¬ (m:Int)<0 by omega),decide_eq_false (show ¬ (m:Int)>15 by omega)]
  simp only [cond_false]
  have hall:∀ d ∈ E2 t,Dt (A7 (Al a).1 j (A5 cPt)) (A7 (Al b).1 m (A5 cPt)) d=(false,0):=by
   intro d hd
   refine Prod.ext ?_ (Ac3 fp fq hd)
   unfold ctS at h5
   rw [List.any_eq_false] at h5
   exact Bool.eq_false_iff.2 (h5 d hd)
  have hit:=Aln (c:=⟨C0 (Cf t),kds a,kds b,(Al a).1,(Al b).1,(j:Int),(m:Int)⟩) (po:=E2 t) (j:=j) (m:=m) rfl rfl h1 h2 (by rw [Alt];decide) hall (E2 t).length 0 ((E2 t).length+1) (Nat.zero_add _) (Nat.le_refl _)
  rw [show (0:Int)=((0:Nat):Int) from rfl,hit]
  show (A8z (E9 Ao Al Cb) Ao (C0 (Cf t)) (kds a) (kds b) (Al a).1 (Al b).1 (j:Int) (m:Int)).sat _
  unfold A8z szW
  rw [Ci (by omega),Ci (by omega),Ci (by omega),Ci (by omega),decide_eq_true (show ((Ey (C0 (Cf t))).1.size:Int)≤Aw .i64 from Art t),cond_true,show Int.toNat (j:Int)=j by omega,show Int.toNat (m:Int)=m by omega]
  have hx:Ao (A7 (Al a).1 j (A5 cPt)) (A7 (Al b).1 m (A5 cPt)) a=(false,0):=by
   refine Prod.ext ?_ (Sp fp fq ha.g)
   unfold lnB at h4
   rw [Bool.and_eq_true,Bool.not_eq_true',Bool.not_eq_true'] at h4
   exact h4.1
  have hy:Ao (A7 (Al a).1 j (A5 cPt)) (A7 (Al b).1 m (A5 cPt)) b=(false,0):=by
   refine Prod.ext ?_ (Sp fp fq hb.g)
   unfold lnB at h4
   rw [Bool.and_eq_true,Bool.not_eq_true',Bool.not_eq_true'] at h4
   exact h4.2
  show (A8y (Ao (A7 (Al a).1 j (A5 cPt)) (A7 (Al b).1 m (A5 cPt)) a) (Ao (A7 (Al a).1 j (A5 cPt)) (A7 (Al b).1 m (A5 cPt)) b) (E9 Ao Al Cb (Cf t) a b)).sat _
  rw [hx,hy]
  unfold A8y
  rw [hk]
  exact trivial
 | none =>
  have hal:=Qj hc
  have hk:=A61 (P:=Ao) (a:=a) (b:=b) (po:=E2 t) (lb:=(Al b).1) (Al a).1 0 [] hal
  rw [List.nil_append] at hk
  rw [hk] at hcut
  show (Alj Ao Dt 19 (E9 Ao Al Cb (Cf t) a b) a b (Al a).1 (Al b).1 (E2 t)).sat _
  rw [hcut]
  unfold Alj
  show (Ali (iter (Qm Ao Dt) ((Al a).1.length+1) (Ql ⟨kds a,kds b,(Al a).1,(Al b).1,E2 t,Qk Ao a b (E2 t) (Al b).1 (Al a).1 0⟩ 0 0))).sat _
  have hlen:=A63 (P:=Ao) (a:=a) (b:=b) (po:=E2 t) (lb:=(Al b).1) (Al a).1 0
  rw [la,lb] at hlen
  have g:GdS ⟨kds a,kds b,(Al a).1,(Al b).1,E2 t,Qk Ao a b (E2 t) (Al b).1 (Al a).1 0⟩:={
   lp:=la
   lq:=lb
   ea:=fun j m hj hm=>Sp (fa _ (Dd (by rw [la];exact hj) _)) (fb _ (Dd (by rw [lb];exact hm) _)) ha.g
   eb:=fun j m hj hm=>Sp (fa _ (Dd (by rw [la];exact hj) _)) (fb _ (Dd (by rw [lb];exact hm) _)) hb.g
   ec:=fun j m hj hm d hd=>Ac3 (t:=t) (fa _ (Dd (by rw [la];exact hj) _)) (fb _ (Dd (by rw [lb];exact hm) _)) hd
   al:=hal
   pf:=Nat.le_trans hlen (by decide) }
  have hit:=Alq g 16 0 ((Al a).1.length+1) [] rfl (by rw [la];exact Nat.le_refl _) (by
   show Qk Ao a b (E2 t) (Al b).1 (Al a).1 0=[]++clN _ 0
   rw [List.nil_append]
   unfold clN
   rw [List.drop_zero]
   rfl)
  rw [show Ql ⟨kds a,kds b,(Al a).1,(Al b).1,E2 t,Qk Ao a b (E2 t) (Al b).1 (Al a).1 0⟩ 0 0=Ql ⟨kds a,kds b,(Al a).1,(Al b).1,E2 t,Qk Ao a b (E2 t) (Al b).1 (Al a).1 0⟩ (([]:List Int).length:Int) ((0:Nat):Int) from rfl,hit]
  show (bif (((Qk Ao a b (E2 t) (Al b).1 (Al a).1 0).length:Int)==((Qk Ao a b (E2 t) (Al b).1 (Al a).1 0).length:Int)) then X3 else .fail:Tree Unit).sat _
  rw [beq_self_eq_true]
  exact trivial
theorem B0q {t:Bool} {a b:TCT A1} (ha:Dc9 a) (hb:Dc9 b) (h:¬ Ex a b<0):(X4 t a b).2.2=(X4 t b a).2.2:=by
 rw [A1t (A1s ha hb h),A1t (A1s hb ha (by rw [Aen];exact h))]
 cases hc:Iv Ao a b (E2 t) (Al b).1 (Al a).1 0 with
 | some r =>
  cases hd:Iv Ao b a (E2 t) (Al a).1 (Al b).1 0 with
  | some s=>rfl
  | none=>exact (Na hc (Rn (Qj hd))).elim
 | none =>
  cases hd:Iv Ao b a (E2 t) (Al a).1 (Al b).1 0 with
  | some s=>exact (Na hd (Rn (Qj hc))).elim
  | none=>rfl
theorem Avb {d t:TCT Dm} {r:TCT A8r} {b:Bool} (h1:WFD Dm d) (h2:WFD Dm t) (h3:WFD A8r r):(Aqd W9 (Gd Ao Al Cb) (E9 Ao Al Cb) Al Ao Dt d t r b).sat (fun _=>True):=by
 have ha:=dc9 (r:=r.1) h1 h3.1
 have hb:=dc9 (r:=r.2.1) h2 h3.2.1
 unfold Aqd
 generalize Ox 9000 d r.1=A at *
 generalize Ox 9000 t r.2.1=B at *
 have he:(W9 A B).2=0:=by
  show (bif cdE A==0&&cdE B==0 then 0 else 2:Int)=0
  rw [ha.v,hb.v];rfl
 unfold As3
 rw [he]
 show (bif decide (Ex A B<0) then Alm 0 (X4 b A B).2.2 else All (E9 Ao Al Cb) Ao Dt b A B (Al A) (Al B) (X4 b A B) (X4 b B A):Tree Unit).sat _
 by_cases h:Ex A B<0
 ·rw [decide_eq_true h,Als (Alr h)]
  exact trivial
 ·rw [decide_eq_false h,cond_false]
  obtain ⟨la,fa⟩:=Qf ha.g
  obtain ⟨lb,fb⟩:=Qf hb.g
  unfold All
  rw [ha.g,hb.g,B0q ha hb h,la,lb]
  simp only [bne_self_eq_false,cond_false]
  have:=pp9 (t:=b) ha hb h
  cases b with
  | true=>exact this
  | false=>exact this
end Tp
open Tp St
theorem puSn:Cd Tryz.prog (plSn W9 (Gd Ao Al Cb) (E9 Ao Al Cb) Al Ao Dt):=puOk_cons is_Touch.plain Auw (puOk_cons is_Open.plain Akm (puOk_cons is_Cut.plain Auv (puOk_cons Rg.is_Ring.plain A8m (puOk_cons Rg.is_Passes.plain Akc (puOk_cons is_Cuts.plain Aux (puOk_cons is_works07.plain Aem (puOk_cons is_spot.plain A6d puOk_nil)))))))
noncomputable abbrev Aqj:Ctx:=Mg W9 (Gd Ao Al Cb) (E9 Ao Al Cb) Al Ao Dt
theorem A1u:CtxOk Aqj:=An Am puSn A2
theorem Aya:Av Tryz.prog 4 A8t (fun s=>Au Lb Ro (D5 [.ret,.exit 0] (We Dt) A8u) (fzT [26] (fzB 6 s))):=W2 6 (Yx [26] (Bu (X:=Aqj) A1u 6 _ Lb Ro (fun e=>by cases e <;> exact Nat.le_refl _) [.ret,.exit 0] _ A8u (Ay4 W9 (Gd Ao Al Cb) (E9 Ao Al Cb) Al Ao Dt)))
theorem Ayb:Av Tryz.prog 4 Wc (Au Lc Rp (D5 [.ret,.exit 4] (Nc Ao Dt) A8w)):=Bu (X:=Aqj) A1u 6 _ Lc Rp (fun e=>by cases e <;> exact Nat.le_refl _) [.ret,.exit 4] _ A8w (Ay5 W9 (Gd Ao Al Cb) (E9 Ao Al Cb) Al Ao Dt)
theorem Aep:Ah A1q=[Wc]:=by kernel_rfl
theorem Aqk:keyOf Wc=39:=by kernel_rfl
theorem Ayc:Av Tryz.prog 4 A1q (fun s=>Au Le Rq (D5 [.ret,.exit 2] (Qm Ao Dt) A8x) (fzT [26] s)):=Yx [26] (Oy (X:=Aqj) A1u 6 _ (Alg Ao Dt) (fun d hd f hf=>by
 rw [Aep,List.mem_singleton] at hd
 subst hd
 rw [Aqk] at hf
 cases hf
 exact Ayb) Le Rq (fun e=>by cases e <;> exact (by decide:(1000:Nat)≤2000)) [.ret,.exit 2] _ A8x (Ay8 W9 (Gd Ao Al Cb) (E9 Ao Al Cb) Al Ao Dt))
noncomputable def X_topSeen:Ctx:=Wi W9 (Gd Ao Al Cb) (E9 Ao Al Cb) Al Ao Dt
theorem is_green8:FnIs Tryz.prog (8,Tryz.f8):=⟨Tryz.func8,by kernel_rfl,by kernel_rfl⟩
theorem X_topSeen_ok:CtxOk X_topSeen:=Bt Am puSn (A0 is_TopSeen (A0 is_green8 A2)) (B5 (A3b (ds:=[A8t,A1q,Wc]) (by kernel_rfl) ⟨A0h (k:=22) (by kernel_rfl) rfl Aya,A0h (k:=36) (by kernel_rfl) rfl Ayc,Atb (k:=39) (by kernel_rfl) rfl,trivial⟩) (B5 (By (by kernel_rfl)) Gv))
theorem topSeen_sat:LawSat X_topSeen 4 cs_topSeen 7:=Ajh 7 (fun y=>Aqd W9 (Gd Ao Al Cb) (E9 Ao Al Cb) Al Ao Dt y.1 y.2.1 y.2.2.1 y.2.2.2.1) (Aqe W9 (Gd Ao Al Cb) (E9 Ao Al Cb) Al Ao Dt) fun _ hw=>Avb hw.1 hw.2.1 hw.2.2.1
end V
end Go.Proofs.YtlangijnealfjaaGreat
