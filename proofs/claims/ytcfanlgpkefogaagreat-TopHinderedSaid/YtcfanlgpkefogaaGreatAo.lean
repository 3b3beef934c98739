import Derived.Test.YtcfanlgpkefogaaGreatAn
namespace Go.Proofs.YtcfanlgpkefogaaGreat
open Go.RowKit
namespace V
structure BFit (nx ny ux uy re dr be:Int):Prop where
 n1 : -69632≤nx
 n2:nx≤69632
 n3 : -69632≤ny
 n4:ny≤69632
 u1 : -16777216≤ux
 u2:ux≤16777216
 u3 : -16777216≤uy
 u4:uy≤16777216
 r1:0≤re
 r2:re≤950
 d1:0≤dr
 d2:dr≤300
 b1:1≤be
 b2:be≤1000
 q:880665≤pQ nx ny
theorem By8 (n d _B:Int) (hd:880665≤d) (h1 : -2336462209024≤n) (h2:n≤2336462209024) : -2653065≤n.tdiv d∧n.tdiv d≤2653065:=by
 have e:(n.tdiv d).natAbs=n.natAbs / d.natAbs:=Int.natAbs_tdiv n d
 have h:n.natAbs / d.natAbs≤2336462209024 / 880665:=Nat.le_trans (Nat.div_le_div_right (c:=d.natAbs) (show n.natAbs≤2336462209024 by omega)) (Nat.div_le_div_left (show 880665≤d.natAbs by omega) (by omega))
 have h':(2336462209024:Nat) / 880665≤2653065:=by decide
 omega
theorem Dd7 {nx ny ux uy re dr be:Int} (h:BFit nx ny ux uy re dr be):KNum nx ny ux uy re dr be:=by
 obtain ⟨n1,n2,n3,n4,u1,u2,u3,u4,r1,r2,d1,d2,b1,b2,hq⟩:=h
 have ⟨a1,a2⟩:=Bb5 (A:=69632) (B:=69632) n1 n2 n1 n2
 have ⟨a3,a4⟩:=Bb5 (A:=69632) (B:=69632) n3 n4 n3 n4
 have eq:kQ nx ny=pQ nx ny:=by
  unfold kQ pQ
  rw [show W64 (nx*nx)=_ from Fp (by omega) (by omega),show W64 (ny*ny)=_ from Fp (by omega) (by omega)]
  exact Fp (by omega) (by omega)
 have ⟨c1,c2⟩:=Bb5 (A:=16777216) (B:=69632) u1 u2 n1 n2
 have ⟨c3,c4⟩:=Bb5 (A:=16777216) (B:=69632) u3 u4 n3 n4
 have ⟨c5,c6⟩:=Bb5 (A:=16777216) (B:=69632) u3 u4 n1 n2
 have ⟨c7,c8⟩:=Bb5 (A:=16777216) (B:=69632) u1 u2 n3 n4
 have ed:kD nx ny ux uy=pD nx ny ux uy:=by
  unfold kD pD
  rw [show W64 (ux*nx)=_ from Fp (by omega) (by omega),show W64 (uy*ny)=_ from Fp (by omega) (by omega)]
  exact Fp (by omega) (by omega)
 have ⟨A1,A2⟩:=By8 (pD nx ny ux uy) (pQ nx ny) 0 hq (by unfold pD;omega) (by unfold pD;omega)
 have ⟨C1,C2⟩:=By8 (pE nx ny ux uy) (pQ nx ny) 0 hq (by unfold pE;omega) (by unfold pE;omega)
 have ea:kA nx ny ux uy=pA nx ny ux uy:=by
  unfold kA;rw [ed,eq];exact Fp (by omega) (by omega)
 have ec:kC nx ny ux uy=pC nx ny ux uy:=by
  unfold kC
  rw [show W64 (uy*nx)=_ from Fp (by omega) (by omega),show W64 (ux*ny)=_ from Fp (by omega) (by omega),show W64 (uy*nx-ux*ny)=pE nx ny ux uy from Fp (by omega) (by omega),eq]
  exact Fp (by omega) (by omega)
 have hA1 : -2653065≤pA nx ny ux uy:=A1
 have hA2:pA nx ny ux uy≤2653065:=A2
 have hC1 : -2653065≤pC nx ny ux uy:=C1
 have hC2:pC nx ny ux uy≤2653065:=C2
 have ⟨f1,f2⟩:=Bb5 (a:=1000+re) (A:=1950) (B:=69632) (by omega) (by omega) n1 n2
 have ⟨f3,f4⟩:=Bb5 (a:=1000+re) (A:=1950) (B:=69632) (by omega) (by omega) n3 n4
 have ⟨f5,f6⟩:=Bb5 (a:=dr) (A:=300) (B:=69632) (by omega) (by omega) n1 n2
 have ⟨f7,f8⟩:=Bb5 (a:=dr) (A:=300) (B:=69632) (by omega) (by omega) n3 n4
 have ⟨g1,g2⟩:=Bb5 (A:=135782400) (B:=2653065) (a:=(1000+re)*nx) (by omega) (by omega) hA1 hA2
 have ⟨g3,g4⟩:=Bb5 (A:=135782400) (B:=2653065) (a:=(1000+re)*ny) (by omega) (by omega) hA1 hA2
 have ⟨g5,g6⟩:=Bb5 (A:=20889600) (B:=2653065) (a:=dr*nx) (by omega) (by omega) hC1 hC2
 have ⟨g7,g8⟩:=Bb5 (A:=20889600) (B:=2653065) (a:=dr*ny) (by omega) (by omega) hC1 hC2
 have eb:W64 (1000*be)=1000*be:=Fp (by omega) (by omega)
 have er:W64 (1000+re)=1000+re:=Fp (by omega) (by omega)
 have ⟨x1,x2⟩:=C5n ((1000+re)*nx*pA nx ny ux uy-dr*ny*pC nx ny ux uy) (1000*be) 4611686018427387904 (by omega) (by omega) (by omega)
 have ⟨y1,y2⟩:=C5n ((1000+re)*ny*pA nx ny ux uy+dr*nx*pC nx ny ux uy) (1000*be) 4611686018427387904 (by omega) (by omega) (by omega)
 refine ⟨eq,ed,ea,ec,?_,?_,x1,x2,y1,y2⟩
 ·unfold kX
  rw [ea,ec,eb,er,show W64 ((1000+re)*nx)=_ from Fp (by omega) (by omega),show W64 (dr*ny)=_ from Fp (by omega) (by omega),
   show W64 ((1000+re)*nx*pA nx ny ux uy)=_ from Fp (by omega) (by omega),show W64 (dr*ny*pC nx ny ux uy)=_ from Fp (by omega) (by omega),
   show W64 ((1000+re)*nx*pA nx ny ux uy-dr*ny*pC nx ny ux uy)=_ from Fp (by omega) (by omega)]
  exact Fp (by omega) (by omega)
 ·unfold kY
  rw [ea,ec,eb,er,show W64 ((1000+re)*ny)=_ from Fp (by omega) (by omega),show W64 (dr*nx)=_ from Fp (by omega) (by omega),
   show W64 ((1000+re)*ny*pA nx ny ux uy)=_ from Fp (by omega) (by omega),show W64 (dr*nx*pC nx ny ux uy)=_ from Fp (by omega) (by omega),
   show W64 ((1000+re)*ny*pA nx ny ux uy+dr*nx*pC nx ny ux uy)=_ from Fp (by omega) (by omega)]
  exact Fp (by omega) (by omega)
structure BF (a:Bm) (qx qy q re dr x y:Int):Prop where
 fa:a.Fit
 q1:1≤q
 q2:q≤65536
 cl:sq a.px a.py qx qy≤(a.r+q)*(a.r+q)
 pos:0<dN a qx qy
 fit:BFit (qx-a.px) (qy-a.py) a.mx a.my re dr 1
 kb:KB (qx-a.px) (qy-a.py) a.mx a.my re dr 1
 ke:KEnd (pN1 (qx-a.px) (qy-a.py) a.mx a.my re dr) (pN2 (qx-a.px) (qy-a.py) a.mx a.my re dr) 1 a.mx a.my x y
 hx:x=(kK (qx-a.px) (qy-a.py) a.mx a.my re dr 1).1
 hy:y=(kK (qx-a.px) (qy-a.py) a.mx a.my re dr 1).2
theorem C8g {a:Bm} {qx qy q re dr:Int} {P:Cb0→Prop} (h1:P (Bci,2,())) (h2:P (Bci,5,())) (h3:P (Bci,10,())) (h4:P (Bci,4,()))
  (h5:∀ x y,BF a qx qy q re dr x y→(a.mv (a.mx-x) (a.my-y)).Fit→P (a.moved (a.mx-x) (a.my-y),0,())):P (Bs4 a qx qy q re dr):=by
 unfold Bs4
 cases h:(a.ok&&(Bh9 qx qy q&&Be3 re dr)) with
 | false=>exact h1
 | true =>
  simp only [Bool.and_eq_true] at h
  obtain ⟨ha,hb,hc⟩:=h
  have fa:=Bm.fit ha
  unfold Bh9 at hb
  simp only [Bool.and_eq_true,Bool.not_eq_true'] at hb
  obtain ⟨hp,hq⟩:=hb
  have hq':=Bcj hq
  cases hcl:Bcv a.px a.py qx qy (a.r+q) with
  | false=>exact h2
  | true =>
   by_cases hd:dN a qx qy≤0
   ·rw [decide_eq_true hd];exact h3
   ·rw [decide_eq_false hd]
    unfold Bcv at hcl
    obtain ⟨g1,g2⟩:=of_decide_eq_true hcl
    unfold Be3 at hc
    simp only [Bool.and_eq_true,Bool.not_eq_true'] at hc
    have e1:=Bcj hc.1
    have e2:=Bcj hc.2
    have c1:=fa.r1;have c2:=fa.r2
    have s1:(a.r+q)*(a.r+q)≤69632*69632:=Bdr (by omega) (by omega)
    have s2:1001*1001≤(a.r+q)*(a.r+q):=Bdr (by omega) (by omega)
    have hsum:sq a.px a.py qx qy=(qx-a.px)*(qx-a.px)+(qy-a.py)*(qy-a.py):=rfl
    have x0:=Bf6 (qx-a.px)
    have y0:=Bf6 (qy-a.py)
    obtain ⟨x1,x2⟩:=Bhr (a:=qx-a.px) (b:=69632) (by omega) (by omega)
    obtain ⟨y1,y2⟩:=Bhr (a:=qy-a.py) (b:=69632) (by omega) (by omega)
    have F:BFit (qx-a.px) (qy-a.py) a.mx a.my re dr 1:=⟨x1,x2,y1,y2,fa.mx1,fa.mx2,fa.my1,fa.my2,e1.1,e1.2,e2.1,e2.2,by omega,by omega,by unfold pQ;omega⟩
    have kb:KB (qx-a.px) (qy-a.py) a.mx a.my re dr 1:=⟨Dd7 F,by have:=F.q;omega,e1.1,e1.2,e2.1,e2.2,by omega,by omega,by have:=fa.mx1;omega,by have:=fa.mx2;omega,by have:=fa.my1;omega,by have:=fa.my2;omega⟩
    have ke:=D1f kb
    have k1:=ke.x1;have k2:=ke.x2;have k3:=ke.y1;have k4:=ke.y2
    have a1:=fa.mx1;have a2:=fa.mx2;have a3:=fa.my1;have a4:=fa.my2
    rw [show W64 (a.mx-(kK (qx-a.px) (qy-a.py) a.mx a.my re dr 1).1)=_ from Fp (by omega) (by omega),show W64 (a.my-(kK (qx-a.px) (qy-a.py) a.mx a.my re dr 1).2)=_ from Fp (by omega) (by omega)]
    cases s:Bb3 (a.mx-(kK (qx-a.px) (qy-a.py) a.mx a.my re dr 1).1) (a.my-(kK (qx-a.px) (qy-a.py) a.mx a.my re dr 1).2) with
    | false=>exact h4
    | true=>exact h5 _ _ ⟨fa,hq'.1,hq'.2,g1,by omega,F,kb,ke,rfl,rfl⟩ (C8f fa s)
end V
end Go.Proofs.YtcfanlgpkefogaaGreat
