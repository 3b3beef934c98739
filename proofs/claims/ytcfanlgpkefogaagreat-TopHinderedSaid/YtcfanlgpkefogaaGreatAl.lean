import Derived.Test.YtcfanlgpkefogaaGreatBA
namespace Go.Proofs.YtcfanlgpkefogaaGreat
open Go.RowKit
namespace V
def pD (nx ny ux uy:Int):Int:=ux*nx+uy*ny
def pE (nx ny ux uy:Int):Int:=uy*nx-ux*ny
def pQ (nx ny:Int):Int:=nx*nx+ny*ny
def pA (nx ny ux uy:Int):Int:=(pD nx ny ux uy).tdiv (pQ nx ny)
def pC (nx ny ux uy:Int):Int:=(pE nx ny ux uy).tdiv (pQ nx ny)
def pX (nx ny ux uy re dr be:Int):Int:=((1000+re)*nx*pA nx ny ux uy-dr*ny*pC nx ny ux uy).tdiv (1000*be)
def pY (nx ny ux uy re dr be:Int):Int:=((1000+re)*ny*pA nx ny ux uy+dr*nx*pC nx ny ux uy).tdiv (1000*be)
structure KFit (nx ny ux uy re dr be:Int):Prop where
 n1 : -8192≤nx
 n2:nx≤8192
 n3 : -8192≤ny
 n4:ny≤8192
 u1 : -16777216000≤ux
 u2:ux≤16777216000
 u3 : -16777216000≤uy
 u4:uy≤16777216000
 r1:0≤re
 r2:re≤950
 d1:0≤dr
 d2:dr≤300
 b1:1≤be
 b2:be≤1000
 q:3515625≤pQ nx ny
theorem C3c (n d _B:Int) (hd:3515625≤d) (h1 : -274877906944000≤n) (h2:n≤274877906944000) : -78187494≤n.tdiv d∧n.tdiv d≤78187494:=by
 have e:(n.tdiv d).natAbs=n.natAbs / d.natAbs:=Int.natAbs_tdiv n d
 have h:n.natAbs / d.natAbs≤274877906944000 / 3515625:=Nat.le_trans (Nat.div_le_div_right (c:=d.natAbs) (show n.natAbs≤274877906944000 by omega)) (Nat.div_le_div_left (show 3515625≤d.natAbs by omega) (by omega))
 have h':(274877906944000:Nat) / 3515625≤78187494:=by decide
 omega
structure KNum (nx ny ux uy re dr be:Int):Prop where
 q:kQ nx ny=pQ nx ny
 d:kD nx ny ux uy=pD nx ny ux uy
 a:kA nx ny ux uy=pA nx ny ux uy
 c:kC nx ny ux uy=pC nx ny ux uy
 x:kX nx ny ux uy re dr be=pX nx ny ux uy re dr be
 y:kY nx ny ux uy re dr be=pY nx ny ux uy re dr be
 x1 : -4611686018427387904≤pX nx ny ux uy re dr be
 x2:pX nx ny ux uy re dr be≤4611686018427387904
 y1 : -4611686018427387904≤pY nx ny ux uy re dr be
 y2:pY nx ny ux uy re dr be≤4611686018427387904
theorem Dd3 {nx ny ux uy re dr be:Int} (h:KFit nx ny ux uy re dr be):KNum nx ny ux uy re dr be:=by
 obtain ⟨n1,n2,n3,n4,u1,u2,u3,u4,r1,r2,d1,d2,b1,b2,hq⟩:=h
 have ⟨a1,a2⟩:=Bb5 (A:=8192) (B:=8192) n1 n2 n1 n2
 have ⟨a3,a4⟩:=Bb5 (A:=8192) (B:=8192) n3 n4 n3 n4
 have eq:kQ nx ny=pQ nx ny:=by
  unfold kQ pQ
  rw [show W64 (nx*nx)=_ from Fp (by omega) (by omega),show W64 (ny*ny)=_ from Fp (by omega) (by omega)]
  exact Fp (by omega) (by omega)
 have ⟨c1,c2⟩:=Bb5 (A:=16777216000) (B:=8192) u1 u2 n1 n2
 have ⟨c3,c4⟩:=Bb5 (A:=16777216000) (B:=8192) u3 u4 n3 n4
 have ⟨c5,c6⟩:=Bb5 (A:=16777216000) (B:=8192) u3 u4 n1 n2
 have ⟨c7,c8⟩:=Bb5 (A:=16777216000) (B:=8192) u1 u2 n3 n4
 have ed:kD nx ny ux uy=pD nx ny ux uy:=by
  unfold kD pD
  rw [show W64 (ux*nx)=_ from Fp (by omega) (by omega),show W64 (uy*ny)=_ from Fp (by omega) (by omega)]
  exact Fp (by omega) (by omega)
 have ⟨A1,A2⟩:=C3c (pD nx ny ux uy) (pQ nx ny) 0 hq (by unfold pD;omega) (by unfold pD;omega)
 have ⟨C1,C2⟩:=C3c (pE nx ny ux uy) (pQ nx ny) 0 hq (by unfold pE;omega) (by unfold pE;omega)
 have ea:kA nx ny ux uy=pA nx ny ux uy:=by
  unfold kA;rw [ed,eq];exact Fp (by omega) (by omega)
 have ec:kC nx ny ux uy=pC nx ny ux uy:=by
  unfold kC
  rw [show W64 (uy*nx)=_ from Fp (by omega) (by omega),show W64 (ux*ny)=_ from Fp (by omega) (by omega),show W64 (uy*nx-ux*ny)=pE nx ny ux uy from Fp (by omega) (by omega),eq]
  exact Fp (by omega) (by omega)
 have hA1 : -78187494≤pA nx ny ux uy:=A1
 have hA2:pA nx ny ux uy≤78187494:=A2
 have hC1 : -78187494≤pC nx ny ux uy:=C1
 have hC2:pC nx ny ux uy≤78187494:=C2
 have ⟨f1,f2⟩:=Bb5 (a:=1000+re) (A:=1950) (B:=8192) (by omega) (by omega) n1 n2
 have ⟨f3,f4⟩:=Bb5 (a:=1000+re) (A:=1950) (B:=8192) (by omega) (by omega) n3 n4
 have ⟨f5,f6⟩:=Bb5 (a:=dr) (A:=300) (B:=8192) (by omega) (by omega) n1 n2
 have ⟨f7,f8⟩:=Bb5 (a:=dr) (A:=300) (B:=8192) (by omega) (by omega) n3 n4
 have ⟨g1,g2⟩:=Bb5 (A:=15974400) (B:=78187494) (a:=(1000+re)*nx) (by omega) (by omega) hA1 hA2
 have ⟨g3,g4⟩:=Bb5 (A:=15974400) (B:=78187494) (a:=(1000+re)*ny) (by omega) (by omega) hA1 hA2
 have ⟨g5,g6⟩:=Bb5 (A:=2457600) (B:=78187494) (a:=dr*nx) (by omega) (by omega) hC1 hC2
 have ⟨g7,g8⟩:=Bb5 (A:=2457600) (B:=78187494) (a:=dr*ny) (by omega) (by omega) hC1 hC2
 have eb:W64 (1000*be)=1000*be:=Fp (by omega) (by omega)
 have er:W64 (1000+re)=1000+re:=Fp (by omega) (by omega)
 have ⟨x1,x2⟩:=C5n ((1000+re)*nx*pA nx ny ux uy-dr*ny*pC nx ny ux uy) (1000*be) 4611686018427387904 (by omega) (by omega) (by omega)
 have ⟨y1,y2⟩:=C5n ((1000+re)*ny*pA nx ny ux uy+dr*nx*pC nx ny ux uy) (1000*be) 4611686018427387904 (by omega) (by omega) (by omega)
 refine ⟨eq,ed,ea,ec,?_,?_,x1,x2,y1,y2⟩
 ·unfold kX
  rw [ea,ec,eb,er,show W64 ((1000+re)*nx)=_ from Fp (by omega) (by omega),show W64 (dr*ny)=_ from Fp (by omega) (by omega),
   show W64 ((1000+re)*nx*pA nx ny ux uy)=_ from Fp (by omega) (by omega),show W64 (dr*ny*pC nx ny ux uy)=_ from Fp (by omega) (by omega),
   show W64 ((1000+re)*nx*pA nx ny ux uy-dr*ny*pC nx ny ux uy)=_ from Fp (by omega) (by omega)]
  exact Fp (by omega) (by omega)
 ·unfold kY
  rw [ea,ec,eb,er,show W64 ((1000+re)*ny)=_ from Fp (by omega) (by omega),show W64 (dr*nx)=_ from Fp (by omega) (by omega),
   show W64 ((1000+re)*ny*pA nx ny ux uy)=_ from Fp (by omega) (by omega),show W64 (dr*nx*pC nx ny ux uy)=_ from Fp (by omega) (by omega),
   show W64 ((1000+re)*ny*pA nx ny ux uy+dr*nx*pC nx ny ux uy)=_ from Fp (by omega) (by omega)]
  exact Fp (by omega) (by omega)
theorem KFit.neg {nx ny ux uy re dr be:Int} (h:KFit nx ny ux uy re dr be):KFit (-nx) ny (-ux) uy re dr be:=by
 obtain ⟨n1,n2,n3,n4,u1,u2,u3,u4,r1,r2,d1,d2,b1,b2,hq⟩:=h
 exact ⟨by omega,by omega,n3,n4,by omega,by omega,u3,u4,r1,r2,d1,d2,b1,b2,by unfold pQ at *;rw [Int.neg_mul_neg];exact hq⟩
end V
end Go.Proofs.YtcfanlgpkefogaaGreat
