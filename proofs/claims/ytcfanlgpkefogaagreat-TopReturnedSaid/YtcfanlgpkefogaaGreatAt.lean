import Derived.Test.YtcfanlgpkefogaaGreatBA
import Derived.Test.YtcfanlgpkefogaaGreatNd
import Derived.Test.YtcfanlgpkefogaaGreatAg
import Derived.Test.YtcfanlgpkefogaaGreatFo
import Derived.Test.YtcfanlgpkefogaaGreatAk
namespace Go.Proofs.YtcfanlgpkefogaaGreat
open Go.RowKit
namespace V
def pQ (nx ny:Int):Int:=nx*nx+ny*ny
structure KFit (nx ny ux uy re dr be:Int):Prop where
 n1 : -8192≤nx
 n2:nx≤8192
 n3 : -8192≤ny
 n4:ny≤8192
 u1 : -16777216000≤ux
 u2:ux≤16777216000
 u3 : -16777216000≤uy
 u4:uy≤16777216000
 r1:0≤re
 r2:re≤950
 d1:0≤dr
 d2:dr≤300
 b1:1≤be
 b2:be≤1000
 q:3515625≤pQ nx ny
theorem KFit.neg {nx ny ux uy re dr be:Int} (h:KFit nx ny ux uy re dr be):KFit (-nx) ny (-ux) uy re dr be:=by
 obtain ⟨n1,n2,n3,n4,u1,u2,u3,u4,r1,r2,d1,d2,b1,b2,hq⟩:=h
 exact ⟨by omega,by omega,n3,n4,by omega,by omega,u3,u4,r1,r2,d1,d2,b1,b2,by unfold pQ at *;rw [Int.neg_mul_neg];exact hq⟩
end V
end Go.Proofs.YtcfanlgpkefogaaGreat
namespace Go.Proofs.YtcfanlgpkefogaaGreat
open Go.RowKit
namespace V
theorem A8b (a:Int):0≤a*a:=by rw [← Int.natAbs_mul_self' a];exact Int.natCast_nonneg _
end V
end Go.Proofs.YtcfanlgpkefogaaGreat
namespace Go.Proofs.YtcfanlgpkefogaaGreat
open Go.RowKit
namespace V
end V
end Go.Proofs.YtcfanlgpkefogaaGreat
namespace Go.Proofs.YtcfanlgpkefogaaGreat
open Go.RowKit
namespace V
end V
end Go.Proofs.YtcfanlgpkefogaaGreat
namespace Go.Proofs.YtcfanlgpkefogaaGreat
open Go.RowKit
namespace V
namespace St
theorem Aqe {l:TCT A5} {j:Nat} {T st:Int} {s s':S2} (e:lvE l T st j s=.inl s'):s'.1.length=s.1.length:=by
 unfold lvE at e
 cases e1:Bc s.2.1 j (B7 .b) with
 | true=>rw [e1] at e;cases e;rfl
 | false =>
  rw [e1] at e
  cases e2:onB l (A8 s.1 j).1 with
  | true=>rw [e2] at e;cases e;rfl
  | false=>rw [e2] at e;cases e;exact Bw _ _ _
theorem Aqf {bl:List (TCT A3)} {os:List Bool} {i:Nat} {ms ms':Ax} (e:stE bl os i ms=.inl ms'):ms'.length=ms.length:=by
 unfold stE at e
 cases h1:!Cf ms os i with
 | true=>rw [h1] at e;cases e;rfl
 | false =>
  rw [h1] at e
  cases h3:(N3 (E6 bl i) (A8 ms i)).2.1 != 0 with
  | true=>rw [h3] at e;cases e
  | false=>rw [h3] at e;cases e;exact Bw _ _ _
theorem Aqg {bl:List (TCT A3)} {l:TCT A5} {n:Nat} {T st:Int} {s s':S2} (e:mvF bl l T st n s=.inl s'):s'.1.length=s.1.length:=by
 unfold mvF at e
 cases e1:B6 (stE bl s.2.1) 0 n s.1 with
 | inr x=>rw [e1] at e;cases e
 | inl ms =>
  rw [e1] at e
  have h1:ms.length=s.1.length:=Bf (n:=n) (Inv:=fun _ (x:Ax)=>x.length=s.1.length) (fun j x x' _ hx h3=>(Aqf h3).trans hx) n 0 s.1 ms (by omega) rfl e1
  have h2:B6 (lvE l T st) 0 n (ms,s.2.1,s.2.2)=.inl s':=e
  exact Bf (n:=n) (Inv:=fun _ (x:S2)=>x.1.length=s.1.length) (fun j x x' _ hx h3=>(Aqe h3).trans hx) n 0 (ms,s.2.1,s.2.2) s' (by omega) h1 h2
theorem Aqh {b:TCT A3} {c:TCT Co} {ps:Dss} {os:List Bool} {w fl t st:Int} {j k:Nat} {s:MK}:(∀ s',bpE b c ps os w fl t st j k s=.inl s'→s'.1.length=s.1.length)∧(∀ s',bpE b c ps os w fl t st j k s=.inr (.inl s')→s'=s):=by
 unfold bpE
 cases e1:!Cf s.1 os j||F9 w fl j with
 | true=>exact ⟨(fun s' h=>by cases h),(fun s' h=>by cases h;rfl)⟩
 | false =>
  simp only [cond_false]
  cases e2:(bmV b (A8 s.1 j) (Fi ps k) c).2.1==0 with
  | true=>exact ⟨(fun s' h=>by cases h;exact Bw _ _ _),(fun s' h=>by cases h)⟩
  | false =>
   simp only [cond_false]
   cases e3:(bmV b (A8 s.1 j) (Fi ps k) c).2.1==4 with
   | true=>exact ⟨(fun s' h=>by cases h),(fun s' h=>by cases h)⟩
   | false=>exact ⟨(fun s' h=>by cases h;rfl),(fun s' h=>by cases h)⟩
theorem A8c {b:TCT A3} {c:TCT Co} {ps:Dss} {os:List Bool} {w fl t st:Int} {j:Nat}:∀ (m k:Nat) (s s':MK),Xk (B6 (bpE b c ps os w fl t st j) k m s)=.inl s'→s'.1.length=s.1.length
 | 0,k,s,s',e=>by cases e;rfl
 | m+1,k,s,s',e=>by
  unfold B6 at e
  have a:=Aqh (b:=b) (c:=c) (ps:=ps) (os:=os) (w:=w) (fl:=fl) (t:=t) (st:=st) (j:=j) (k:=k) (s:=s)
  cases hf:bpE b c ps os w fl t st j k s with
  | inl t1=>rw [hf] at e;exact (A8c m (k+1) t1 s' e).trans (a.1 t1 hf)
  | inr y =>
   rw [hf] at e
   cases y with
   | inl t1 =>
    have e':=a.2 t1 hf
    subst e'
    cases e
    rfl
   | inr x=>cases e
theorem Aqi {bl:List (TCT A3)} {c:TCT Co} {ps:Dss} {n:Nat} {w fl t st:Int} {s:S2} {s':MK} (e:buF bl c ps t st w fl n s=.inl s'):s'.1.length=s.1.length:=by
 unfold buF at e
 exact Bf (n:=n) (Inv:=fun _ (x:MK)=>x.1.length=s.1.length) (fun j x x' _ hx h3=>(A8c ps.length 0 x x' h3).trans hx) n 0 (s.1,s.2.2) s' (by omega) rfl e
end St
end V
end Go.Proofs.YtcfanlgpkefogaaGreat
namespace Go.Proofs.YtcfanlgpkefogaaGreat
open Go.RowKit
namespace V
namespace Tp
open St
noncomputable def Aho:Code:=(As (bodyOf Tryz.f4)).getD 0 .skip
end Tp
open Tp
end V
end Go.Proofs.YtcfanlgpkefogaaGreat
namespace Go.Proofs.YtcfanlgpkefogaaGreat
open Go.RowKit
namespace V
namespace Tp
open St
end Tp
open Tp
end V
end Go.Proofs.YtcfanlgpkefogaaGreat
namespace Go.Proofs.YtcfanlgpkefogaaGreat
open Go.RowKit
namespace V
namespace St
def frS (b:TCT A3) (o:Bool) (m:TCT Bd):TCT Bd:=bif !o&&Rl m then (N3 b m).1 else m
def frK (b:TCT A3) (o:Bool) (m:TCT Bd):Prop:=(!o&&Rl m)=true→(N3 b m).2.1=0
structure FrI (bl:List (TCT A3)) (os:List Bool) (ms:Ax) (i:Nat) (x:Ax):Prop where
 l:x.length=ms.length
 a:∀ j:Nat,j<i→A8 x j=frS (E6 bl j) (Ci os j) (A8 ms j)∧frK (E6 bl j) (Ci os j) (A8 ms j)
 b:∀ j:Nat,i≤j→A8 x j=A8 ms j
theorem Ahp {ms:Ax} {os:List Bool} {i:Nat}:Cf ms os i=(!Ci os i&&Rl (A8 ms i)):=rfl
theorem Aqj {bl:List (TCT A3)} {os:List Bool} {n:Nat} {ms ms':Ax} (hn:ms.length=n) (h:B6 (stE bl os) 0 n ms=.inl ms'):FrI bl os ms n ms' :=
 Bf (n:=n) (Inv:=fun i (x:Ax)=>FrI bl os ms i x) (fun i x x' hi q e=>by
  unfold stE at e
  have ql:=q.l
  have eb:=q.b i (Nat.le_refl _)
  rw [Ahp,eb] at e
  cases h1:(!Ci os i&&Rl (A8 ms i)) with
  | false =>
   rw [h1] at e
   cases e
   refine ⟨q.l,fun j hj=>?_,fun j hj=>q.b j (by omega)⟩
   by_cases e1:j=i
   ·subst e1
    refine ⟨?_,fun h2=>by rw [h1] at h2;cases h2⟩
    unfold frS
    rw [h1];exact eb
   ·exact q.a j (by omega)
  | true =>
   rw [h1] at e
   simp only [Bool.not_true,cond_false] at e
   cases h3:(N3 (E6 bl i) (A8 ms i)).2.1 != 0 with
   | true=>rw [h3] at e;cases e
   | false =>
    rw [h3] at e
    cases e
    refine ⟨(Bw _ _ _).trans q.l,fun j hj=>?_,fun j hj=>?_⟩
    ·by_cases e1:j=i
     ·subst e1
      refine ⟨?_,fun _=>bne_eq_false_iff_eq.1 h3⟩
      unfold frS
      rw [h1,Gj (by omega) rfl];rfl
     ·rw [Ex e1];exact q.a j (by omega)
    ·rw [Ex (by omega)];exact q.b j (by omega)) n 0 ms ms' (by omega) ⟨rfl,fun j hj=>absurd hj (Nat.not_lt_zero j),fun _ _=>rfl⟩ h
def slS (l:TCT A5) (o:Bool) (f:Bool) (m:TCT Bd):TCT Bd:=bif (!o&&Rl m)&&!f then A9o l m else m
def slK (l:TCT A5) (o:Bool) (f:Bool) (m:TCT Bd):Prop:=((!o&&Rl m)&&!f)=true→G5 l m.1=0∧(M9 l m).2.1=0
structure SlI (l:TCT A5) (os:List Bool) (w fl:Int) (ms:Ax) (i:Nat) (x:Ax):Prop where
 ll:x.length=ms.length
 a:∀ j:Nat,j<i→A8 x j=slS l (Ci os j) (F9 w fl j) (A8 ms j)∧slK l (Ci os j) (F9 w fl j) (A8 ms j)
 b:∀ j:Nat,i≤j→A8 x j=A8 ms j
theorem B9f {a b:Bool}:(!a||b)=!(a&&!b):=by cases a <;> cases b <;> rfl
theorem Aqk {l:TCT A5} {os:List Bool} {w fl:Int} {n:Nat} {ms ms':Ax} (hn:ms.length=n) (h:B6 (slE l os w fl) 0 n ms=.inl ms'):SlI l os w fl ms n ms' :=
 Bf (n:=n) (Inv:=fun i (x:Ax)=>SlI l os w fl ms i x) (fun i x x' hi q e=>by
  unfold slE at e
  have ql:=q.ll
  have eb:=q.b i (Nat.le_refl _)
  rw [Ahp,eb,B9f] at e
  cases h1:((!Ci os i&&Rl (A8 ms i))&&!F9 w fl i) with
  | false =>
   rw [h1] at e
   cases e
   refine ⟨q.ll,fun j hj=>?_,fun j hj=>q.b j (by omega)⟩
   by_cases e1:j=i
   ·subst e1
    refine ⟨?_,fun h2=>by rw [h1] at h2;cases h2⟩
    unfold slS
    rw [h1];exact eb
   ·exact q.a j (by omega)
  | true =>
   rw [h1] at e
   simp only [Bool.not_true,cond_false] at e
   cases h2:G5 l (A8 ms i).1 != 0 with
   | true=>rw [h2] at e;cases e
   | false =>
    rw [h2] at e
    cases h3:(M9 l (A8 ms i)).2.1 != 0 with
    | true=>rw [h3] at e;cases e
    | false =>
     rw [h3] at e
     cases e
     refine ⟨(Bw _ _ _).trans q.ll,fun j hj=>?_,fun j hj=>?_⟩
     ·by_cases e1:j=i
      ·subst e1
       refine ⟨?_,fun _=>⟨bne_eq_false_iff_eq.1 h2,bne_eq_false_iff_eq.1 h3⟩⟩
       unfold slS
       rw [h1,Gj (by omega) rfl];rfl
      ·rw [Ex e1];exact q.a j (by omega)
     ·rw [Ex (by omega)];exact q.b j (by omega)) n 0 ms ms' (by omega) ⟨rfl,fun j hj=>absurd hj (Nat.not_lt_zero j),fun _ _=>rfl⟩ h
end St
end V
end Go.Proofs.YtcfanlgpkefogaaGreat
