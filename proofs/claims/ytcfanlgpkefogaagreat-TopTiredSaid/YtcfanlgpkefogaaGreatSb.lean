import Derived.Test.YtcfanlgpkefogaaGreatSa
namespace Go.Proofs.YtcfanlgpkefogaaGreat
open Go.RowKit
namespace V
abbrev Bfk:TC:=.st [cI,cI]
abbrev SS:=List (TCT Baw)×List (TCT Bfk)
def bAt (l:List (TCT Fq)) (o:List (TCT Baw)) (i:Nat):Bm:=bm (Bas l i (Bap Fq)) (Bas o i (Bap Baw))
@[irreducible] def Bd8 (l:List (TCT Fq)) (re dr:Int) (i k:Nat) (s:SS):Option SS :=
 bif (Bb9 (bAt l s.1 i) (bAt l s.1 k) re dr).2.2.1==0 then some (Bb8 (Bb8 s.1 i (Bb9 (bAt l s.1 i) (bAt l s.1 k) re dr).1) k (Bb9 (bAt l s.1 i) (bAt l s.1 k) re dr).2.1,s.2++[((i:Int),(k:Int),())]) else
 bif (Bb9 (bAt l s.1 i) (bAt l s.1 k) re dr).2.2.1==4 then none else some s
def inR (l:List (TCT Fq)) (re dr:Int) (i:Nat):Nat→Nat→SS→Option SS
 | 0,_,s=>some s
 | f+1,k,s=>(Bd8 l re dr i k s).bind fun s'=>inR l re dr i f (k+1) s'
def Bff (l:List (TCT Fq)) (re dr:Int):Nat→Nat→SS→Option SS
 | 0,_,s=>some s
 | f+1,i,s=>(inR l re dr i (l.length-(i+1)) (i+1) s).bind fun s'=>Bff l re dr f (i+1) s'
def okS (x:Option SS):Bool:=match x with
 | some _=>true
 | none=>false
def Bz1 (x:Option SS):SS:=match x with
 | some s=>s
 | none=>([],[])
theorem Bbb {β:Type} (l:List β) (i:Nat) (x:β):(Bb8 l i x).length=l.length:=by rw [Bbf];simp
theorem Cdi {l:List (TCT Fq)} {re dr:Int} {i k:Nat} {s s':SS} (h:Bd8 l re dr i k s=some s'):s'.1.length=s.1.length∧s'.2.length≤s.2.length+1:=by
 unfold Bd8 at h
 cases h1:(Bb9 (bAt l s.1 i) (bAt l s.1 k) re dr).2.2.1==0 with
 | true =>
  rw [h1] at h
  simp only [cond_true,Option.some.injEq] at h
  subst h
  simp [Bbb]
 | false =>
  rw [h1,cond_false] at h
  cases h2:(Bb9 (bAt l s.1 i) (bAt l s.1 k) re dr).2.2.1==4 with
  | true=>rw [h2] at h;simp at h
  | false=>rw [h2] at h;simp only [cond_false,Option.some.injEq] at h;subst h;exact ⟨rfl,by omega⟩
theorem Cat {l:List (TCT Fq)} {re dr:Int} {i:Nat} (f:Nat):∀ (k:Nat) (s s':SS),inR l re dr i f k s=some s'→s'.1.length=s.1.length∧s'.2.length≤s.2.length+f:=by
 induction f with
 | zero=>intro k s s' h;rw [inR,Option.some.injEq] at h;subst h;exact ⟨rfl,by omega⟩
 | succ f ih =>
  intro k s s' h
  rw [inR] at h
  cases h1:Bd8 l re dr i k s with
  | none=>rw [h1] at h;simp at h
  | some s1 =>
   rw [h1,Option.bind_some] at h
   have a:=Cdi h1
   have b:=ih (k+1) s1 s' h
   exact ⟨b.1.trans a.1,by omega⟩
noncomputable def Bk4:LK:={ id:=10,keys:=[3,5,6,7,8,11,12],ks:=[.p 0 0 0 0,.p 1 0 0 0,.p 2 0 0 0,.p 3 0 0 0,.p 4 0 0 0,.p 6 0 0 0,.p 7 0 0 0],n:=80,fn:=99,params:=[34,35],assign:=(rangeAt Tryz.f99 0).1,body:=(rangeAt Tryz.f99 0).2,df:=9,st:=some 0 }
noncomputable def Bx1:LK:={ id:=10,keys:=[],ks:=[],n:=80,fn:=99,params:=[34,35],assign:=(rangeAt Tryz.f99 0).1,body:=(rangeAt Tryz.f99 0).2,df:=9,st:=some 1 }
def Clp:List BK:=[(0,37,[.d (.sl Fq)]),(1,39,[.d cI,.d cI]),(2,42,[.d (.sl Baw)]),(3,189,[.d (.sl Bfk)]),(4,49,[.d cI]),(6,42,[.o 60 Baw]),(7,189,[.o 120 Bfk]),(8,3,[.d cI])]
def D4m:List BK:=[(2,42,[.d (.sl Baw)]),(3,189,[.d (.sl Bfk)]),(4,49,[.d cI])]
noncomputable def Bma:Lay2:={ keys:=[0,1,3,4,5,6],ks:=[.y 10,.p 8 0 0 0,.d cI,.d cI,.d cI,.d cI],bs:=Clp,ls:=[Bk4],n:=22,nx:=1000,marks:=[],ds:=[9] }
noncomputable def Bmw:Lay2:={ keys:=[0,1,5,6],ks:=[.y 10,.p 8 0 0 0,.d cI,.d cI],bs:=Clp,ls:=[Bk4],n:=22,nx:=900,marks:=[],ds:=[9] }
noncomputable def D09:Lay2:={ keys:=[],ks:=[],bs:=D4m,ls:=[Bx1],n:=22,nx:=1000,marks:=[],ds:=[9] }
noncomputable def Bt8:XE→Lay2:=fun e=>match e with | .ret=>D09 | _=>Bma
noncomputable def Bvt:XE→Lay2:=fun e=>match e with | .ret=>D09 | _=>Bmw
noncomputable def Bx2:Code:=(Ban (bodyOf Tryz.f152)).getD 1 .skip
noncomputable def C2y:Code:=(Ban (bodyOf Tryz.f152)).getD 0 .skip
structure Cm where
 l:List (TCT Fq)
 re:Int
 dr:Int
 r1:List (TCT Baw)
 r2:List (TCT Bfk)
 r3:Int
 m:Int
abbrev BSe:=BTs Clp
def bSe (c:Cm) (s:SS):BSe:=((c.l,()),(c.re,c.dr,()),(c.r1,()),(c.r2,()),(c.r3,()),(s.1,()),(s.2,()),(c.m,()),())
abbrev lSe:LTs [Bk4]:=(((((),(),(),(),(),(),(),()):SKTs Bk4.ks),((():Unit):StT Bk4.st)),())
abbrev lSr:LTs [Bx1]:=((((():Unit):SKTs Bx1.ks),((():Unit):StT Bx1.st)),())
def Ig (i k n j:Int) (c:Cm) (s:SS):Bma.T:=(((),(),i,k,n,j,()),bSe c s,lSe)
def Og (n j:Int) (c:Cm) (s:SS):Bmw.T:=(((),(),n,j,()),bSe c s,lSe)
def Rs (e:Int):D09.T:=((),(([],()),([],()),(e,()),()),lSr)
def Bz2 (l:List (TCT Fq)) (o:List (TCT Baw)) (re dr:Int) (i k:Int):C7f:=Bb9 (bAt l o i.toNat) (bAt l o k.toNat) re dr
def C2z (i k n j:Int) (c:Cm) (s:SS):Tree (Bma.T⊕Bep Bt8) :=
 bif decide (k<c.m) then
 bif decide (0≤i∧i<(c.l.length:Int)) then bif decide (0≤i∧i<(s.1.length:Int)) then bif decide (i.toNat<s.1.length) then
 bif decide (0≤k∧k<(c.l.length:Int)) then bif decide (0≤k∧k<(s.1.length:Int)) then bif decide (k.toNat<s.1.length) then
 bif (Bz2 c.l s.1 c.re c.dr i k).2.2.1==0 then
  bif decide (0≤i∧i<(s.1.length:Int)) then bif decide (i.toNat<s.1.length) then
  bif decide (0≤k∧k<((Bb8 s.1 i.toNat (Bz2 c.l s.1 c.re c.dr i k).1).length:Int)) then bif decide (k.toNat<(Bb8 s.1 i.toNat (Bz2 c.l s.1 c.re c.dr i k).1).length) then
  bif Bd9 s.2 [(i,k,())] 16 then
   .need (Bl5 [Bk4]) (.leaf (.inl (Ig i (W64 (k+1)) n j c (Bb8 (Bb8 s.1 i.toNat (Bz2 c.l s.1 c.re c.dr i k).1) k.toNat (Bz2 c.l s.1 c.re c.dr i k).2.1,s.2++[(i,k,())])))) else .fail else .fail else .fail else .fail else .fail
 else bif (Bz2 c.l s.1 c.re c.dr i k).2.2.1==4 then .need (Bl5 [Bx1]) (.leaf (.inr ⟨.ret,Rs (Bz2 c.l s.1 c.re c.dr i k).2.2.1⟩)) else .need (Bl5 [Bk4]) (.leaf (.inl (Ig i (W64 (k+1)) n j c s)))
 else .fail else .fail else .fail else .fail else .fail else .fail
 else .need (Bl5 [Bk4]) (.leaf (.inr ⟨.exit 2,Ig i k n j c s⟩))
def cmI (g:Bma.T):Cm:=⟨g.2.1.1.1,g.2.1.2.1.1,g.2.1.2.1.2.1,g.2.1.2.2.1.1,g.2.1.2.2.2.1.1,g.2.1.2.2.2.2.1.1,g.2.1.2.2.2.2.2.2.2.1.1⟩
def ssI (g:Bma.T):SS:=(g.2.1.2.2.2.2.2.1.1,g.2.1.2.2.2.2.2.2.1.1)
def plBn:List (Nat×PureT):=[(136,C3g)]
theorem puBn:Bc7 Tryz.prog plBn:=puOk_cons is_Bounce.plain Cmn puOk_nil
noncomputable def Byq:Ctx:=ctx Tryz.prog plBn [(99,Tryz.f99)]
theorem D7n (g:Bma.T):evC Tryz.prog (Bcx Byq 7) Byq.pures 152 Byq.u (fun _=>none) Bx2 (Bma.of g) (Bhq Bma Bt8)=C2z g.1.2.2.1 g.1.2.2.2.1 g.1.2.2.2.2.1 g.1.2.2.2.2.2.1 (cmI g) (ssI g):=by kernel_rfl
theorem Ct1 (l:List (TCT Fq)) (o:List (TCT Baw)) (re dr i k:Int):Bz2 l o re dr i k=Bb9 (bAt l o i.toNat) (bAt l o k.toNat) re dr:=by unfold Bz2;exact Eq.refl _
theorem D4n {β:Type} {h:List β} {x:β} (k:h.length≤1000000):Bd9 h [x] 16=true:=by
 rw [Be2]
 refine decide_eq_true ?_
 simp only [List.length_cons,List.length_nil]
 omega
def okI (i k:Int) (c:Cm) (s:SS):Bool:=decide (0≤i∧i<(c.l.length:Int)∧i+1≤k∧k≤c.m∧c.m=(c.l.length:Int)∧c.l.length≤1000∧s.1.length=c.l.length∧s.2.length+(c.m-k).toNat≤1000000)
def Ct2 (i k n j:Int) (c:Cm) (s:SS):Tree (Bep Bt8) :=
 .br (okI i k c s) (.br (okS (inR c.l c.re c.dr i.toNat (c.m-k).toNat k.toNat s)) (.leaf ⟨.exit 2,Ig i c.m n j c (Bz1 (inR c.l c.re c.dr i.toNat (c.m-k).toNat k.toNat s))⟩) (.leaf ⟨.ret,Rs 4⟩)) .fail
def Bz3 (g:Bma.T):Tree (Bep Bt8):=Ct2 g.1.2.2.1 g.1.2.2.2.1 g.1.2.2.2.2.1 g.1.2.2.2.2.2.1 (cmI g) (ssI g)
theorem Clq (l:List (TCT Fq)) (re dr:Int) (i f k:Nat) (s:SS):inR l re dr i (f+1) k s=(Bd8 l re dr i k s).bind fun s'=>inR l re dr i f (k+1) s':=rfl
theorem Ct3 {step:Bma.T→Tree (Bma.T⊕Bep Bt8)} (hs:∀ i k n j c s,step (Ig i k n j c s)=C2z i k n j c s) (R:Bep Bt8→Prop) (i n j:Int) (c:Cm) (hi:0≤i) (hil:i<(c.l.length:Int)) (hm:c.m=(c.l.length:Int)) (hl:c.l.length≤1000) (f:Nat) :
  ∀ (k:Int) (s:SS),i+1≤k→c.m-k=f→s.1.length=c.l.length→s.2.length+f≤1000000→(okS (inR c.l c.re c.dr i.toNat f k.toNat s)=true→R ⟨.exit 2,Ig i c.m n j c (Bz1 (inR c.l c.re c.dr i.toNat f k.toNat s))⟩) →
   (okS (inR c.l c.re c.dr i.toNat f k.toNat s)=false→R ⟨.ret,Rs 4⟩)→C45 Bma Bt8 step R (f+1) (Ig i k n j c s):=by
 induction f with
 | zero =>
  intro k s _ hk _ _ h1 _
  have e:k=c.m:=by omega
  subst e
  intro _
  rw [hs]
  unfold C2z
  rw [decide_eq_false (show ¬ c.m<c.m by omega)]
  exact ⟨Beo _,fun _=>h1 rfl⟩
 | succ f ih =>
  intro k s hik hk hsl hsh h1 h2
  intro _
  rw [hs]
  unfold C2z
  rw [Clq] at h1 h2
  have hlt:k<(c.l.length:Int):=by omega
  have hkn:((k.toNat:Nat):Int)=k:=by omega
  have hin:((i.toNat:Nat):Int)=i:=by omega
  rw [Ct1,decide_eq_true (show k<c.m by omega),decide_eq_true (show 0≤i∧i<(c.l.length:Int) from ⟨hi,hil⟩),decide_eq_true (show 0≤i∧i<(s.1.length:Int) by omega),decide_eq_true (show i.toNat<s.1.length by omega),
   decide_eq_true (show 0≤k∧k<(c.l.length:Int) by omega),decide_eq_true (show 0≤k∧k<(s.1.length:Int) by omega),decide_eq_true (show k.toNat<s.1.length by omega),Bbb,decide_eq_true (show 0≤k∧k<(s.1.length:Int) by omega),decide_eq_true (show k.toNat<s.1.length by omega),
   D4n (show s.2.length≤1000000 by omega),show W64 (k+1)=k+1 from Fp (by omega) (by omega)]
  have hkt:(k+1).toNat=k.toNat+1:=by omega
  cases e1:(Bb9 (bAt c.l s.1 i.toNat) (bAt c.l s.1 k.toNat) c.re c.dr).2.2.1==0 with
  | true =>
   have hst:Bd8 c.l c.re c.dr i.toNat k.toNat s=some (Bb8 (Bb8 s.1 i.toNat (Bb9 (bAt c.l s.1 i.toNat) (bAt c.l s.1 k.toNat) c.re c.dr).1) k.toNat (Bb9 (bAt c.l s.1 i.toNat) (bAt c.l s.1 k.toNat) c.re c.dr).2.1,s.2++[(i,k,())]):=by
    unfold Bd8;rw [e1,hkn,hin];rfl
   rw [hst,Option.bind_some] at h1 h2
   refine ⟨Beo _,ih (k+1) _ (by omega) (by omega) (by simp only [Bbb];exact hsl) (by simp only [List.length_append,List.length_cons,List.length_nil];omega) ?_ ?_⟩
   ·rw [hkt];exact h1
   ·rw [hkt];exact h2
  | false =>
   cases e2:(Bb9 (bAt c.l s.1 i.toNat) (bAt c.l s.1 k.toNat) c.re c.dr).2.2.1==4 with
   | true =>
    have hst:Bd8 c.l c.re c.dr i.toNat k.toNat s=none:=by unfold Bd8;rw [e1,e2];rfl
    rw [hst] at h2
    refine ⟨Beo _,fun _=>?_⟩
    have:=h2 rfl
    rwa [← eq_of_beq e2] at this
   | false =>
    have hst:Bd8 c.l c.re c.dr i.toNat k.toNat s=some s:=by unfold Bd8;rw [e1,e2];rfl
    rw [hst,Option.bind_some] at h1 h2
    refine ⟨Beo _,ih (k+1) _ (by omega) (by omega) hsl (by omega) ?_ ?_⟩
    ·rw [hkt];exact h1
    ·rw [hkt];exact h2
theorem puSe_ok:CtxOk Byq:=Baq Bao puBn (fns_cons ⟨Tryz.func99,by kernel_rfl,by kernel_rfl⟩ V1)
theorem D7o:Bb0 Tryz.prog 152 Bx2 (Bhr Bma Bt8 Bz3):=by
 refine Bun puSe_ok 7 152 (fun _=>none) (fun _ _ f h=>by simp at h) Bma Bt8 (fun e=>by cases e <;> exact Nat.le_refl _) Bz3 (fun g=>C2z g.1.2.2.1 g.1.2.2.2.1 g.1.2.2.2.2.1 g.1.2.2.2.2.2.1 (cmI g) (ssI g)) D7n ?_
 intro g R _ hf
 obtain ⟨hf,h0⟩:=hf
 cases hc:okI g.1.2.2.1 g.1.2.2.2.1 (cmI g) (ssI g) with
 | false=>exact (h0 hc).elim
 | true =>
  obtain ⟨h1,h2⟩:=hf hc
  obtain ⟨k1,k2,k3,k4,k5,k6,k7,k8⟩:=of_decide_eq_true hc
  exact ⟨_,Ct3 (fun _ _ _ _ _ _=>rfl) R g.1.2.2.1 g.1.2.2.2.2.1 g.1.2.2.2.2.2.1 (cmI g) k1 k2 k5 k6 ((cmI g).m-g.1.2.2.2.1).toNat g.1.2.2.2.1 (ssI g) k3 (Int.toNat_of_nonneg (Int.sub_nonneg.2 k4)).symm k7 k8 h1 h2⟩
end V
end Go.Proofs.YtcfanlgpkefogaaGreat
