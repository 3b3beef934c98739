import Derived.Test.YtcfanlgpkefogaaGreatSa
namespace Go.Proofs.YtcfanlgpkefogaaGreat
open Go.RowKit
namespace V
abbrev Bfk:TC:=.st [cI,cI]
abbrev SS:=List (TCT Baq)×List (TCT Bfk)
def bAt (l:List (TCT Fq)) (o:List (TCT Baq)) (i:Nat):Bm:=bm (Bav l i (Bas Fq)) (Bav o i (Bas Baq))
@[irreducible] def Bdp (l:List (TCT Fq)) (re dr:Int) (i k:Nat) (s:SS):Option SS :=
 bif (Bbm (bAt l s.1 i) (bAt l s.1 k) re dr).2.2.1==0 then some (Bb7 (Bb7 s.1 i (Bbm (bAt l s.1 i) (bAt l s.1 k) re dr).1) k (Bbm (bAt l s.1 i) (bAt l s.1 k) re dr).2.1,s.2++[((i:Int),(k:Int),())]) else
 bif (Bbm (bAt l s.1 i) (bAt l s.1 k) re dr).2.2.1==4 then none else some s
def inR (l:List (TCT Fq)) (re dr:Int) (i:Nat):Nat→Nat→SS→Option SS
 | 0,_,s=>some s
 | f+1,k,s=>(Bdp l re dr i k s).bind fun s'=>inR l re dr i f (k+1) s'
def Bfr (l:List (TCT Fq)) (re dr:Int):Nat→Nat→SS→Option SS
 | 0,_,s=>some s
 | f+1,i,s=>(inR l re dr i (l.length-(i+1)) (i+1) s).bind fun s'=>Bfr l re dr f (i+1) s'
def okS (x:Option SS):Bool:=match x with
 | some _=>true
 | none=>false
def Bze (x:Option SS):SS:=match x with
 | some s=>s
 | none=>([],[])
theorem Bba {β:Type} (l:List β) (i:Nat) (x:β):(Bb7 l i x).length=l.length:=by rw [Bbe];simp
theorem Cdx {l:List (TCT Fq)} {re dr:Int} {i k:Nat} {s s':SS} (h:Bdp l re dr i k s=some s'):s'.1.length=s.1.length∧s'.2.length≤s.2.length+1:=by
 unfold Bdp at h
 cases h1:(Bbm (bAt l s.1 i) (bAt l s.1 k) re dr).2.2.1==0 with
 | true =>
  rw [h1] at h
  simp only [cond_true,Option.some.injEq] at h
  subst h
  simp [Bba]
 | false =>
  rw [h1,cond_false] at h
  cases h2:(Bbm (bAt l s.1 i) (bAt l s.1 k) re dr).2.2.1==4 with
  | true=>rw [h2] at h;simp at h
  | false=>rw [h2] at h;simp only [cond_false,Option.some.injEq] at h;subst h;exact ⟨rfl,by omega⟩
theorem Cb5 {l:List (TCT Fq)} {re dr:Int} {i:Nat} (f:Nat):∀ (k:Nat) (s s':SS),inR l re dr i f k s=some s'→s'.1.length=s.1.length∧s'.2.length≤s.2.length+f:=by
 induction f with
 | zero=>intro k s s' h;rw [inR,Option.some.injEq] at h;subst h;exact ⟨rfl,by omega⟩
 | succ f ih =>
  intro k s s' h
  rw [inR] at h
  cases h1:Bdp l re dr i k s with
  | none=>rw [h1] at h;simp at h
  | some s1 =>
   rw [h1,Option.bind_some] at h
   have a:=Cdx h1
   have b:=ih (k+1) s1 s' h
   exact ⟨b.1.trans a.1,by omega⟩
noncomputable def Bk6:LK:={ id:=10,keys:=[3,5,6,7,8,11,12],ks:=[.p 0 0 0 0,.p 1 0 0 0,.p 2 0 0 0,.p 3 0 0 0,.p 4 0 0 0,.p 6 0 0 0,.p 7 0 0 0],n:=80,fn:=99,params:=[34,35],assign:=(rangeAt Tryz.f99 0).1,body:=(rangeAt Tryz.f99 0).2,df:=9,st:=some 0 }
noncomputable def Bx9:LK:={ id:=10,keys:=[],ks:=[],n:=80,fn:=99,params:=[34,35],assign:=(rangeAt Tryz.f99 0).1,body:=(rangeAt Tryz.f99 0).2,df:=9,st:=some 1 }
def Cm9:List BK:=[(0,37,[.d (.sl Fq)]),(1,39,[.d cI,.d cI]),(2,42,[.d (.sl Baq)]),(3,189,[.d (.sl Bfk)]),(4,49,[.d cI]),(6,42,[.o 60 Baq]),(7,189,[.o 120 Bfk]),(8,3,[.d cI])]
def D5b:List BK:=[(2,42,[.d (.sl Baq)]),(3,189,[.d (.sl Bfk)]),(4,49,[.d cI])]
noncomputable def Bm9:Lay2:={ keys:=[0,1,3,4,5,6],ks:=[.y 10,.p 8 0 0 0,.d cI,.d cI,.d cI,.d cI],bs:=Cm9,ls:=[Bk6],n:=22,nx:=1000,marks:=[],ds:=[9] }
noncomputable def Bmz:Lay2:={ keys:=[0,1,5,6],ks:=[.y 10,.p 8 0 0 0,.d cI,.d cI],bs:=Cm9,ls:=[Bk6],n:=22,nx:=900,marks:=[],ds:=[9] }
noncomputable def D0w:Lay2:={ keys:=[],ks:=[],bs:=D5b,ls:=[Bx9],n:=22,nx:=1000,marks:=[],ds:=[9] }
noncomputable def Btl:XE→Lay2:=fun e=>match e with | .ret=>D0w | _=>Bm9
noncomputable def Bw3:XE→Lay2:=fun e=>match e with | .ret=>D0w | _=>Bmz
noncomputable def Bxa:Code:=(Bal (bodyOf Tryz.f152)).getD 1 .skip
noncomputable def C38:Code:=(Bal (bodyOf Tryz.f152)).getD 0 .skip
structure Cm where
 l:List (TCT Fq)
 re:Int
 dr:Int
 r1:List (TCT Baq)
 r2:List (TCT Bfk)
 r3:Int
 m:Int
abbrev BSe:=BTs Cm9
def bSe (c:Cm) (s:SS):BSe:=((c.l,()),(c.re,c.dr,()),(c.r1,()),(c.r2,()),(c.r3,()),(s.1,()),(s.2,()),(c.m,()),())
abbrev lSe:LTs [Bk6]:=(((((),(),(),(),(),(),(),()):SKTs Bk6.ks),((():Unit):StT Bk6.st)),())
abbrev lSr:LTs [Bx9]:=((((():Unit):SKTs Bx9.ks),((():Unit):StT Bx9.st)),())
def Ig (i k n j:Int) (c:Cm) (s:SS):Bm9.T:=(((),(),i,k,n,j,()),bSe c s,lSe)
def Og (n j:Int) (c:Cm) (s:SS):Bmz.T:=(((),(),n,j,()),bSe c s,lSe)
def Rs (e:Int):D0w.T:=((),(([],()),([],()),(e,()),()),lSr)
def Bzf (l:List (TCT Fq)) (o:List (TCT Baq)) (re dr:Int) (i k:Int):Ced:=Bbm (bAt l o i.toNat) (bAt l o k.toNat) re dr
def C39 (i k n j:Int) (c:Cm) (s:SS):Tree (Bm9.T⊕Ben Btl) :=
 bif decide (k<c.m) then
 bif decide (0≤i∧i<(c.l.length:Int)) then bif decide (0≤i∧i<(s.1.length:Int)) then bif decide (i.toNat<s.1.length) then
 bif decide (0≤k∧k<(c.l.length:Int)) then bif decide (0≤k∧k<(s.1.length:Int)) then bif decide (k.toNat<s.1.length) then
 bif (Bzf c.l s.1 c.re c.dr i k).2.2.1==0 then
  bif decide (0≤i∧i<(s.1.length:Int)) then bif decide (i.toNat<s.1.length) then
  bif decide (0≤k∧k<((Bb7 s.1 i.toNat (Bzf c.l s.1 c.re c.dr i k).1).length:Int)) then bif decide (k.toNat<(Bb7 s.1 i.toNat (Bzf c.l s.1 c.re c.dr i k).1).length) then
  bif Bd8 s.2 [(i,k,())] 16 then
   .need (Bl6 [Bk6]) (.leaf (.inl (Ig i (W64 (k+1)) n j c (Bb7 (Bb7 s.1 i.toNat (Bzf c.l s.1 c.re c.dr i k).1) k.toNat (Bzf c.l s.1 c.re c.dr i k).2.1,s.2++[(i,k,())])))) else .fail else .fail else .fail else .fail else .fail
 else bif (Bzf c.l s.1 c.re c.dr i k).2.2.1==4 then .need (Bl6 [Bx9]) (.leaf (.inr ⟨.ret,Rs (Bzf c.l s.1 c.re c.dr i k).2.2.1⟩)) else .need (Bl6 [Bk6]) (.leaf (.inl (Ig i (W64 (k+1)) n j c s)))
 else .fail else .fail else .fail else .fail else .fail else .fail
 else .need (Bl6 [Bk6]) (.leaf (.inr ⟨.exit 2,Ig i k n j c s⟩))
def cmI (g:Bm9.T):Cm:=⟨g.2.1.1.1,g.2.1.2.1.1,g.2.1.2.1.2.1,g.2.1.2.2.1.1,g.2.1.2.2.2.1.1,g.2.1.2.2.2.2.1.1,g.2.1.2.2.2.2.2.2.2.1.1⟩
def ssI (g:Bm9.T):SS:=(g.2.1.2.2.2.2.2.1.1,g.2.1.2.2.2.2.2.2.1.1)
def plBn:List (Nat×PureT):=[(136,C3p)]
theorem puBn:Bc5 Tryz.prog plBn:=puOk_cons is_Bounce.plain Cn7 puOk_nil
noncomputable def Bz2:Ctx:=ctx Tryz.prog plBn [(99,Tryz.f99)]
theorem D83 (g:Bm9.T):evC Tryz.prog (Bcx Bz2 7) Bz2.pures 152 Bz2.u (fun _=>none) Bxa (Bm9.of g) (Bhn Bm9 Btl)=C39 g.1.2.2.1 g.1.2.2.2.1 g.1.2.2.2.2.1 g.1.2.2.2.2.2.1 (cmI g) (ssI g):=by kernel_rfl
theorem Ctj (l:List (TCT Fq)) (o:List (TCT Baq)) (re dr i k:Int):Bzf l o re dr i k=Bbm (bAt l o i.toNat) (bAt l o k.toNat) re dr:=by unfold Bzf;exact Eq.refl _
theorem D5c {β:Type} {h:List β} {x:β} (k:h.length≤1000000):Bd8 h [x] 16=true:=by
 rw [Be3]
 refine decide_eq_true ?_
 simp only [List.length_cons,List.length_nil]
 omega
def okI (i k:Int) (c:Cm) (s:SS):Bool:=decide (0≤i∧i<(c.l.length:Int)∧i+1≤k∧k≤c.m∧c.m=(c.l.length:Int)∧c.l.length≤1000∧s.1.length=c.l.length∧s.2.length+(c.m-k).toNat≤1000000)
def Ctk (i k n j:Int) (c:Cm) (s:SS):Tree (Ben Btl) :=
 .br (okI i k c s) (.br (okS (inR c.l c.re c.dr i.toNat (c.m-k).toNat k.toNat s)) (.leaf ⟨.exit 2,Ig i c.m n j c (Bze (inR c.l c.re c.dr i.toNat (c.m-k).toNat k.toNat s))⟩) (.leaf ⟨.ret,Rs 4⟩)) .fail
def Bzg (g:Bm9.T):Tree (Ben Btl):=Ctk g.1.2.2.1 g.1.2.2.2.1 g.1.2.2.2.2.1 g.1.2.2.2.2.2.1 (cmI g) (ssI g)
theorem Cma (l:List (TCT Fq)) (re dr:Int) (i f k:Nat) (s:SS):inR l re dr i (f+1) k s=(Bdp l re dr i k s).bind fun s'=>inR l re dr i f (k+1) s':=rfl
theorem Ctl {step:Bm9.T→Tree (Bm9.T⊕Ben Btl)} (hs:∀ i k n j c s,step (Ig i k n j c s)=C39 i k n j c s) (R:Ben Btl→Prop) (i n j:Int) (c:Cm) (hi:0≤i) (hil:i<(c.l.length:Int)) (hm:c.m=(c.l.length:Int)) (hl:c.l.length≤1000) (f:Nat) :
  ∀ (k:Int) (s:SS),i+1≤k→c.m-k=f→s.1.length=c.l.length→s.2.length+f≤1000000→(okS (inR c.l c.re c.dr i.toNat f k.toNat s)=true→R ⟨.exit 2,Ig i c.m n j c (Bze (inR c.l c.re c.dr i.toNat f k.toNat s))⟩) →
   (okS (inR c.l c.re c.dr i.toNat f k.toNat s)=false→R ⟨.ret,Rs 4⟩)→C4i Bm9 Btl step R (f+1) (Ig i k n j c s):=by
 induction f with
 | zero =>
  intro k s _ hk _ _ h1 _
  have e:k=c.m:=by omega
  subst e
  intro _
  rw [hs]
  unfold C39
  rw [decide_eq_false (show ¬ c.m<c.m by omega)]
  exact ⟨Bem _,fun _=>h1 rfl⟩
 | succ f ih =>
  intro k s hik hk hsl hsh h1 h2
  intro _
  rw [hs]
  unfold C39
  rw [Cma] at h1 h2
  have hlt:k<(c.l.length:Int):=by omega
  have hkn:((k.toNat:Nat):Int)=k:=by omega
  have hin:((i.toNat:Nat):Int)=i:=by omega
  rw [Ctj,decide_eq_true (show k<c.m by omega),decide_eq_true (show 0≤i∧i<(c.l.length:Int) from ⟨hi,hil⟩),decide_eq_true (show 0≤i∧i<(s.1.length:Int) by omega),decide_eq_true (show i.toNat<s.1.length by omega),
   decide_eq_true (show 0≤k∧k<(c.l.length:Int) by omega),decide_eq_true (show 0≤k∧k<(s.1.length:Int) by omega),decide_eq_true (show k.toNat<s.1.length by omega),Bba,decide_eq_true (show 0≤k∧k<(s.1.length:Int) by omega),decide_eq_true (show k.toNat<s.1.length by omega),
   D5c (show s.2.length≤1000000 by omega),show W64 (k+1)=k+1 from Bah (by omega) (by omega)]
  have hkt:(k+1).toNat=k.toNat+1:=by omega
  cases e1:(Bbm (bAt c.l s.1 i.toNat) (bAt c.l s.1 k.toNat) c.re c.dr).2.2.1==0 with
  | true =>
   have hst:Bdp c.l c.re c.dr i.toNat k.toNat s=some (Bb7 (Bb7 s.1 i.toNat (Bbm (bAt c.l s.1 i.toNat) (bAt c.l s.1 k.toNat) c.re c.dr).1) k.toNat (Bbm (bAt c.l s.1 i.toNat) (bAt c.l s.1 k.toNat) c.re c.dr).2.1,s.2++[(i,k,())]):=by
    unfold Bdp;rw [e1,hkn,hin];rfl
   rw [hst,Option.bind_some] at h1 h2
   refine ⟨Bem _,ih (k+1) _ (by omega) (by omega) (by simp only [Bba];exact hsl) (by simp only [List.length_append,List.length_cons,List.length_nil];omega) ?_ ?_⟩
   ·rw [hkt];exact h1
   ·rw [hkt];exact h2
  | false =>
   cases e2:(Bbm (bAt c.l s.1 i.toNat) (bAt c.l s.1 k.toNat) c.re c.dr).2.2.1==4 with
   | true =>
    have hst:Bdp c.l c.re c.dr i.toNat k.toNat s=none:=by unfold Bdp;rw [e1,e2];rfl
    rw [hst] at h2
    refine ⟨Bem _,fun _=>?_⟩
    have:=h2 rfl
    rwa [← eq_of_beq e2] at this
   | false =>
    have hst:Bdp c.l c.re c.dr i.toNat k.toNat s=some s:=by unfold Bdp;rw [e1,e2];rfl
    rw [hst,Option.bind_some] at h1 h2
    refine ⟨Bem _,ih (k+1) _ (by omega) (by omega) hsl (by omega) ?_ ?_⟩
    ·rw [hkt];exact h1
    ·rw [hkt];exact h2
theorem puSe_ok:CtxOk Bz2:=Bap Bao puBn (fns_cons ⟨Tryz.func99,by kernel_rfl,by kernel_rfl⟩ No)
theorem D84:Bb0 Tryz.prog 152 Bxa (Bho Bm9 Btl Bzg):=by
 refine Buz puSe_ok 7 152 (fun _=>none) (fun _ _ f h=>by simp at h) Bm9 Btl (fun e=>by cases e <;> exact Nat.le_refl _) Bzg (fun g=>C39 g.1.2.2.1 g.1.2.2.2.1 g.1.2.2.2.2.1 g.1.2.2.2.2.2.1 (cmI g) (ssI g)) D83 ?_
 intro g R _ hf
 obtain ⟨hf,h0⟩:=hf
 cases hc:okI g.1.2.2.1 g.1.2.2.2.1 (cmI g) (ssI g) with
 | false=>exact (h0 hc).elim
 | true =>
  obtain ⟨h1,h2⟩:=hf hc
  obtain ⟨k1,k2,k3,k4,k5,k6,k7,k8⟩:=of_decide_eq_true hc
  exact ⟨_,Ctl (fun _ _ _ _ _ _=>rfl) R g.1.2.2.1 g.1.2.2.2.2.1 g.1.2.2.2.2.2.1 (cmI g) k1 k2 k5 k6 ((cmI g).m-g.1.2.2.2.1).toNat g.1.2.2.2.1 (ssI g) k3 (Int.toNat_of_nonneg (Int.sub_nonneg.2 k4)).symm k7 k8 h1 h2⟩
end V
end Go.Proofs.YtcfanlgpkefogaaGreat
