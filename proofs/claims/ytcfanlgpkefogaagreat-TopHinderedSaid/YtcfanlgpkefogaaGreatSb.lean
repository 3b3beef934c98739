import Derived.Test.YtcfanlgpkefogaaGreatSa
namespace Go.Proofs.YtcfanlgpkefogaaGreat
open Go.RowKit
namespace V
abbrev Bek:TC:=.st [cI,cI]
abbrev SS:=List (TCT Bat)×List (TCT Bek)
def bAt (l:List (TCT No)) (o:List (TCT Bat)) (i:Nat):Bm:=bm (Bam l i (Baj No)) (Bam o i (Baj Bat))
@[irreducible] def Bds (l:List (TCT No)) (re dr:Int) (i k:Nat) (s:SS):Option SS :=
 bif (Bbi (bAt l s.1 i) (bAt l s.1 k) re dr).2.2.1==0 then some (Bba (Bba s.1 i (Bbi (bAt l s.1 i) (bAt l s.1 k) re dr).1) k (Bbi (bAt l s.1 i) (bAt l s.1 k) re dr).2.1,s.2++[((i:Int),(k:Int),())]) else
 bif (Bbi (bAt l s.1 i) (bAt l s.1 k) re dr).2.2.1==4 then none else some s
def inR (l:List (TCT No)) (re dr:Int) (i:Nat):Nat→Nat→SS→Option SS
 | 0,_,s=>some s
 | f+1,k,s=>(Bds l re dr i k s).bind fun s'=>inR l re dr i f (k+1) s'
def Bfk (l:List (TCT No)) (re dr:Int):Nat→Nat→SS→Option SS
 | 0,_,s=>some s
 | f+1,i,s=>(inR l re dr i (l.length-(i+1)) (i+1) s).bind fun s'=>Bfk l re dr f (i+1) s'
def okS (x:Option SS):Bool:=match x with
 | some _=>true
 | none=>false
def C1s (x:Option SS):SS:=match x with
 | some s=>s
 | none=>([],[])
theorem Bbd {β:Type} (l:List β) (i:Nat) (x:β):(Bba l i x).length=l.length:=by rw [Bbl];simp
theorem Ci5 {l:List (TCT No)} {re dr:Int} {i k:Nat} {s s':SS} (h:Bds l re dr i k s=some s'):s'.1.length=s.1.length∧s'.2.length≤s.2.length+1:=by
 unfold Bds at h
 cases h1:(Bbi (bAt l s.1 i) (bAt l s.1 k) re dr).2.2.1==0 with
 | true =>
  rw [h1] at h
  simp only [cond_true,Option.some.injEq] at h
  subst h
  simp [Bbd]
 | false =>
  rw [h1,cond_false] at h
  cases h2:(Bbi (bAt l s.1 i) (bAt l s.1 k) re dr).2.2.1==4 with
  | true=>rw [h2] at h;simp at h
  | false=>rw [h2] at h;simp only [cond_false,Option.some.injEq] at h;subst h;exact ⟨rfl,by omega⟩
theorem Cfa {l:List (TCT No)} {re dr:Int} {i:Nat} (f:Nat):∀ (k:Nat) (s s':SS),inR l re dr i f k s=some s'→s'.1.length=s.1.length∧s'.2.length≤s.2.length+f:=by
 induction f with
 | zero=>intro k s s' h;rw [inR,Option.some.injEq] at h;subst h;exact ⟨rfl,by omega⟩
 | succ f ih =>
  intro k s s' h
  rw [inR] at h
  cases h1:Bds l re dr i k s with
  | none=>rw [h1] at h;simp at h
  | some s1 =>
   rw [h1,Option.bind_some] at h
   have a:=Ci5 h1
   have b:=ih (k+1) s1 s' h
   exact ⟨b.1.trans a.1,by omega⟩
noncomputable def Bkx:LK:={ id:=10,keys:=[3,5,6,7,8,11,12],ks:=[.p 0 0 0 0,.p 1 0 0 0,.p 2 0 0 0,.p 3 0 0 0,.p 4 0 0 0,.p 6 0 0 0,.p 7 0 0 0],n:=80,fn:=99,params:=[34,35],assign:=(rangeAt Tryz.f99 0).1,body:=(rangeAt Tryz.f99 0).2,df:=9,st:=some 0 }
noncomputable def Bz3:LK:={ id:=10,keys:=[],ks:=[],n:=80,fn:=99,params:=[34,35],assign:=(rangeAt Tryz.f99 0).1,body:=(rangeAt Tryz.f99 0).2,df:=9,st:=some 1 }
def Cra:List BK:=[(0,37,[.d (.sl No)]),(1,39,[.d cI,.d cI]),(2,42,[.d (.sl Bat)]),(3,189,[.d (.sl Bek)]),(4,49,[.d cI]),(6,42,[.o 60 Bat]),(7,189,[.o 120 Bek]),(8,3,[.d cI])]
def Dc7:List BK:=[(2,42,[.d (.sl Bat)]),(3,189,[.d (.sl Bek)]),(4,49,[.d cI])]
noncomputable def Bn9:Lay2:={ keys:=[0,1,3,4,5,6],ks:=[.y 10,.p 8 0 0 0,.d cI,.d cI,.d cI,.d cI],bs:=Cra,ls:=[Bkx],n:=22,nx:=1000,marks:=[],ds:=[9] }
noncomputable def Bny:Lay2:={ keys:=[0,1,5,6],ks:=[.y 10,.p 8 0 0 0,.d cI,.d cI],bs:=Cra,ls:=[Bkx],n:=22,nx:=900,marks:=[],ds:=[9] }
noncomputable def D74:Lay2:={ keys:=[],ks:=[],bs:=Dc7,ls:=[Bz3],n:=22,nx:=1000,marks:=[],ds:=[9] }
noncomputable def Bve:XE→Lay2:=fun e=>match e with | .ret=>D74 | _=>Bn9
noncomputable def Bxv:XE→Lay2:=fun e=>match e with | .ret=>D74 | _=>Bny
noncomputable def Bz4:Code:=(Bak (bodyOf Tryz.f152)).getD 1 .skip
noncomputable def C5w:Code:=(Bak (bodyOf Tryz.f152)).getD 0 .skip
structure Cm where
 l:List (TCT No)
 re:Int
 dr:Int
 r1:List (TCT Bat)
 r2:List (TCT Bek)
 r3:Int
 m:Int
abbrev BSe:=BTs Cra
def bSe (c:Cm) (s:SS):BSe:=((c.l,()),(c.re,c.dr,()),(c.r1,()),(c.r2,()),(c.r3,()),(s.1,()),(s.2,()),(c.m,()),())
abbrev lSe:LTs [Bkx]:=(((((),(),(),(),(),(),(),()):SKTs Bkx.ks),((():Unit):StT Bkx.st)),())
abbrev lSr:LTs [Bz3]:=((((():Unit):SKTs Bz3.ks),((():Unit):StT Bz3.st)),())
def Ig (i k n j:Int) (c:Cm) (s:SS):Bn9.T:=(((),(),i,k,n,j,()),bSe c s,lSe)
def Og (n j:Int) (c:Cm) (s:SS):Bny.T:=(((),(),n,j,()),bSe c s,lSe)
def Rs (e:Int):D74.T:=((),(([],()),([],()),(e,()),()),lSr)
def C1t (l:List (TCT No)) (o:List (TCT Bat)) (re dr:Int) (i k:Int):Cb2:=Bbi (bAt l o i.toNat) (bAt l o k.toNat) re dr
def C5x (i k n j:Int) (c:Cm) (s:SS):Tree (Bn9.T⊕Bdx Bve) :=
 bif decide (k<c.m) then
 bif decide (0≤i∧i<(c.l.length:Int)) then bif decide (0≤i∧i<(s.1.length:Int)) then bif decide (i.toNat<s.1.length) then
 bif decide (0≤k∧k<(c.l.length:Int)) then bif decide (0≤k∧k<(s.1.length:Int)) then bif decide (k.toNat<s.1.length) then
 bif (C1t c.l s.1 c.re c.dr i k).2.2.1==0 then
  bif decide (0≤i∧i<(s.1.length:Int)) then bif decide (i.toNat<s.1.length) then
  bif decide (0≤k∧k<((Bba s.1 i.toNat (C1t c.l s.1 c.re c.dr i k).1).length:Int)) then bif decide (k.toNat<(Bba s.1 i.toNat (C1t c.l s.1 c.re c.dr i k).1).length) then
  bif Bcs s.2 [(i,k,())] 16 then
   .need (Bij [Bkx]) (.leaf (.inl (Ig i (W64 (k+1)) n j c (Bba (Bba s.1 i.toNat (C1t c.l s.1 c.re c.dr i k).1) k.toNat (C1t c.l s.1 c.re c.dr i k).2.1,s.2++[(i,k,())])))) else .fail else .fail else .fail else .fail else .fail
 else bif (C1t c.l s.1 c.re c.dr i k).2.2.1==4 then .need (Bij [Bz3]) (.leaf (.inr ⟨.ret,Rs (C1t c.l s.1 c.re c.dr i k).2.2.1⟩)) else .need (Bij [Bkx]) (.leaf (.inl (Ig i (W64 (k+1)) n j c s)))
 else .fail else .fail else .fail else .fail else .fail else .fail
 else .need (Bij [Bkx]) (.leaf (.inr ⟨.exit 2,Ig i k n j c s⟩))
def cmI (g:Bn9.T):Cm:=⟨g.2.1.1.1,g.2.1.2.1.1,g.2.1.2.1.2.1,g.2.1.2.2.1.1,g.2.1.2.2.2.1.1,g.2.1.2.2.2.2.1.1,g.2.1.2.2.2.2.2.2.2.1.1⟩
def ssI (g:Bn9.T):SS:=(g.2.1.2.2.2.2.2.1.1,g.2.1.2.2.2.2.2.2.1.1)
def plBn:List (Nat×PureT):=[(136,C6f)]
theorem puBn:Bcd Tryz.prog plBn:=puOk_cons is_Bounce.plain Cs7 puOk_nil
noncomputable def C1b:Ctx:=ctx Tryz.prog plBn [(99,Tryz.f99)]
theorem Dff (g:Bn9.T):evC Tryz.prog (Bcr C1b 7) C1b.pures 152 C1b.u (fun _=>none) Bz4 (Bn9.of g) (Bg4 Bn9 Bve)=C5x g.1.2.2.1 g.1.2.2.2.1 g.1.2.2.2.2.1 g.1.2.2.2.2.2.1 (cmI g) (ssI g):=by kernel_rfl
theorem Czd (l:List (TCT No)) (o:List (TCT Bat)) (re dr i k:Int):C1t l o re dr i k=Bbi (bAt l o i.toNat) (bAt l o k.toNat) re dr:=by unfold C1t;exact Eq.refl _
theorem Dc8 {β:Type} {h:List β} {x:β} (k:h.length≤1000000):Bcs h [x] 16=true:=by
 rw [Bel]
 refine decide_eq_true ?_
 simp only [List.length_cons,List.length_nil]
 omega
def okI (i k:Int) (c:Cm) (s:SS):Bool:=decide (0≤i∧i<(c.l.length:Int)∧i+1≤k∧k≤c.m∧c.m=(c.l.length:Int)∧c.l.length≤1000∧s.1.length=c.l.length∧s.2.length+(c.m-k).toNat≤1000000)
def Cze (i k n j:Int) (c:Cm) (s:SS):Tree (Bdx Bve) :=
 .br (okI i k c s) (.br (okS (inR c.l c.re c.dr i.toNat (c.m-k).toNat k.toNat s)) (.leaf ⟨.exit 2,Ig i c.m n j c (C1s (inR c.l c.re c.dr i.toNat (c.m-k).toNat k.toNat s))⟩) (.leaf ⟨.ret,Rs 4⟩)) .fail
def C1u (g:Bn9.T):Tree (Bdx Bve):=Cze g.1.2.2.1 g.1.2.2.2.1 g.1.2.2.2.2.1 g.1.2.2.2.2.2.1 (cmI g) (ssI g)
theorem Crb (l:List (TCT No)) (re dr:Int) (i f k:Nat) (s:SS):inR l re dr i (f+1) k s=(Bds l re dr i k s).bind fun s'=>inR l re dr i f (k+1) s':=rfl
theorem Czf {step:Bn9.T→Tree (Bn9.T⊕Bdx Bve)} (hs:∀ i k n j c s,step (Ig i k n j c s)=C5x i k n j c s) (R:Bdx Bve→Prop) (i n j:Int) (c:Cm) (hi:0≤i) (hil:i<(c.l.length:Int)) (hm:c.m=(c.l.length:Int)) (hl:c.l.length≤1000) (f:Nat) :
  ∀ (k:Int) (s:SS),i+1≤k→c.m-k=f→s.1.length=c.l.length→s.2.length+f≤1000000→(okS (inR c.l c.re c.dr i.toNat f k.toNat s)=true→R ⟨.exit 2,Ig i c.m n j c (C1s (inR c.l c.re c.dr i.toNat f k.toNat s))⟩) →
   (okS (inR c.l c.re c.dr i.toNat f k.toNat s)=false→R ⟨.ret,Rs 4⟩)→Bwr Bn9 Bve step R (f+1) (Ig i k n j c s):=by
 induction f with
 | zero =>
  intro k s _ hk _ _ h1 _
  have e:k=c.m:=by omega
  subst e
  intro _
  rw [hs]
  unfold C5x
  rw [decide_eq_false (show ¬ c.m<c.m by omega)]
  exact ⟨Bdv _,fun _=>h1 rfl⟩
 | succ f ih =>
  intro k s hik hk hsl hsh h1 h2
  intro _
  rw [hs]
  unfold C5x
  rw [Crb] at h1 h2
  have hlt:k<(c.l.length:Int):=by omega
  have hkn:((k.toNat:Nat):Int)=k:=by omega
  have hin:((i.toNat:Nat):Int)=i:=by omega
  rw [Czd,decide_eq_true (show k<c.m by omega),decide_eq_true (show 0≤i∧i<(c.l.length:Int) from ⟨hi,hil⟩),decide_eq_true (show 0≤i∧i<(s.1.length:Int) by omega),decide_eq_true (show i.toNat<s.1.length by omega),
   decide_eq_true (show 0≤k∧k<(c.l.length:Int) by omega),decide_eq_true (show 0≤k∧k<(s.1.length:Int) by omega),decide_eq_true (show k.toNat<s.1.length by omega),Bbd,decide_eq_true (show 0≤k∧k<(s.1.length:Int) by omega),decide_eq_true (show k.toNat<s.1.length by omega),
   Dc8 (show s.2.length≤1000000 by omega),show W64 (k+1)=k+1 from Fp (by omega) (by omega)]
  have hkt:(k+1).toNat=k.toNat+1:=by omega
  cases e1:(Bbi (bAt c.l s.1 i.toNat) (bAt c.l s.1 k.toNat) c.re c.dr).2.2.1==0 with
  | true =>
   have hst:Bds c.l c.re c.dr i.toNat k.toNat s=some (Bba (Bba s.1 i.toNat (Bbi (bAt c.l s.1 i.toNat) (bAt c.l s.1 k.toNat) c.re c.dr).1) k.toNat (Bbi (bAt c.l s.1 i.toNat) (bAt c.l s.1 k.toNat) c.re c.dr).2.1,s.2++[(i,k,())]):=by
    unfold Bds;rw [e1,hkn,hin];rfl
   rw [hst,Option.bind_some] at h1 h2
   refine ⟨Bdv _,ih (k+1) _ (by omega) (by omega) (by simp only [Bbd];exact hsl) (by simp only [List.length_append,List.length_cons,List.length_nil];omega) ?_ ?_⟩
   ·rw [hkt];exact h1
   ·rw [hkt];exact h2
  | false =>
   cases e2:(Bbi (bAt c.l s.1 i.toNat) (bAt c.l s.1 k.toNat) c.re c.dr).2.2.1==4 with
   | true =>
    have hst:Bds c.l c.re c.dr i.toNat k.toNat s=none:=by unfold Bds;rw [e1,e2];rfl
    rw [hst] at h2
    refine ⟨Bdv _,fun _=>?_⟩
    have:=h2 rfl
    rwa [← eq_of_beq e2] at this
   | false =>
    have hst:Bds c.l c.re c.dr i.toNat k.toNat s=some s:=by unfold Bds;rw [e1,e2];rfl
    rw [hst,Option.bind_some] at h1 h2
    refine ⟨Bdv _,ih (k+1) _ (by omega) (by omega) hsl (by omega) ?_ ?_⟩
    ·rw [hkt];exact h1
    ·rw [hkt];exact h2
theorem puSe_ok:CtxOk C1b:=Bas Bar puBn (fns_cons ⟨Tryz.func99,by kernel_rfl,by kernel_rfl⟩ V1)
theorem Dfg:Baw Tryz.prog 152 Bz4 (Bg5 Bn9 Bve C1u):=by
 refine Boa puSe_ok 7 152 (fun _=>none) (fun _ _ f h=>by simp at h) Bn9 Bve (fun e=>by cases e <;> exact Nat.le_refl _) C1u (fun g=>C5x g.1.2.2.1 g.1.2.2.2.1 g.1.2.2.2.2.1 g.1.2.2.2.2.2.1 (cmI g) (ssI g)) Dff ?_
 intro g R _ hf
 obtain ⟨hf,h0⟩:=hf
 cases hc:okI g.1.2.2.1 g.1.2.2.2.1 (cmI g) (ssI g) with
 | false=>exact (h0 hc).elim
 | true =>
  obtain ⟨h1,h2⟩:=hf hc
  obtain ⟨k1,k2,k3,k4,k5,k6,k7,k8⟩:=of_decide_eq_true hc
  exact ⟨_,Czf (fun _ _ _ _ _ _=>rfl) R g.1.2.2.1 g.1.2.2.2.2.1 g.1.2.2.2.2.2.1 (cmI g) k1 k2 k5 k6 ((cmI g).m-g.1.2.2.2.1).toNat g.1.2.2.2.1 (ssI g) k3 (Int.toNat_of_nonneg (Int.sub_nonneg.2 k4)).symm k7 k8 h1 h2⟩
end V
end Go.Proofs.YtcfanlgpkefogaaGreat
