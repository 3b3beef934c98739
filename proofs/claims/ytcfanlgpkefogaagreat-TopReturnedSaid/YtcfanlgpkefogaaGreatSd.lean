import Derived.Test.YtcfanlgpkefogaaGreatUj
import Derived.Test.YtcfanlgpkefogaaGreatVC
namespace Go.Proofs.YtcfanlgpkefogaaGreat
open Go.RowKit
namespace V
theorem is_lcheck:FnIs Tryz.prog (134,Tryz.f134):=⟨Tryz.func134,by kernel_rfl,by kernel_rfl⟩
theorem Bcc {i n:Nat} (h:i<n) (hn:(n:Int)≤Bl .i64):W64 ((i:Int)+1)=((i+1:Nat):Int):=by
 simp only [Bl] at hn
 rw [show W64 ((i:Int)+1)=(i:Int)+1 from A9 (by omega) (by omega)];rfl
def Rq (p:TCT A3×TCT Bd):Bool:=(bm p.1 p.2).ok
noncomputable def Bhk:Code:=(As (bodyOf Tryz.f134)).getD 0 .skip
def Af9:Lay:={ keys:=[0,1,4,18,19,20],ks:=[.d (.sl A3),.d (.sl Bd),.d cI,.d (.sl A3),.d cI,.d cI],bs:=[],n:=35,nx:=1000,marks:=[] }
def Bhl:Lay:={ keys:=[4],ks:=[.d cI],bs:=[],n:=35,nx:=1000,marks:=[] }
def Afa:XE→Lay:=fun _=>Bhl
def Cg (l:List (TCT A3)) (s:List (TCT Bd)) (e:Int) (l':List (TCT A3)) (n i:Int):Af9.T:=((l,s,e,l',n,i,()),())
def Cr (e:Int):Bhl.T:=((e,()),())
def Bcd (l:List (TCT A3)) (s:List (TCT Bd)) (i:Int):Bool:=Rq (Bc l i.toNat (B7 A3),Bc s i.toNat (B7 Bd))
def Aap (l:List (TCT A3)) (s:List (TCT Bd)) (e:Int) (l':List (TCT A3)) (n i:Int):Tree (Af9.T⊕A1 Afa) :=
 bif decide (i<n) then bif decide (0≤i∧i<(l'.length:Int)) then bif decide (0≤i∧i<(s.length:Int)) then
  bif okE (Bcd l' s i)!=0 then .leaf (.inr ⟨.ret,Cr (okE (Bcd l' s i))⟩) else .leaf (.inl (Cg l s e l' n (W64 (i+1)))) else .fail else .fail else .leaf (.inr ⟨.exit 1,Cr e⟩)
def Afb (g:Af9.T):Tree (A1 Afa) :=
 .br (decide (g.1.2.2.2.2.1=(g.1.2.2.2.1.length:Int)∧g.1.2.2.2.1.length=g.1.2.1.length∧g.1.2.2.2.2.2.1=0)) (.br ((g.1.2.2.2.1.zip g.1.2.1).all Rq) (.leaf ⟨.exit 1,Cr g.1.2.2.1⟩) (.leaf ⟨.ret,Cr 2⟩)) .fail
def B4b (p:TCT A3×TCT Bd) (_:Nat) (_:Unit):Unit⊕A1 Afa:=bif Rq p then .inl () else .inr ⟨.ret,Cr 2⟩
theorem Avx (e:Int):∀ (l:List (TCT A3×TCT Bd)) (i:Nat),Ac0 B4b (fun _=>(⟨.exit 1,Cr e⟩:A1 Afa)) l i ()=bif l.all Rq then ⟨.exit 1,Cr e⟩ else ⟨.ret,Cr 2⟩
 | [],i=>rfl
 | p::l,i=>by
  simp only [Ac0,B4b,List.all_cons]
  cases Rq p with
  | false=>rfl
  | true=>exact Avx e l (i+1)
theorem Bce {α β:Type} {l:List α} {s:List β} {i:Nat} (h:i<(l.zip s).length) (h1:i<l.length) (h2:i<s.length) (d:α) (e:β):(l.zip s)[i]=(Bc l i d,Bc s i e):=by
 rw [List.getElem_zip,Ed h1,Ed h2]
theorem Blp:Bb Tryz.prog 134 Bhk (B8 Af9 Afa Afb):=by
 refine G1 (X:=ctx Tryz.prog plK []) (B5 Aw puK A0) 7 134 (fun _=>none) (fun _ _ f h=>by simp at h) Af9 Afa (fun _=>Nat.le_refl _) Afb (fun g=>Aap g.1.1 g.1.2.1 g.1.2.2.1 g.1.2.2.2.1 g.1.2.2.2.2.1 g.1.2.2.2.2.2.1) (fun g=>by kernel_rfl) ?_
 rintro ⟨⟨l0,s,e,l,n,i,⟨⟩⟩,⟨⟩⟩ R hw hf
 obtain ⟨hf,h0⟩:=hf
 by_cases hc:n=(l.length:Int)∧l.length=s.length∧i=0
 ·obtain ⟨rfl,hls,rfl⟩:=hc
  have hf:=hf (decide_eq_true ⟨rfl,hls,rfl⟩)
  have hlen:(l.length:Int)≤Bl .i64:=by
   simp only [Lay.WF,Af9,WFKs,WFK,WFD] at hw
   exact hw.1.2.2.2.1.1
  have hz:(l.zip s).length=l.length:=by rw [List.length_zip,← hls,Nat.min_self]
  refine ⟨_,W8 (l.zip s) (fun i _=>Cg l0 s e l l.length i) B4b (fun _=>⟨.exit 1,Cr e⟩) (fun _=>True) ?_ ?_ (l.zip s).length 0 () (by omega) trivial ?_⟩
  ·intro i _ hi Q _ _ hQ
   have h1:i<l.length:=by omega
   have h2:i<s.length:=by omega
   show (Aap l0 s e l l.length i).sat Q
   unfold Aap Bcd
   rw [decide_eq_true (show (i:Int)<l.length by omega),decide_eq_true (show 0≤(i:Int)∧(i:Int)<l.length by omega),decide_eq_true (show 0≤(i:Int)∧(i:Int)<s.length by omega),Bcc h1 hlen]
   have ht:(i:Int).toNat=i:=by omega
   rw [Bce hi h1 h2 (B7 A3) (B7 Bd)] at hQ
   rw [ht]
   unfold B4b at hQ
   cases hk:Rq (Bc l i (B7 A3),Bc s i (B7 Bd)) with
   | true=>rw [hk] at hQ;exact hQ trivial
   | false=>rw [hk] at hQ;exact hQ
  ·intro _ Q _ hQ
   show (Aap l0 s e l l.length ((l.zip s).length:Nat)).sat Q
   rw [hz]
   unfold Aap
   rw [decide_eq_false (show ¬ (l.length:Int)<l.length by omega)]
   exact hQ
  ·rw [List.drop_zero,Avx]
   obtain ⟨h1,h2⟩:=hf
   cases ha:(l.zip s).all Rq with
   | true=>exact h1 ha
   | false=>exact h2 ha
 ·exact (h0 (decide_eq_false hc)).elim
def N4 (l:List (TCT A3)) (s:List (TCT Bd)):Int:=bif decide ((l.length:Int)>8) then 6 else bif (l.length:Int)!=(s.length:Int) then 17 else okE ((l.zip s).all Rq)
abbrev Aaq:PureT:=Bv [.sl A3,.sl Bd] [cI] (fun _=>true) (fun x=>(N4 x.1 x.2.1,()))
noncomputable def Avy:Ctx:=I7 Tryz.prog plK [(134,Tryz.f134)] [((134,6),B8 Af9 Afa Afb)]
theorem Aar:CtxOk Avy:=Cp Aw puK (fns_cons is_lcheck A0) (Cc (by kernel_rfl) (by kernel_rfl) Blp)
def A09 (l:List (TCT A3)) (s:List (TCT Bd)):Tree (TCTs [cI]) :=
 bif decide ((l.length:Int)>8) then .leaf (6,()) else bif (l.length:Int)!=(s.length:Int) then .leaf (17,()) else
 bif decide ((l.length:Int)=(l.length:Int)∧l.length=s.length∧(0:Int)=0) then bif (l.zip s).all Rq then .leaf (0,()) else .leaf (2,()) else .fail
theorem Aas (l:List (TCT A3)) (s:List (TCT Bd)):(A09 l s).sat (fun y=>y=(N4 l s,())):=by
 unfold A09 N4
 cases decide ((l.length:Int)>8) with
 | true=>exact rfl
 | false =>
  cases h:((l.length:Int)!=(s.length:Int)) with
  | true=>exact rfl
  | false =>
   have h':l.length=s.length:=by
                     have:(l.length:Int)=(s.length:Int):=by simpa using h
                     omega
   rw [decide_eq_true (show (l.length:Int)=(l.length:Int)∧l.length=s.length∧(0:Int)=0 from ⟨rfl,h',rfl⟩)]
   cases (l.zip s).all Rq <;> exact rfl
theorem Avz:A7 Tryz.prog 134 Aaq:=C0 Aar 3 (fun x=>A09 x.1 x.2.1) (fun x=>by kernel_rfl) fun _ _ _=>Aas _ _
end V
end Go.Proofs.YtcfanlgpkefogaaGreat
namespace Go.Proofs.YtcfanlgpkefogaaGreat
open Go.RowKit
namespace V
abbrev Ih:TC:=.st [cI,cI]
abbrev SS:=List (TCT Bd)×List (TCT Ih)
def bAt (l:List (TCT A3)) (o:List (TCT Bd)) (i:Nat):Bm:=bm (Bc l i (B7 A3)) (Bc o i (B7 Bd))
@[irreducible] def Fv (l:List (TCT A3)) (re dr:Int) (i k:Nat) (s:SS):Option SS :=
 bif (Cd (bAt l s.1 i) (bAt l s.1 k) re dr).2.2.1==0 then some (Bu (Bu s.1 i (Cd (bAt l s.1 i) (bAt l s.1 k) re dr).1) k (Cd (bAt l s.1 i) (bAt l s.1 k) re dr).2.1,s.2++[((i:Int),(k:Int),())]) else
 bif (Cd (bAt l s.1 i) (bAt l s.1 k) re dr).2.2.1==4 then none else some s
def inR (l:List (TCT A3)) (re dr:Int) (i:Nat):Nat→Nat→SS→Option SS
 | 0,_,s=>some s
 | f+1,k,s=>(Fv l re dr i k s).bind fun s'=>inR l re dr i f (k+1) s'
def Iu (l:List (TCT A3)) (re dr:Int):Nat→Nat→SS→Option SS
 | 0,_,s=>some s
 | f+1,i,s=>(inR l re dr i (l.length-(i+1)) (i+1) s).bind fun s'=>Iu l re dr f (i+1) s'
def okS (x:Option SS):Bool:=match x with
 | some _=>true
 | none=>false
def A6g (x:Option SS):SS:=match x with
 | some s=>s
 | none=>([],[])
theorem Bw {β:Type} (l:List β) (i:Nat) (x:β):(Bu l i x).length=l.length:=by rw [C4];simp
theorem An4 {l:List (TCT A3)} {re dr:Int} {i k:Nat} {s s':SS} (h:Fv l re dr i k s=some s'):s'.1.length=s.1.length∧s'.2.length≤s.2.length+1:=by
 unfold Fv at h
 cases h1:(Cd (bAt l s.1 i) (bAt l s.1 k) re dr).2.2.1==0 with
 | true =>
  rw [h1] at h
  simp only [cond_true,Option.some.injEq] at h
  subst h
  simp [Bw]
 | false =>
  rw [h1,cond_false] at h
  cases h2:(Cd (bAt l s.1 i) (bAt l s.1 k) re dr).2.2.1==4 with
  | true=>rw [h2] at h;simp at h
  | false=>rw [h2] at h;simp only [cond_false,Option.some.injEq] at h;subst h;exact ⟨rfl,by omega⟩
theorem Ak6 {l:List (TCT A3)} {re dr:Int} {i:Nat} (f:Nat):∀ (k:Nat) (s s':SS),inR l re dr i f k s=some s'→s'.1.length=s.1.length∧s'.2.length≤s.2.length+f:=by
 induction f with
 | zero=>intro k s s' h;rw [inR,Option.some.injEq] at h;subst h;exact ⟨rfl,by omega⟩
 | succ f ih =>
  intro k s s' h
  rw [inR] at h
  cases h1:Fv l re dr i k s with
  | none=>rw [h1] at h;simp at h
  | some s1 =>
   rw [h1,Option.bind_some] at h
   have a:=An4 h1
   have b:=ih (k+1) s1 s' h
   exact ⟨b.1.trans a.1,by omega⟩
noncomputable def O1:LK:={ id:=10,keys:=[3,5,6,7,8,11,12],ks:=[.p 0 0 0 0,.p 1 0 0 0,.p 2 0 0 0,.p 3 0 0 0,.p 4 0 0 0,.p 6 0 0 0,.p 7 0 0 0],n:=80,fn:=99,params:=[34,35],assign:=(rangeAt Tryz.f99 0).1,body:=(rangeAt Tryz.f99 0).2,df:=9,st:=some 0 }
noncomputable def A3z:LK:={ id:=10,keys:=[],ks:=[],n:=80,fn:=99,params:=[34,35],assign:=(rangeAt Tryz.f99 0).1,body:=(rangeAt Tryz.f99 0).2,df:=9,st:=some 1 }
def Aw0:List BK:=[(0,37,[.d (.sl A3)]),(1,39,[.d cI,.d cI]),(2,42,[.d (.sl Bd)]),(3,189,[.d (.sl Ih)]),(4,49,[.d cI]),(6,42,[.o 60 Bd]),(7,189,[.o 120 Ih]),(8,3,[.d cI])]
def Bhm:List BK:=[(2,42,[.d (.sl Bd)]),(3,189,[.d (.sl Ih)]),(4,49,[.d cI])]
noncomputable def Ql:Lay2:={ keys:=[0,1,3,4,5,6],ks:=[.y 10,.p 8 0 0 0,.d cI,.d cI,.d cI,.d cI],bs:=Aw0,ls:=[O1],n:=22,nx:=1000,marks:=[],ds:=[9] }
noncomputable def Rr:Lay2:={ keys:=[0,1,5,6],ks:=[.y 10,.p 8 0 0 0,.d cI,.d cI],bs:=Aw0,ls:=[O1],n:=22,nx:=900,marks:=[],ds:=[9] }
noncomputable def Bcf:Lay2:={ keys:=[],ks:=[],bs:=Bhm,ls:=[A3z],n:=22,nx:=1000,marks:=[],ds:=[9] }
noncomputable def A0a:XE→Lay2:=fun e=>match e with | .ret=>Bcf | _=>Ql
noncomputable def A30:XE→Lay2:=fun e=>match e with | .ret=>Bcf | _=>Rr
noncomputable def A40:Code:=(As (bodyOf Tryz.f152)).getD 1 .skip
noncomputable def Aat:Code:=(As (bodyOf Tryz.f152)).getD 0 .skip
structure Cm where
 l:List (TCT A3)
 re:Int
 dr:Int
 r1:List (TCT Bd)
 r2:List (TCT Ih)
 r3:Int
 m:Int
abbrev BSe:=BTs Aw0
def bSe (c:Cm) (s:SS):BSe:=((c.l,()),(c.re,c.dr,()),(c.r1,()),(c.r2,()),(c.r3,()),(s.1,()),(s.2,()),(c.m,()),())
abbrev lSe:LTs [O1]:=(((((),(),(),(),(),(),(),()):SKTs O1.ks),((():Unit):StT O1.st)),())
abbrev lSr:LTs [A3z]:=((((():Unit):SKTs A3z.ks),((():Unit):StT A3z.st)),())
def Ig (i k n j:Int) (c:Cm) (s:SS):Ql.T:=(((),(),i,k,n,j,()),bSe c s,lSe)
def Og (n j:Int) (c:Cm) (s:SS):Rr.T:=(((),(),n,j,()),bSe c s,lSe)
def Rs (e:Int):Bcf.T:=((),(([],()),([],()),(e,()),()),lSr)
def A6h (l:List (TCT A3)) (o:List (TCT Bd)) (re dr:Int) (i k:Int):Ank:=Cd (bAt l o i.toNat) (bAt l o k.toNat) re dr
def Aau (i k n j:Int) (c:Cm) (s:SS):Tree (Ql.T⊕E2 A0a) :=
 bif decide (k<c.m) then
 bif decide (0≤i∧i<(c.l.length:Int)) then bif decide (0≤i∧i<(s.1.length:Int)) then bif decide (i.toNat<s.1.length) then
 bif decide (0≤k∧k<(c.l.length:Int)) then bif decide (0≤k∧k<(s.1.length:Int)) then bif decide (k.toNat<s.1.length) then
 bif (A6h c.l s.1 c.re c.dr i k).2.2.1==0 then
  bif decide (0≤i∧i<(s.1.length:Int)) then bif decide (i.toNat<s.1.length) then
  bif decide (0≤k∧k<((Bu s.1 i.toNat (A6h c.l s.1 c.re c.dr i k).1).length:Int)) then bif decide (k.toNat<(Bu s.1 i.toNat (A6h c.l s.1 c.re c.dr i k).1).length) then
  bif E8 s.2 [(i,k,())] 16 then
   .need (I8 [O1]) (.leaf (.inl (Ig i (W64 (k+1)) n j c (Bu (Bu s.1 i.toNat (A6h c.l s.1 c.re c.dr i k).1) k.toNat (A6h c.l s.1 c.re c.dr i k).2.1,s.2++[(i,k,())])))) else .fail else .fail else .fail else .fail else .fail
 else bif (A6h c.l s.1 c.re c.dr i k).2.2.1==4 then .need (I8 [A3z]) (.leaf (.inr ⟨.ret,Rs (A6h c.l s.1 c.re c.dr i k).2.2.1⟩)) else .need (I8 [O1]) (.leaf (.inl (Ig i (W64 (k+1)) n j c s)))
 else .fail else .fail else .fail else .fail else .fail else .fail
 else .need (I8 [O1]) (.leaf (.inr ⟨.exit 2,Ig i k n j c s⟩))
def cmI (g:Ql.T):Cm:=⟨g.2.1.1.1,g.2.1.2.1.1,g.2.1.2.1.2.1,g.2.1.2.2.1.1,g.2.1.2.2.2.1.1,g.2.1.2.2.2.2.1.1,g.2.1.2.2.2.2.2.2.2.1.1⟩
def ssI (g:Ql.T):SS:=(g.2.1.2.2.2.2.2.1.1,g.2.1.2.2.2.2.2.2.1.1)
def plBn:List (Nat×PureT):=[(136,Aba)]
theorem puBn:Db Tryz.prog plBn:=puOk_cons is_Bounce.plain Awy puOk_nil
noncomputable def A62:Ctx:=ctx Tryz.prog plBn [(99,Tryz.f99)]
theorem Blq (g:Ql.T):evC Tryz.prog (Dx A62 7) A62.pures 152 A62.u (fun _=>none) A40 (Ql.of g) (H7 Ql A0a)=Aau g.1.2.2.1 g.1.2.2.2.1 g.1.2.2.2.2.1 g.1.2.2.2.2.2.1 (cmI g) (ssI g):=by kernel_rfl
theorem B4c (l:List (TCT A3)) (o:List (TCT Bd)) (re dr i k:Int):A6h l o re dr i k=Cd (bAt l o i.toNat) (bAt l o k.toNat) re dr:=by unfold A6h;exact Eq.refl _
theorem Bhn {β:Type} {h:List β} {x:β} (k:h.length≤1000000):E8 h [x] 16=true:=by
 rw [Gd]
 refine decide_eq_true ?_
 simp only [List.length_cons,List.length_nil]
 omega
def okI (i k:Int) (c:Cm) (s:SS):Bool:=decide (0≤i∧i<(c.l.length:Int)∧i+1≤k∧k≤c.m∧c.m=(c.l.length:Int)∧c.l.length≤1000∧s.1.length=c.l.length∧s.2.length+(c.m-k).toNat≤1000000)
def B4d (i k n j:Int) (c:Cm) (s:SS):Tree (E2 A0a) :=
 .br (okI i k c s) (.br (okS (inR c.l c.re c.dr i.toNat (c.m-k).toNat k.toNat s)) (.leaf ⟨.exit 2,Ig i c.m n j c (A6g (inR c.l c.re c.dr i.toNat (c.m-k).toNat k.toNat s))⟩) (.leaf ⟨.ret,Rs 4⟩)) .fail
def A6i (g:Ql.T):Tree (E2 A0a):=B4d g.1.2.2.1 g.1.2.2.2.1 g.1.2.2.2.2.1 g.1.2.2.2.2.2.1 (cmI g) (ssI g)
theorem Aw1 (l:List (TCT A3)) (re dr:Int) (i f k:Nat) (s:SS):inR l re dr i (f+1) k s=(Fv l re dr i k s).bind fun s'=>inR l re dr i f (k+1) s':=rfl
theorem B4e {step:Ql.T→Tree (Ql.T⊕E2 A0a)} (hs:∀ i k n j c s,step (Ig i k n j c s)=Aau i k n j c s) (R:E2 A0a→Prop) (i n j:Int) (c:Cm) (hi:0≤i) (hil:i<(c.l.length:Int)) (hm:c.m=(c.l.length:Int)) (hl:c.l.length≤1000) (f:Nat) :
  ∀ (k:Int) (s:SS),i+1≤k→c.m-k=f→s.1.length=c.l.length→s.2.length+f≤1000000→(okS (inR c.l c.re c.dr i.toNat f k.toNat s)=true→R ⟨.exit 2,Ig i c.m n j c (A6g (inR c.l c.re c.dr i.toNat f k.toNat s))⟩) →
   (okS (inR c.l c.re c.dr i.toNat f k.toNat s)=false→R ⟨.ret,Rs 4⟩)→Ua Ql A0a step R (f+1) (Ig i k n j c s):=by
 induction f with
 | zero =>
  intro k s _ hk _ _ h1 _
  have e:k=c.m:=by omega
  subst e
  intro _
  rw [hs]
  unfold Aau
  rw [decide_eq_false (show ¬ c.m<c.m by omega)]
  exact ⟨Dj _,fun _=>h1 rfl⟩
 | succ f ih =>
  intro k s hik hk hsl hsh h1 h2
  intro _
  rw [hs]
  unfold Aau
  rw [Aw1] at h1 h2
  have hlt:k<(c.l.length:Int):=by omega
  have hkn:((k.toNat:Nat):Int)=k:=by omega
  have hin:((i.toNat:Nat):Int)=i:=by omega
  rw [B4c,decide_eq_true (show k<c.m by omega),decide_eq_true (show 0≤i∧i<(c.l.length:Int) from ⟨hi,hil⟩),decide_eq_true (show 0≤i∧i<(s.1.length:Int) by omega),decide_eq_true (show i.toNat<s.1.length by omega),
   decide_eq_true (show 0≤k∧k<(c.l.length:Int) by omega),decide_eq_true (show 0≤k∧k<(s.1.length:Int) by omega),decide_eq_true (show k.toNat<s.1.length by omega),Bw,decide_eq_true (show 0≤k∧k<(s.1.length:Int) by omega),decide_eq_true (show k.toNat<s.1.length by omega),
   Bhn (show s.2.length≤1000000 by omega),show W64 (k+1)=k+1 from A9 (by omega) (by omega)]
  have hkt:(k+1).toNat=k.toNat+1:=by omega
  cases e1:(Cd (bAt c.l s.1 i.toNat) (bAt c.l s.1 k.toNat) c.re c.dr).2.2.1==0 with
  | true =>
   have hst:Fv c.l c.re c.dr i.toNat k.toNat s=some (Bu (Bu s.1 i.toNat (Cd (bAt c.l s.1 i.toNat) (bAt c.l s.1 k.toNat) c.re c.dr).1) k.toNat (Cd (bAt c.l s.1 i.toNat) (bAt c.l s.1 k.toNat) c.re c.dr).2.1,s.2++[(i,k,())]):=by
    unfold Fv;rw [e1,hkn,hin];rfl
   rw [hst,Option.bind_some] at h1 h2
   refine ⟨Dj _,ih (k+1) _ (by omega) (by omega) (by simp only [Bw];exact hsl) (by simp only [List.length_append,List.length_cons,List.length_nil];omega) ?_ ?_⟩
   ·rw [hkt];exact h1
   ·rw [hkt];exact h2
  | false =>
   cases e2:(Cd (bAt c.l s.1 i.toNat) (bAt c.l s.1 k.toNat) c.re c.dr).2.2.1==4 with
   | true =>
    have hst:Fv c.l c.re c.dr i.toNat k.toNat s=none:=by unfold Fv;rw [e1,e2];rfl
    rw [hst] at h2
    refine ⟨Dj _,fun _=>?_⟩
    have:=h2 rfl
    rwa [← eq_of_beq e2] at this
   | false =>
    have hst:Fv c.l c.re c.dr i.toNat k.toNat s=some s:=by unfold Fv;rw [e1,e2];rfl
    rw [hst,Option.bind_some] at h1 h2
    refine ⟨Dj _,ih (k+1) _ (by omega) (by omega) hsl (by omega) ?_ ?_⟩
    ·rw [hkt];exact h1
    ·rw [hkt];exact h2
theorem puSe_ok:CtxOk A62:=B5 Aw puBn (fns_cons ⟨Tryz.func99,by kernel_rfl,by kernel_rfl⟩ A0)
theorem Blr:Bb Tryz.prog 152 A40 (Gf Ql A0a A6i):=by
 refine Nn puSe_ok 7 152 (fun _=>none) (fun _ _ f h=>by simp at h) Ql A0a (fun e=>by cases e <;> exact Nat.le_refl _) A6i (fun g=>Aau g.1.2.2.1 g.1.2.2.2.1 g.1.2.2.2.2.1 g.1.2.2.2.2.2.1 (cmI g) (ssI g)) Blq ?_
 intro g R _ hf
 obtain ⟨hf,h0⟩:=hf
 cases hc:okI g.1.2.2.1 g.1.2.2.2.1 (cmI g) (ssI g) with
 | false=>exact (h0 hc).elim
 | true =>
  obtain ⟨h1,h2⟩:=hf hc
  obtain ⟨k1,k2,k3,k4,k5,k6,k7,k8⟩:=of_decide_eq_true hc
  exact ⟨_,B4e (fun _ _ _ _ _ _=>rfl) R g.1.2.2.1 g.1.2.2.2.2.1 g.1.2.2.2.2.2.1 (cmI g) k1 k2 k5 k6 ((cmI g).m-g.1.2.2.2.1).toNat g.1.2.2.2.1 (ssI g) k3 (Int.toNat_of_nonneg (Int.sub_nonneg.2 k4)).symm k7 k8 h1 h2⟩
end V
end Go.Proofs.YtcfanlgpkefogaaGreat
namespace Go.Proofs.YtcfanlgpkefogaaGreat
open Go.RowKit
namespace V
noncomputable def Aw2:Ld:=fun k=>bif Nat.beq k 4 then some (Gf Ql A0a A6i) else none
def cmO (g:Rr.T):Cm:=⟨g.2.1.1.1,g.2.1.2.1.1,g.2.1.2.1.2.1,g.2.1.2.2.1.1,g.2.1.2.2.2.1.1,g.2.1.2.2.2.2.1.1,g.2.1.2.2.2.2.2.2.2.1.1⟩
def ssO (g:Rr.T):SS:=(g.2.1.2.2.2.2.2.1.1,g.2.1.2.2.2.2.2.2.1.1)
def Aav (n j:Int) (c:Cm) (s:SS):Tree (Rr.T⊕E2 A30) :=
 bif decide (j<n) then
  .need (I8 [O1]) (bif okI j (W64 (j+1)) c s then
   bif okS (inR c.l c.re c.dr j.toNat (c.m-W64 (j+1)).toNat (W64 (j+1)).toNat s) then .need (I8 [O1]) (.leaf (.inl (Og n (W64 (j+1)) c (A6g (inR c.l c.re c.dr j.toNat (c.m-W64 (j+1)).toNat (W64 (j+1)).toNat s)))))
   else .need (I8 [A3z]) (.leaf (.inr ⟨.ret,Rs 4⟩)) else .fail)
 else .need (I8 [O1]) (.leaf (.inr ⟨.exit 0,Og n j c s⟩))
theorem Bls (g:Rr.T):evC Tryz.prog (Dx A62 7) A62.pures 152 A62.u Aw2 Aat (Rr.of g) (H7 Rr A30)=Aav g.1.2.2.1 g.1.2.2.2.1 (cmO g) (ssO g):=by kernel_rfl
def okO (n j:Int) (c:Cm) (s:SS):Bool:=decide (0≤j∧j≤n∧n=c.m∧c.m=(c.l.length:Int)∧c.l.length≤1000∧s.1.length=c.l.length∧s.2.length+(n-j).toNat*1000≤1000000)
def B4f (n j:Int) (c:Cm) (s:SS):Tree (E2 A30) :=
 .br (okO n j c s) (.br (okS (Iu c.l c.re c.dr (n-j).toNat j.toNat s)) (.leaf ⟨.exit 0,Og n n c (A6g (Iu c.l c.re c.dr (n-j).toNat j.toNat s))⟩) (.leaf ⟨.ret,Rs 4⟩)) .fail
def Afc (g:Rr.T):Tree (E2 A30):=B4f g.1.2.2.1 g.1.2.2.2.1 (cmO g) (ssO g)
theorem Mc (l:List (TCT A3)) (re dr:Int) (i:Nat) (s:SS):Iu l re dr 0 i s=some s:=rfl
theorem K6 (l:List (TCT A3)) (re dr:Int) (f i:Nat) (s:SS):Iu l re dr (f+1) i s=(inR l re dr i (l.length-(i+1)) (i+1) s).bind fun s'=>Iu l re dr f (i+1) s':=rfl
theorem B4g {step:Rr.T→Tree (Rr.T⊕E2 A30)} (hs:∀ n j c s,step (Og n j c s)=Aav n j c s) (R:E2 A30→Prop) (n:Int) (c:Cm) (hn:n=c.m) (hm:c.m=(c.l.length:Int)) (hl:c.l.length≤1000) (f:Nat) :
  ∀ (j:Int) (s:SS),0≤j→n-j=f→s.1.length=c.l.length→s.2.length+f*1000≤1000000→(okS (Iu c.l c.re c.dr f j.toNat s)=true→R ⟨.exit 0,Og n n c (A6g (Iu c.l c.re c.dr f j.toNat s))⟩) →
   (okS (Iu c.l c.re c.dr f j.toNat s)=false→R ⟨.ret,Rs 4⟩)→Ua Rr A30 step R (f+1) (Og n j c s):=by
 induction f with
 | zero =>
  intro j s _ hk _ _ h1 _
  have e:j=n:=by omega
  subst e
  intro _
  rw [hs]
  unfold Aav
  rw [decide_eq_false (show ¬ j<j by omega)]
  exact ⟨Dj _,fun _=>h1 rfl⟩
 | succ f ih =>
  intro j s hj hk hsl hsh h1 h2
  intro _
  rw [hs]
  unfold Aav
  rw [K6] at h1 h2
  have hjt:(j+1).toNat=j.toNat+1:=by omega
  have hmk:(c.m-(j+1)).toNat=c.l.length-(j.toNat+1):=by omega
  have hok:okI j (j+1) c s=true:=decide_eq_true ⟨hj,by omega,by omega,by omega,hm,hl,hsl,by omega⟩
  rw [show W64 (j+1)=j+1 from A9 (by omega) (by omega),decide_eq_true (show j<n by omega),hok,hjt,hmk]
  refine ⟨Dj _,?_⟩
  cases he:inR c.l c.re c.dr j.toNat (c.l.length-(j.toNat+1)) (j.toNat+1) s with
  | none =>
   rw [he] at h2
   exact ⟨Dj _,fun _=>h2 rfl⟩
  | some s' =>
   rw [he,Option.bind_some] at h1 h2
   have hlen:=Ak6 _ _ _ _ he
   refine ⟨Dj _,ih (j+1) s' (by omega) (by omega) (hlen.1.trans hsl) (by omega) ?_ ?_⟩
   ·rw [hjt];exact h1
   ·rw [hjt];exact h2
theorem Blu:Bb Tryz.prog 152 Aat (Gf Rr A30 Afc):=by
 refine Nn puSe_ok 7 152 Aw2 ?_ Rr A30 (fun e=>by cases e <;> first | exact Nat.le_refl _ | exact (show 900≤1000 by omega)) Afc (fun g=>Aav g.1.2.2.1 g.1.2.2.2.1 (cmO g) (ssO g)) Bls ?_
 ·intro d hd f hf
  have hl:As Aat=[A40]:=by kernel_rfl
  rw [hl,List.mem_singleton] at hd
  subst hd
  have hk:keyOf A40=4:=by kernel_rfl
  rw [hk] at hf
  have:Aw2 4=some (Gf Ql A0a A6i):=rfl
  rw [this,Option.some.injEq] at hf
  subst hf
  exact Blr
 intro g R _ hf
 obtain ⟨hf,h0⟩:=hf
 cases hc:okO g.1.2.2.1 g.1.2.2.2.1 (cmO g) (ssO g) with
 | false=>exact (h0 hc).elim
 | true =>
  obtain ⟨h1,h2⟩:=hf hc
  obtain ⟨k1,k2,k3,k4,k5,k6,k7⟩:=of_decide_eq_true hc
  exact ⟨_,B4g (fun _ _ _ _=>rfl) R g.1.2.2.1 (cmO g) k3 k4 k5 (g.1.2.2.1-g.1.2.2.2.1).toNat g.1.2.2.2.1 (ssO g) k1 (Int.toNat_of_nonneg (Int.sub_nonneg.2 k2)).symm k6 k7 h1 h2⟩
theorem is_Settle:FnIs Tryz.prog (99,Tryz.f99):=⟨Tryz.func99,by kernel_rfl,by kernel_rfl⟩
theorem is_pairs:FnIs Tryz.prog (135,Tryz.f135):=⟨Tryz.func135,by kernel_rfl,by kernel_rfl⟩
theorem is_pairs1:FnIs Tryz.prog (152,Tryz.f152):=⟨Tryz.func152,by kernel_rfl,by kernel_rfl⟩
abbrev B4h:=TCTs [.sl Bd,.sl Ih,cI]
def Cn (l:List (TCT A3)) (s:List (TCT Bd)) (re dr:Int):B4h :=
 bif N4 l s != 0 then ([],[],N4 l s,()) else bif !Ic re dr then ([],[],2,()) else
 bif okS (Iu l re dr l.length 0 (s,[])) then ((A6g (Iu l re dr l.length 0 (s,[]))).1,(A6g (Iu l re dr l.length 0 (s,[]))).2,0,()) else ([],[],4,())
def plSet:List (Nat×PureT):=(134,Aaq)::(126,G0)::plBn
theorem puSet:Db Tryz.prog plSet:=puOk_cons is_lcheck.plain Avz (puOk_cons is_CheckBounce.plain Lz puBn)
noncomputable def Aaw:Ctx:=I7 Tryz.prog plSet [(99,Tryz.f99),(135,Tryz.f135),(152,Tryz.f152)] [((152,1),Gf Rr A30 Afc)]
def To (l:List (TCT A3)) (s:List (TCT Bd)) (re dr:Int):Tree B4h :=
 bif N4 l s != 0 then .leaf ([],[],N4 l s,()) else bif okE (Ic re dr)!=0 then .leaf ([],[],okE (Ic re dr),()) else
 bif E8 ([]:List (TCT Bd)) s 48 then
  .need (I8 [O1]) (bif okO (l.length:Int) 0 ⟨l,re,dr,[],[],0,(l.length:Int)⟩ (s,[]) then
   bif okS (Iu l re dr ((l.length:Int)-0).toNat (0:Int).toNat (s,[])) then .leaf ((A6g (Iu l re dr ((l.length:Int)-0).toNat (0:Int).toNat (s,[]))).1,(A6g (Iu l re dr ((l.length:Int)-0).toNat (0:Int).toNat (s,[]))).2,0,()) else .leaf ([],[],4,()) else .fail) else .fail
theorem Aax (x:TCTs [.sl A3,.sl Bd,Co]):Dx Aaw 7 (.fn 99) (E7 [.sl A3,.sl Bd,Co] x) Ce 0 (J3 Tryz.prog [.sl Bd,.sl Ih,cI])=To x.1 x.2.1 x.2.2.1.1 x.2.2.1.2.1:=by kernel_rfl
theorem Afd {l:List (TCT A3)} {s:List (TCT Bd)} (h:N4 l s=0):l.length≤8∧l.length=s.length∧(l.zip s).all Rq=true:=by
 unfold N4 at h
 cases h1:decide ((l.length:Int)>8) with
 | true=>rw [h1] at h;simp at h
 | false =>
  rw [h1,cond_false] at h
  cases h2:((l.length:Int)!=(s.length:Int)) with
  | true=>rw [h2] at h;simp at h
  | false =>
   rw [h2,cond_false] at h
   have k1:=of_decide_eq_false h1
   have k2:(l.length:Int)=(s.length:Int):=by simpa using h2
   refine ⟨by omega,by omega,?_⟩
   cases h3:(l.zip s).all Rq with
   | true=>rfl
   | false=>rw [h3] at h;simp [okE] at h
theorem Aay (l:List (TCT A3)) (s:List (TCT Bd)) (re dr:Int):(To l s re dr).sat (fun y=>y=Cn l s re dr):=by
 unfold To Cn
 cases hc:N4 l s != 0 with
 | true=>exact Eq.refl _
 | false =>
  have hc':N4 l s=0:=by simpa using hc
  obtain ⟨k1,k2,_⟩:=Afd hc'
  unfold okE
  cases hb:Ic re dr with
  | false=>exact Eq.refl _
  | true =>
   have ha:E8 ([]:List (TCT Bd)) s 48=true:=by
    rw [Gd];refine decide_eq_true ?_;simp only [List.length_nil];omega
   have ho:okO (l.length:Int) 0 ⟨l,re,dr,[],[],0,(l.length:Int)⟩ (s,[])=true:=decide_eq_true ⟨by omega,by omega,rfl,rfl,by show l.length≤1000;omega,k2.symm,by show 0+((l.length:Int)-0).toNat*1000≤1000000;omega⟩
   rw [ha,ho,show ((l.length:Int)-0).toNat=l.length by omega,show (0:Int).toNat=0 from rfl]
   refine ⟨Dj _,?_⟩
   cases okS (Iu l re dr l.length 0 (s,[])) <;> exact Eq.refl _
theorem Aaz:CtxOk Aaw:=by
 refine Cp Aw puSet (fns_cons is_Settle (fns_cons is_pairs (fns_cons is_pairs1 A0))) ?_
 intro p hp d hd g hg
 simp only [List.mem_cons,List.not_mem_nil,or_false] at hp
 rcases hp with rfl | rfl | rfl
 ·simp only [D8] at hg
  rw [show Nat.beq 152 99=false from rfl,Bool.false_and] at hg
  cases hg
 ·simp only [D8] at hg
  rw [show Nat.beq 152 135=false from rfl,Bool.false_and] at hg
  cases hg
 ·have hl:As (bodyOf Tryz.f152)=[Aat,A40]:=by kernel_rfl
  simp only at hd hg
  rw [hl] at hd
  simp only [List.mem_cons,List.not_mem_nil,or_false] at hd
  rcases hd with rfl | rfl
  ·have hk:keyOf Aat=1:=by kernel_rfl
   rw [hk] at hg
   simp [D8] at hg
   subst hg
   exact Blu
  ·have hk:keyOf A40=4:=by kernel_rfl
   rw [hk] at hg
   simp only [D8] at hg
   rw [show Nat.beq 1 4=false from rfl,Bool.and_false] at hg
   cases hg
abbrev Ab0:PureT:=Bv [.sl A3,.sl Bd,Co] [.sl Bd,.sl Ih,cI] (fun _=>true) (fun x=>((Cn x.1 x.2.1 x.2.2.1.1 x.2.2.1.2.1).1,(Cn x.1 x.2.1 x.2.2.1.1 x.2.2.1.2.1).2.1,(Cn x.1 x.2.1 x.2.2.1.1 x.2.2.1.2.1).2.2.1,()))
theorem Aw3:A7 Tryz.prog 99 Ab0:=C0 Aaz 7 (fun x=>To x.1 x.2.1 x.2.2.1.1 x.2.2.1.2.1) (fun x=>Aax x) fun _ _ _=>Aay _ _ _ _
end V
end Go.Proofs.YtcfanlgpkefogaaGreat
namespace Go.Proofs.YtcfanlgpkefogaaGreat
open Go.RowKit
namespace V
structure Dm where
 l:List (TCT A3)
 s0:List (TCT Bd)
 re:Int
 dr:Int
 r1:List (TCT Bd)
 r2:List (TCT Ih)
 r3:Int
end V
end Go.Proofs.YtcfanlgpkefogaaGreat
