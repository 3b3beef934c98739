import Derived.Test.YtlangijnealfjaaGreatUj
import Derived.Test.YtlangijnealfjaaGreatVC
namespace Go.Proofs.YtlangijnealfjaaGreat
open Go.RowKit
namespace V
theorem is_lcheck:FnIs Tryz.prog (197,Tryz.f197):=⟨Tryz.func197,by kernel_rfl,by kernel_rfl⟩
theorem B9p {i n:Nat} (h:i<n) (hn:(n:Int)≤B7 .i64):W64 ((i:Int)+1)=((i+1:Nat):Int):=by
 simp only [B7] at hn
 rw [show W64 ((i:Int)+1)=(i:Int)+1 from A7 (by omega) (by omega)];rfl
def Qk (p:TCT A3×TCT B0):Bool:=(bm p.1 p.2).ok
noncomputable def Bez:Code:=(Al (bodyOf Tryz.f197)).getD 0 .skip
def Adm:Lay:={ keys:=[0,1,4,18,19,20],ks:=[.d (.sl A3),.d (.sl B0),.d cI,.d (.sl A3),.d cI,.d cI],bs:=[],n:=35,nx:=1000,marks:=[] }
def Bf0:Lay:={ keys:=[4],ks:=[.d cI],bs:=[],n:=35,nx:=1000,marks:=[] }
def Adn:XE→Lay:=fun _=>Bf0
def Cg (l:List (TCT A3)) (s:List (TCT B0)) (e:Int) (l':List (TCT A3)) (n i:Int):Adm.T:=((l,s,e,l',n,i,()),())
def Cr (e:Int):Bf0.T:=((e,()),())
def B9q (l:List (TCT A3)) (s:List (TCT B0)) (i:Int):Bool:=Qk (As l i.toNat (Aq A3),As s i.toNat (Aq B0))
def A8z (l:List (TCT A3)) (s:List (TCT B0)) (e:Int) (l':List (TCT A3)) (n i:Int):Tree (Adm.T⊕A1 Adn) :=
 bif decide (i<n) then bif decide (0≤i∧i<(l'.length:Int)) then bif decide (0≤i∧i<(s.length:Int)) then
  bif okE (B9q l' s i)!=0 then .leaf (.inr ⟨.ret,Cr (okE (B9q l' s i))⟩) else .leaf (.inl (Cg l s e l' n (W64 (i+1)))) else .fail else .fail else .leaf (.inr ⟨.exit 1,Cr e⟩)
def Ado (g:Adm.T):Tree (A1 Adn) :=
 .br (decide (g.1.2.2.2.2.1=(g.1.2.2.2.1.length:Int)∧g.1.2.2.2.1.length=g.1.2.1.length∧g.1.2.2.2.2.2.1=0)) (.br ((g.1.2.2.2.1.zip g.1.2.1).all Qk) (.leaf ⟨.exit 1,Cr g.1.2.2.1⟩) (.leaf ⟨.ret,Cr 2⟩)) .fail
def B1g (p:TCT A3×TCT B0) (_:Nat) (_:Unit):Unit⊕A1 Adn:=bif Qk p then .inl () else .inr ⟨.ret,Cr 2⟩
theorem Asv (e:Int):∀ (l:List (TCT A3×TCT B0)) (i:Nat),Aaa B1g (fun _=>(⟨.exit 1,Cr e⟩:A1 Adn)) l i ()=bif l.all Qk then ⟨.exit 1,Cr e⟩ else ⟨.ret,Cr 2⟩
 | [],i=>rfl
 | p::l,i=>by
  simp only [Aaa,B1g,List.all_cons]
  cases Qk p with
  | false=>rfl
  | true=>exact Asv e l (i+1)
theorem B9r {α β:Type} {l:List α} {s:List β} {i:Nat} (h:i<(l.zip s).length) (h1:i<l.length) (h2:i<s.length) (d:α) (e:β):(l.zip s)[i]=(As l i d,As s i e):=by
 rw [List.getElem_zip,De h1,De h2]
theorem Bj0:Aw Tryz.prog 197 Bez (Ar Adm Adn Ado):=by
 refine G9 (X:=ctx Tryz.prog plK []) (Ap Ak puK A0) 7 197 (fun _=>none) (fun _ _ f h=>by simp at h) Adm Adn (fun _=>Nat.le_refl _) Ado (fun g=>A8z g.1.1 g.1.2.1 g.1.2.2.1 g.1.2.2.2.1 g.1.2.2.2.2.1 g.1.2.2.2.2.2.1) (fun g=>by kernel_rfl) ?_
 rintro ⟨⟨l0,s,e,l,n,i,⟨⟩⟩,⟨⟩⟩ R hw hf
 obtain ⟨hf,h0⟩:=hf
 by_cases hc:n=(l.length:Int)∧l.length=s.length∧i=0
 ·obtain ⟨rfl,hls,rfl⟩:=hc
  have hf:=hf (decide_eq_true ⟨rfl,hls,rfl⟩)
  have hlen:(l.length:Int)≤B7 .i64:=by
   simp only [Lay.WF,Adm,WFKs,WFK,WFD] at hw
   exact hw.1.2.2.2.1.1
  have hz:(l.zip s).length=l.length:=by rw [List.length_zip,← hls,Nat.min_self]
  refine ⟨_,V1 (l.zip s) (fun i _=>Cg l0 s e l l.length i) B1g (fun _=>⟨.exit 1,Cr e⟩) (fun _=>True) ?_ ?_ (l.zip s).length 0 () (by omega) trivial ?_⟩
  ·intro i _ hi Q _ _ hQ
   have h1:i<l.length:=by omega
   have h2:i<s.length:=by omega
   show (A8z l0 s e l l.length i).sat Q
   unfold A8z B9q
   rw [decide_eq_true (show (i:Int)<l.length by omega),decide_eq_true (show 0≤(i:Int)∧(i:Int)<l.length by omega),decide_eq_true (show 0≤(i:Int)∧(i:Int)<s.length by omega),B9p h1 hlen]
   have ht:(i:Int).toNat=i:=by omega
   rw [B9r hi h1 h2 (Aq A3) (Aq B0)] at hQ
   rw [ht]
   unfold B1g at hQ
   cases hk:Qk (As l i (Aq A3),As s i (Aq B0)) with
   | true=>rw [hk] at hQ;exact hQ trivial
   | false=>rw [hk] at hQ;exact hQ
  ·intro _ Q _ hQ
   show (A8z l0 s e l l.length ((l.zip s).length:Nat)).sat Q
   rw [hz]
   unfold A8z
   rw [decide_eq_false (show ¬ (l.length:Int)<l.length by omega)]
   exact hQ
  ·rw [List.drop_zero,Asv]
   obtain ⟨h1,h2⟩:=hf
   cases ha:(l.zip s).all Qk with
   | true=>exact h1 ha
   | false=>exact h2 ha
 ·exact (h0 (decide_eq_false hc)).elim
def Mk (l:List (TCT A3)) (s:List (TCT B0)):Int:=bif decide ((l.length:Int)>8) then 6 else bif (l.length:Int)!=(s.length:Int) then 17 else okE ((l.zip s).all Qk)
abbrev A90:PureT:=Bj [.sl A3,.sl B0] [cI] (fun _=>true) (fun x=>(Mk x.1 x.2.1,()))
noncomputable def Asw:Ctx:=G4 Tryz.prog plK [(197,Tryz.f197)] [((197,6),Ar Adm Adn Ado)]
theorem A91:CtxOk Asw:=Bs Ak puK (fns_cons is_lcheck A0) (Cc (by kernel_rfl) (by kernel_rfl) Bj0)
def Yt (l:List (TCT A3)) (s:List (TCT B0)):Tree (TCTs [cI]) :=
 bif decide ((l.length:Int)>8) then .leaf (6,()) else bif (l.length:Int)!=(s.length:Int) then .leaf (17,()) else
 bif decide ((l.length:Int)=(l.length:Int)∧l.length=s.length∧(0:Int)=0) then bif (l.zip s).all Qk then .leaf (0,()) else .leaf (2,()) else .fail
theorem A92 (l:List (TCT A3)) (s:List (TCT B0)):(Yt l s).sat (fun y=>y=(Mk l s,())):=by
 unfold Yt Mk
 cases decide ((l.length:Int)>8) with
 | true=>exact rfl
 | false =>
  cases h:((l.length:Int)!=(s.length:Int)) with
  | true=>exact rfl
  | false =>
   have h':l.length=s.length:=by
                     have:(l.length:Int)=(s.length:Int):=by simpa using h
                     omega
   rw [decide_eq_true (show (l.length:Int)=(l.length:Int)∧l.length=s.length∧(0:Int)=0 from ⟨rfl,h',rfl⟩)]
   cases (l.zip s).all Qk <;> exact rfl
theorem Asx:A6 Tryz.prog 197 A90:=Bl A91 3 (fun x=>Yt x.1 x.2.1) (fun x=>by kernel_rfl) fun _ _ _=>A92 _ _
end V
end Go.Proofs.YtlangijnealfjaaGreat
namespace Go.Proofs.YtlangijnealfjaaGreat
open Go.RowKit
namespace V
abbrev Hk:TC:=.st [cI,cI]
abbrev SS:=List (TCT B0)×List (TCT Hk)
def bAt (l:List (TCT A3)) (o:List (TCT B0)) (i:Nat):Bm:=bm (As l i (Aq A3)) (As o i (Aq B0))
@[irreducible] def Fe (l:List (TCT A3)) (re dr:Int) (i k:Nat) (s:SS):Option SS :=
 bif (C4 (bAt l s.1 i) (bAt l s.1 k) re dr).2.2.1==0 then some (Bf (Bf s.1 i (C4 (bAt l s.1 i) (bAt l s.1 k) re dr).1) k (C4 (bAt l s.1 i) (bAt l s.1 k) re dr).2.1,s.2++[((i:Int),(k:Int),())]) else
 bif (C4 (bAt l s.1 i) (bAt l s.1 k) re dr).2.2.1==4 then none else some s
def inR (l:List (TCT A3)) (re dr:Int) (i:Nat):Nat→Nat→SS→Option SS
 | 0,_,s=>some s
 | f+1,k,s=>(Fe l re dr i k s).bind fun s'=>inR l re dr i f (k+1) s'
def I5 (l:List (TCT A3)) (re dr:Int):Nat→Nat→SS→Option SS
 | 0,_,s=>some s
 | f+1,i,s=>(inR l re dr i (l.length-(i+1)) (i+1) s).bind fun s'=>I5 l re dr f (i+1) s'
def okS (x:Option SS):Bool:=match x with
 | some _=>true
 | none=>false
def A59 (x:Option SS):SS:=match x with
 | some s=>s
 | none=>([],[])
theorem C0 {β:Type} (l:List β) (i:Nat) (x:β):(Bf l i x).length=l.length:=by rw [Bp];simp
theorem Akp {l:List (TCT A3)} {re dr:Int} {i k:Nat} {s s':SS} (h:Fe l re dr i k s=some s'):s'.1.length=s.1.length∧s'.2.length≤s.2.length+1:=by
 unfold Fe at h
 cases h1:(C4 (bAt l s.1 i) (bAt l s.1 k) re dr).2.2.1==0 with
 | true =>
  rw [h1] at h
  simp only [cond_true,Option.some.injEq] at h
  subst h
  simp [C0]
 | false =>
  rw [h1,cond_false] at h
  cases h2:(C4 (bAt l s.1 i) (bAt l s.1 k) re dr).2.2.1==4 with
  | true=>rw [h2] at h;simp at h
  | false=>rw [h2] at h;simp only [cond_false,Option.some.injEq] at h;subst h;exact ⟨rfl,by omega⟩
theorem Ahq {l:List (TCT A3)} {re dr:Int} {i:Nat} (f:Nat):∀ (k:Nat) (s s':SS),inR l re dr i f k s=some s'→s'.1.length=s.1.length∧s'.2.length≤s.2.length+f:=by
 induction f with
 | zero=>intro k s s' h;rw [inR,Option.some.injEq] at h;subst h;exact ⟨rfl,by omega⟩
 | succ f ih =>
  intro k s s' h
  rw [inR] at h
  cases h1:Fe l re dr i k s with
  | none=>rw [h1] at h;simp at h
  | some s1 =>
   rw [h1,Option.bind_some] at h
   have a:=Akp h1
   have b:=ih (k+1) s1 s' h
   exact ⟨b.1.trans a.1,by omega⟩
noncomputable def Nh:LK:={ id:=10,keys:=[3,5,6,7,8,11,12],ks:=[.p 0 0 0 0,.p 1 0 0 0,.p 2 0 0 0,.p 3 0 0 0,.p 4 0 0 0,.p 6 0 0 0,.p 7 0 0 0],n:=80,fn:=135,params:=[34,35],assign:=(rangeAt Tryz.f135 0).1,body:=(rangeAt Tryz.f135 0).2,df:=9,st:=some 0 }
noncomputable def A31:LK:={ id:=10,keys:=[],ks:=[],n:=80,fn:=135,params:=[34,35],assign:=(rangeAt Tryz.f135 0).1,body:=(rangeAt Tryz.f135 0).2,df:=9,st:=some 1 }
def Asy:List BK:=[(0,60,[.d (.sl A3)]),(1,62,[.d cI,.d cI]),(2,73,[.d (.sl B0)]),(3,38,[.d (.sl Hk)]),(4,39,[.d cI]),(6,73,[.o 84 B0]),(7,38,[.o 48 Hk]),(8,3,[.d cI])]
def Bf1:List BK:=[(2,73,[.d (.sl B0)]),(3,38,[.d (.sl Hk)]),(4,39,[.d cI])]
noncomputable def Py:Lay2:={ keys:=[0,1,3,4,5,6],ks:=[.y 10,.p 8 0 0 0,.d cI,.d cI,.d cI,.d cI],bs:=Asy,ls:=[Nh],n:=22,nx:=1000,marks:=[],ds:=[9] }
noncomputable def Ql:Lay2:={ keys:=[0,1,5,6],ks:=[.y 10,.p 8 0 0 0,.d cI,.d cI],bs:=Asy,ls:=[Nh],n:=22,nx:=900,marks:=[],ds:=[9] }
noncomputable def B9s:Lay2:={ keys:=[],ks:=[],bs:=Bf1,ls:=[A31],n:=22,nx:=1000,marks:=[],ds:=[9] }
noncomputable def Yu:XE→Lay2:=fun e=>match e with | .ret=>B9s | _=>Py
noncomputable def A1w:XE→Lay2:=fun e=>match e with | .ret=>B9s | _=>Ql
noncomputable def A32:Code:=(Al (bodyOf Tryz.f236)).getD 1 .skip
noncomputable def A93:Code:=(Al (bodyOf Tryz.f236)).getD 0 .skip
structure Cm where
 l:List (TCT A3)
 re:Int
 dr:Int
 r1:List (TCT B0)
 r2:List (TCT Hk)
 r3:Int
 m:Int
abbrev BSe:=BTs Asy
def bSe (c:Cm) (s:SS):BSe:=((c.l,()),(c.re,c.dr,()),(c.r1,()),(c.r2,()),(c.r3,()),(s.1,()),(s.2,()),(c.m,()),())
abbrev lSe:LTs [Nh]:=(((((),(),(),(),(),(),(),()):SKTs Nh.ks),((():Unit):StT Nh.st)),())
abbrev lSr:LTs [A31]:=((((():Unit):SKTs A31.ks),((():Unit):StT A31.st)),())
def Ig (i k n j:Int) (c:Cm) (s:SS):Py.T:=(((),(),i,k,n,j,()),bSe c s,lSe)
def Og (n j:Int) (c:Cm) (s:SS):Ql.T:=(((),(),n,j,()),bSe c s,lSe)
def Rs (e:Int):B9s.T:=((),(([],()),([],()),(e,()),()),lSr)
def A5a (l:List (TCT A3)) (o:List (TCT B0)) (re dr:Int) (i k:Int):Al5:=C4 (bAt l o i.toNat) (bAt l o k.toNat) re dr
def A94 (i k n j:Int) (c:Cm) (s:SS):Tree (Py.T⊕F6 Yu) :=
 bif decide (k<c.m) then
 bif decide (0≤i∧i<(c.l.length:Int)) then bif decide (0≤i∧i<(s.1.length:Int)) then bif decide (i.toNat<s.1.length) then
 bif decide (0≤k∧k<(c.l.length:Int)) then bif decide (0≤k∧k<(s.1.length:Int)) then bif decide (k.toNat<s.1.length) then
 bif (A5a c.l s.1 c.re c.dr i k).2.2.1==0 then
  bif decide (0≤i∧i<(s.1.length:Int)) then bif decide (i.toNat<s.1.length) then
  bif decide (0≤k∧k<((Bf s.1 i.toNat (A5a c.l s.1 c.re c.dr i k).1).length:Int)) then bif decide (k.toNat<(Bf s.1 i.toNat (A5a c.l s.1 c.re c.dr i k).1).length) then
  bif Df s.2 [(i,k,())] 16 then
   .need (Kd [Nh]) (.leaf (.inl (Ig i (W64 (k+1)) n j c (Bf (Bf s.1 i.toNat (A5a c.l s.1 c.re c.dr i k).1) k.toNat (A5a c.l s.1 c.re c.dr i k).2.1,s.2++[(i,k,())])))) else .fail else .fail else .fail else .fail else .fail
 else bif (A5a c.l s.1 c.re c.dr i k).2.2.1==4 then .need (Kd [A31]) (.leaf (.inr ⟨.ret,Rs (A5a c.l s.1 c.re c.dr i k).2.2.1⟩)) else .need (Kd [Nh]) (.leaf (.inl (Ig i (W64 (k+1)) n j c s)))
 else .fail else .fail else .fail else .fail else .fail else .fail
 else .need (Kd [Nh]) (.leaf (.inr ⟨.exit 2,Ig i k n j c s⟩))
def cmI (g:Py.T):Cm:=⟨g.2.1.1.1,g.2.1.2.1.1,g.2.1.2.1.2.1,g.2.1.2.2.1.1,g.2.1.2.2.2.1.1,g.2.1.2.2.2.2.1.1,g.2.1.2.2.2.2.2.2.2.1.1⟩
def ssI (g:Py.T):SS:=(g.2.1.2.2.2.2.2.1.1,g.2.1.2.2.2.2.2.2.1.1)
def plBn:List (Nat×PureT):=[(199,A9k)]
theorem puBn:D3 Tryz.prog plBn:=puOk_cons is_Bounce.plain Atw puOk_nil
noncomputable def A4x:Ctx:=ctx Tryz.prog plBn [(135,Tryz.f135)]
theorem Bj1 (g:Py.T):evC Tryz.prog (D1 A4x 7) A4x.pures 236 A4x.u (fun _=>none) A32 (Py.of g) (Ho Py Yu)=A94 g.1.2.2.1 g.1.2.2.2.1 g.1.2.2.2.2.1 g.1.2.2.2.2.2.1 (cmI g) (ssI g):=by kernel_rfl
theorem B1h (l:List (TCT A3)) (o:List (TCT B0)) (re dr i k:Int):A5a l o re dr i k=C4 (bAt l o i.toNat) (bAt l o k.toNat) re dr:=by unfold A5a;exact Eq.refl _
theorem Bf2 {β:Type} {h:List β} {x:β} (k:h.length≤1000000):Df h [x] 16=true:=by
 rw [G2]
 refine decide_eq_true ?_
 simp only [List.length_cons,List.length_nil]
 omega
def okI (i k:Int) (c:Cm) (s:SS):Bool:=decide (0≤i∧i<(c.l.length:Int)∧i+1≤k∧k≤c.m∧c.m=(c.l.length:Int)∧c.l.length≤1000∧s.1.length=c.l.length∧s.2.length+(c.m-k).toNat≤1000000)
def B1i (i k n j:Int) (c:Cm) (s:SS):Tree (F6 Yu) :=
 .br (okI i k c s) (.br (okS (inR c.l c.re c.dr i.toNat (c.m-k).toNat k.toNat s)) (.leaf ⟨.exit 2,Ig i c.m n j c (A59 (inR c.l c.re c.dr i.toNat (c.m-k).toNat k.toNat s))⟩) (.leaf ⟨.ret,Rs 4⟩)) .fail
def A5b (g:Py.T):Tree (F6 Yu):=B1i g.1.2.2.1 g.1.2.2.2.1 g.1.2.2.2.2.1 g.1.2.2.2.2.2.1 (cmI g) (ssI g)
theorem Asz (l:List (TCT A3)) (re dr:Int) (i f k:Nat) (s:SS):inR l re dr i (f+1) k s=(Fe l re dr i k s).bind fun s'=>inR l re dr i f (k+1) s':=rfl
theorem B1j {step:Py.T→Tree (Py.T⊕F6 Yu)} (hs:∀ i k n j c s,step (Ig i k n j c s)=A94 i k n j c s) (R:F6 Yu→Prop) (i n j:Int) (c:Cm) (hi:0≤i) (hil:i<(c.l.length:Int)) (hm:c.m=(c.l.length:Int)) (hl:c.l.length≤1000) (f:Nat) :
  ∀ (k:Int) (s:SS),i+1≤k→c.m-k=f→s.1.length=c.l.length→s.2.length+f≤1000000→(okS (inR c.l c.re c.dr i.toNat f k.toNat s)=true→R ⟨.exit 2,Ig i c.m n j c (A59 (inR c.l c.re c.dr i.toNat f k.toNat s))⟩) →
   (okS (inR c.l c.re c.dr i.toNat f k.toNat s)=false→R ⟨.ret,Rs 4⟩)→A0g Py Yu step R (f+1) (Ig i k n j c s):=by
 induction f with
 | zero =>
  intro k s _ hk _ _ h1 _
  have e:k=c.m:=by omega
  subst e
  intro _
  rw [hs]
  unfold A94
  rw [decide_eq_false (show ¬ c.m<c.m by omega)]
  exact ⟨Ew _,fun _=>h1 rfl⟩
 | succ f ih =>
  intro k s hik hk hsl hsh h1 h2
  intro _
  rw [hs]
  unfold A94
  rw [Asz] at h1 h2
  have hlt:k<(c.l.length:Int):=by omega
  have hkn:((k.toNat:Nat):Int)=k:=by omega
  have hin:((i.toNat:Nat):Int)=i:=by omega
  rw [B1h,decide_eq_true (show k<c.m by omega),decide_eq_true (show 0≤i∧i<(c.l.length:Int) from ⟨hi,hil⟩),decide_eq_true (show 0≤i∧i<(s.1.length:Int) by omega),decide_eq_true (show i.toNat<s.1.length by omega),
   decide_eq_true (show 0≤k∧k<(c.l.length:Int) by omega),decide_eq_true (show 0≤k∧k<(s.1.length:Int) by omega),decide_eq_true (show k.toNat<s.1.length by omega),C0,decide_eq_true (show 0≤k∧k<(s.1.length:Int) by omega),decide_eq_true (show k.toNat<s.1.length by omega),
   Bf2 (show s.2.length≤1000000 by omega),show W64 (k+1)=k+1 from A7 (by omega) (by omega)]
  have hkt:(k+1).toNat=k.toNat+1:=by omega
  cases e1:(C4 (bAt c.l s.1 i.toNat) (bAt c.l s.1 k.toNat) c.re c.dr).2.2.1==0 with
  | true =>
   have hst:Fe c.l c.re c.dr i.toNat k.toNat s=some (Bf (Bf s.1 i.toNat (C4 (bAt c.l s.1 i.toNat) (bAt c.l s.1 k.toNat) c.re c.dr).1) k.toNat (C4 (bAt c.l s.1 i.toNat) (bAt c.l s.1 k.toNat) c.re c.dr).2.1,s.2++[(i,k,())]):=by
    unfold Fe;rw [e1,hkn,hin];rfl
   rw [hst,Option.bind_some] at h1 h2
   refine ⟨Ew _,ih (k+1) _ (by omega) (by omega) (by simp only [C0];exact hsl) (by simp only [List.length_append,List.length_cons,List.length_nil];omega) ?_ ?_⟩
   ·rw [hkt];exact h1
   ·rw [hkt];exact h2
  | false =>
   cases e2:(C4 (bAt c.l s.1 i.toNat) (bAt c.l s.1 k.toNat) c.re c.dr).2.2.1==4 with
   | true =>
    have hst:Fe c.l c.re c.dr i.toNat k.toNat s=none:=by unfold Fe;rw [e1,e2];rfl
    rw [hst] at h2
    refine ⟨Ew _,fun _=>?_⟩
    have:=h2 rfl
    rwa [← eq_of_beq e2] at this
   | false =>
    have hst:Fe c.l c.re c.dr i.toNat k.toNat s=some s:=by unfold Fe;rw [e1,e2];rfl
    rw [hst,Option.bind_some] at h1 h2
    refine ⟨Ew _,ih (k+1) _ (by omega) (by omega) hsl (by omega) ?_ ?_⟩
    ·rw [hkt];exact h1
    ·rw [hkt];exact h2
theorem puSe_ok:CtxOk A4x:=Ap Ak puBn (fns_cons ⟨Tryz.func135,by kernel_rfl,by kernel_rfl⟩ A0)
theorem Bj2:Aw Tryz.prog 236 A32 (Hp Py Yu A5b):=by
 refine Qz puSe_ok 7 236 (fun _=>none) (fun _ _ f h=>by simp at h) Py Yu (fun e=>by cases e <;> exact Nat.le_refl _) A5b (fun g=>A94 g.1.2.2.1 g.1.2.2.2.1 g.1.2.2.2.2.1 g.1.2.2.2.2.2.1 (cmI g) (ssI g)) Bj1 ?_
 intro g R _ hf
 obtain ⟨hf,h0⟩:=hf
 cases hc:okI g.1.2.2.1 g.1.2.2.2.1 (cmI g) (ssI g) with
 | false=>exact (h0 hc).elim
 | true =>
  obtain ⟨h1,h2⟩:=hf hc
  obtain ⟨k1,k2,k3,k4,k5,k6,k7,k8⟩:=of_decide_eq_true hc
  exact ⟨_,B1j (fun _ _ _ _ _ _=>rfl) R g.1.2.2.1 g.1.2.2.2.2.1 g.1.2.2.2.2.2.1 (cmI g) k1 k2 k5 k6 ((cmI g).m-g.1.2.2.2.1).toNat g.1.2.2.2.1 (ssI g) k3 (Int.toNat_of_nonneg (Int.sub_nonneg.2 k4)).symm k7 k8 h1 h2⟩
end V
end Go.Proofs.YtlangijnealfjaaGreat
namespace Go.Proofs.YtlangijnealfjaaGreat
open Go.RowKit
namespace V
noncomputable def At0:M7:=fun k=>bif Nat.beq k 4 then some (Hp Py Yu A5b) else none
def cmO (g:Ql.T):Cm:=⟨g.2.1.1.1,g.2.1.2.1.1,g.2.1.2.1.2.1,g.2.1.2.2.1.1,g.2.1.2.2.2.1.1,g.2.1.2.2.2.2.1.1,g.2.1.2.2.2.2.2.2.2.1.1⟩
def ssO (g:Ql.T):SS:=(g.2.1.2.2.2.2.2.1.1,g.2.1.2.2.2.2.2.2.1.1)
def A95 (n j:Int) (c:Cm) (s:SS):Tree (Ql.T⊕F6 A1w) :=
 bif decide (j<n) then
  .need (Kd [Nh]) (bif okI j (W64 (j+1)) c s then
   bif okS (inR c.l c.re c.dr j.toNat (c.m-W64 (j+1)).toNat (W64 (j+1)).toNat s) then .need (Kd [Nh]) (.leaf (.inl (Og n (W64 (j+1)) c (A59 (inR c.l c.re c.dr j.toNat (c.m-W64 (j+1)).toNat (W64 (j+1)).toNat s)))))
   else .need (Kd [A31]) (.leaf (.inr ⟨.ret,Rs 4⟩)) else .fail)
 else .need (Kd [Nh]) (.leaf (.inr ⟨.exit 0,Og n j c s⟩))
theorem Bj3 (g:Ql.T):evC Tryz.prog (D1 A4x 7) A4x.pures 236 A4x.u At0 A93 (Ql.of g) (Ho Ql A1w)=A95 g.1.2.2.1 g.1.2.2.2.1 (cmO g) (ssO g):=by kernel_rfl
def okO (n j:Int) (c:Cm) (s:SS):Bool:=decide (0≤j∧j≤n∧n=c.m∧c.m=(c.l.length:Int)∧c.l.length≤1000∧s.1.length=c.l.length∧s.2.length+(n-j).toNat*1000≤1000000)
def B1k (n j:Int) (c:Cm) (s:SS):Tree (F6 A1w) :=
 .br (okO n j c s) (.br (okS (I5 c.l c.re c.dr (n-j).toNat j.toNat s)) (.leaf ⟨.exit 0,Og n n c (A59 (I5 c.l c.re c.dr (n-j).toNat j.toNat s))⟩) (.leaf ⟨.ret,Rs 4⟩)) .fail
def Adp (g:Ql.T):Tree (F6 A1w):=B1k g.1.2.2.1 g.1.2.2.2.1 (cmO g) (ssO g)
theorem M1 (l:List (TCT A3)) (re dr:Int) (i:Nat) (s:SS):I5 l re dr 0 i s=some s:=rfl
theorem Jt (l:List (TCT A3)) (re dr:Int) (f i:Nat) (s:SS):I5 l re dr (f+1) i s=(inR l re dr i (l.length-(i+1)) (i+1) s).bind fun s'=>I5 l re dr f (i+1) s':=rfl
theorem B1l {step:Ql.T→Tree (Ql.T⊕F6 A1w)} (hs:∀ n j c s,step (Og n j c s)=A95 n j c s) (R:F6 A1w→Prop) (n:Int) (c:Cm) (hn:n=c.m) (hm:c.m=(c.l.length:Int)) (hl:c.l.length≤1000) (f:Nat) :
  ∀ (j:Int) (s:SS),0≤j→n-j=f→s.1.length=c.l.length→s.2.length+f*1000≤1000000→(okS (I5 c.l c.re c.dr f j.toNat s)=true→R ⟨.exit 0,Og n n c (A59 (I5 c.l c.re c.dr f j.toNat s))⟩) →
   (okS (I5 c.l c.re c.dr f j.toNat s)=false→R ⟨.ret,Rs 4⟩)→A0g Ql A1w step R (f+1) (Og n j c s):=by
 induction f with
 | zero =>
  intro j s _ hk _ _ h1 _
  have e:j=n:=by omega
  subst e
  intro _
  rw [hs]
  unfold A95
  rw [decide_eq_false (show ¬ j<j by omega)]
  exact ⟨Ew _,fun _=>h1 rfl⟩
 | succ f ih =>
  intro j s hj hk hsl hsh h1 h2
  intro _
  rw [hs]
  unfold A95
  rw [Jt] at h1 h2
  have hjt:(j+1).toNat=j.toNat+1:=by omega
  have hmk:(c.m-(j+1)).toNat=c.l.length-(j.toNat+1):=by omega
  have hok:okI j (j+1) c s=true:=decide_eq_true ⟨hj,by omega,by omega,by omega,hm,hl,hsl,by omega⟩
  rw [show W64 (j+1)=j+1 from A7 (by omega) (by omega),decide_eq_true (show j<n by omega),hok,hjt,hmk]
  refine ⟨Ew _,?_⟩
  cases he:inR c.l c.re c.dr j.toNat (c.l.length-(j.toNat+1)) (j.toNat+1) s with
  | none =>
   rw [he] at h2
   exact ⟨Ew _,fun _=>h2 rfl⟩
  | some s' =>
   rw [he,Option.bind_some] at h1 h2
   have hlen:=Ahq _ _ _ _ he
   refine ⟨Ew _,ih (j+1) s' (by omega) (by omega) (hlen.1.trans hsl) (by omega) ?_ ?_⟩
   ·rw [hjt];exact h1
   ·rw [hjt];exact h2
theorem Bj4:Aw Tryz.prog 236 A93 (Hp Ql A1w Adp):=by
 refine Qz puSe_ok 7 236 At0 ?_ Ql A1w (fun e=>by cases e <;> first | exact Nat.le_refl _ | exact (show 900≤1000 by omega)) Adp (fun g=>A95 g.1.2.2.1 g.1.2.2.2.1 (cmO g) (ssO g)) Bj3 ?_
 ·intro d hd f hf
  have hl:Al A93=[A32]:=by kernel_rfl
  rw [hl,List.mem_singleton] at hd
  subst hd
  have hk:keyOf A32=4:=by kernel_rfl
  rw [hk] at hf
  have:At0 4=some (Hp Py Yu A5b):=rfl
  rw [this,Option.some.injEq] at hf
  subst hf
  exact Bj2
 intro g R _ hf
 obtain ⟨hf,h0⟩:=hf
 cases hc:okO g.1.2.2.1 g.1.2.2.2.1 (cmO g) (ssO g) with
 | false=>exact (h0 hc).elim
 | true =>
  obtain ⟨h1,h2⟩:=hf hc
  obtain ⟨k1,k2,k3,k4,k5,k6,k7⟩:=of_decide_eq_true hc
  exact ⟨_,B1l (fun _ _ _ _=>rfl) R g.1.2.2.1 (cmO g) k3 k4 k5 (g.1.2.2.1-g.1.2.2.2.1).toNat g.1.2.2.2.1 (ssO g) k1 (Int.toNat_of_nonneg (Int.sub_nonneg.2 k2)).symm k6 k7 h1 h2⟩
theorem is_Settle:FnIs Tryz.prog (135,Tryz.f135):=⟨Tryz.func135,by kernel_rfl,by kernel_rfl⟩
theorem is_pairs:FnIs Tryz.prog (198,Tryz.f198):=⟨Tryz.func198,by kernel_rfl,by kernel_rfl⟩
theorem is_pairs1:FnIs Tryz.prog (236,Tryz.f236):=⟨Tryz.func236,by kernel_rfl,by kernel_rfl⟩
abbrev B1m:=TCTs [.sl B0,.sl Hk,cI]
def Bw (l:List (TCT A3)) (s:List (TCT B0)) (re dr:Int):B1m :=
 bif Mk l s != 0 then ([],[],Mk l s,()) else bif !Hw re dr then ([],[],2,()) else
 bif okS (I5 l re dr l.length 0 (s,[])) then ((A59 (I5 l re dr l.length 0 (s,[]))).1,(A59 (I5 l re dr l.length 0 (s,[]))).2,0,()) else ([],[],4,())
def plSet:List (Nat×PureT):=(197,A90)::(124,Fu)::plBn
theorem puSet:D3 Tryz.prog plSet:=puOk_cons is_lcheck.plain Asx (puOk_cons is_CheckBounce.plain Lh puBn)
noncomputable def A96:Ctx:=G4 Tryz.prog plSet [(135,Tryz.f135),(198,Tryz.f198),(236,Tryz.f236)] [((236,1),Hp Ql A1w Adp)]
def Sf (l:List (TCT A3)) (s:List (TCT B0)) (re dr:Int):Tree B1m :=
 bif Mk l s != 0 then .leaf ([],[],Mk l s,()) else bif okE (Hw re dr)!=0 then .leaf ([],[],okE (Hw re dr),()) else
 bif Df ([]:List (TCT B0)) s 48 then
  .need (Kd [Nh]) (bif okO (l.length:Int) 0 ⟨l,re,dr,[],[],0,(l.length:Int)⟩ (s,[]) then
   bif okS (I5 l re dr ((l.length:Int)-0).toNat (0:Int).toNat (s,[])) then .leaf ((A59 (I5 l re dr ((l.length:Int)-0).toNat (0:Int).toNat (s,[]))).1,(A59 (I5 l re dr ((l.length:Int)-0).toNat (0:Int).toNat (s,[]))).2,0,()) else .leaf ([],[],4,()) else .fail) else .fail
theorem A97 (x:TCTs [.sl A3,.sl B0,Cj]):D1 A96 7 (.fn 135) (E7 [.sl A3,.sl B0,Cj] x) Ce 0 (Hx Tryz.prog [.sl B0,.sl Hk,cI])=Sf x.1 x.2.1 x.2.2.1.1 x.2.2.1.2.1:=by kernel_rfl
theorem Adq {l:List (TCT A3)} {s:List (TCT B0)} (h:Mk l s=0):l.length≤8∧l.length=s.length∧(l.zip s).all Qk=true:=by
 unfold Mk at h
 cases h1:decide ((l.length:Int)>8) with
 | true=>rw [h1] at h;simp at h
 | false =>
  rw [h1,cond_false] at h
  cases h2:((l.length:Int)!=(s.length:Int)) with
  | true=>rw [h2] at h;simp at h
  | false =>
   rw [h2,cond_false] at h
   have k1:=of_decide_eq_false h1
   have k2:(l.length:Int)=(s.length:Int):=by simpa using h2
   refine ⟨by omega,by omega,?_⟩
   cases h3:(l.zip s).all Qk with
   | true=>rfl
   | false=>rw [h3] at h;simp [okE] at h
theorem A98 (l:List (TCT A3)) (s:List (TCT B0)) (re dr:Int):(Sf l s re dr).sat (fun y=>y=Bw l s re dr):=by
 unfold Sf Bw
 cases hc:Mk l s != 0 with
 | true=>exact Eq.refl _
 | false =>
  have hc':Mk l s=0:=by simpa using hc
  obtain ⟨k1,k2,_⟩:=Adq hc'
  unfold okE
  cases hb:Hw re dr with
  | false=>exact Eq.refl _
  | true =>
   have ha:Df ([]:List (TCT B0)) s 48=true:=by
    rw [G2];refine decide_eq_true ?_;simp only [List.length_nil];omega
   have ho:okO (l.length:Int) 0 ⟨l,re,dr,[],[],0,(l.length:Int)⟩ (s,[])=true:=decide_eq_true ⟨by omega,by omega,rfl,rfl,by show l.length≤1000;omega,k2.symm,by show 0+((l.length:Int)-0).toNat*1000≤1000000;omega⟩
   rw [ha,ho,show ((l.length:Int)-0).toNat=l.length by omega,show (0:Int).toNat=0 from rfl]
   refine ⟨Ew _,?_⟩
   cases okS (I5 l re dr l.length 0 (s,[])) <;> exact Eq.refl _
theorem A99:CtxOk A96:=by
 refine Bs Ak puSet (fns_cons is_Settle (fns_cons is_pairs (fns_cons is_pairs1 A0))) ?_
 intro p hp d hd g hg
 simp only [List.mem_cons,List.not_mem_nil,or_false] at hp
 rcases hp with rfl | rfl | rfl
 ·simp only [Co] at hg
  rw [show Nat.beq 236 135=false from rfl,Bool.false_and] at hg
  cases hg
 ·simp only [Co] at hg
  rw [show Nat.beq 236 198=false from rfl,Bool.false_and] at hg
  cases hg
 ·have hl:Al (bodyOf Tryz.f236)=[A93,A32]:=by kernel_rfl
  simp only at hd hg
  rw [hl] at hd
  simp only [List.mem_cons,List.not_mem_nil,or_false] at hd
  rcases hd with rfl | rfl
  ·have hk:keyOf A93=1:=by kernel_rfl
   rw [hk] at hg
   simp [Co] at hg
   subst hg
   exact Bj4
  ·have hk:keyOf A32=4:=by kernel_rfl
   rw [hk] at hg
   simp only [Co] at hg
   rw [show Nat.beq 1 4=false from rfl,Bool.and_false] at hg
   cases hg
abbrev A9a:PureT:=Bj [.sl A3,.sl B0,Cj] [.sl B0,.sl Hk,cI] (fun _=>true) (fun x=>((Bw x.1 x.2.1 x.2.2.1.1 x.2.2.1.2.1).1,(Bw x.1 x.2.1 x.2.2.1.1 x.2.2.1.2.1).2.1,(Bw x.1 x.2.1 x.2.2.1.1 x.2.2.1.2.1).2.2.1,()))
theorem At1:A6 Tryz.prog 135 A9a:=Bl A99 7 (fun x=>Sf x.1 x.2.1 x.2.2.1.1 x.2.2.1.2.1) (fun x=>A97 x) fun _ _ _=>A98 _ _ _ _
end V
end Go.Proofs.YtlangijnealfjaaGreat
namespace Go.Proofs.YtlangijnealfjaaGreat
open Go.RowKit
namespace V
structure Dm where
 l:List (TCT A3)
 s0:List (TCT B0)
 re:Int
 dr:Int
 r1:List (TCT B0)
 r2:List (TCT Hk)
 r3:Int
end V
end Go.Proofs.YtlangijnealfjaaGreat
