import Derived.Test.YtlangijnealfjaaGreatUj
import Derived.Test.YtlangijnealfjaaGreatVC
namespace Go.Proofs.YtlangijnealfjaaGreat
open Go.RowKit
namespace V
theorem is_lcheck:FnIs Tryz.prog (197,Tryz.f197):=⟨Tryz.func197,by kernel_rfl,by kernel_rfl⟩
theorem B3d {i n:Nat} (h:i<n) (hn:(n:Int)≤B0 .i64):W64 ((i:Int)+1)=((i+1:Nat):Int):=by
 simp only [B0] at hn
 rw [show W64 ((i:Int)+1)=(i:Int)+1 from A6 (by omega) (by omega)];rfl
def P4 (p:TCT A2×TCT Au):Bool:=(bm p.1 p.2).ok
noncomputable def B80:Code:=(Aj (bodyOf Tryz.f197)).getD 0 .skip
def Aau:Lay:={ keys:=[0,1,4,18,19,20],ks:=[.d (.sl A2),.d (.sl Au),.d cI,.d (.sl A2),.d cI,.d cI],bs:=[],n:=35,nx:=1000,marks:=[] }
def B81:Lay:={ keys:=[4],ks:=[.d cI],bs:=[],n:=35,nx:=1000,marks:=[] }
def Aav:XE→Lay:=fun _=>B81
def Cg (l:List (TCT A2)) (s:List (TCT Au)) (e:Int) (l':List (TCT A2)) (n i:Int):Aau.T:=((l,s,e,l',n,i,()),())
def Cr (e:Int):B81.T:=((e,()),())
def B3e (l:List (TCT A2)) (s:List (TCT Au)) (i:Int):Bool:=P4 (Al l i.toNat (Ak A2),Al s i.toNat (Ak Au))
def A6t (l:List (TCT A2)) (s:List (TCT Au)) (e:Int) (l':List (TCT A2)) (n i:Int):Tree (Aau.T⊕A0 Aav) :=
 bif decide (i<n) then bif decide (0≤i∧i<(l'.length:Int)) then bif decide (0≤i∧i<(s.length:Int)) then
  bif okE (B3e l' s i)!=0 then .leaf (.inr ⟨.ret,Cr (okE (B3e l' s i))⟩) else .leaf (.inl (Cg l s e l' n (W64 (i+1)))) else .fail else .fail else .leaf (.inr ⟨.exit 1,Cr e⟩)
def Aaw (g:Aau.T):Tree (A0 Aav) :=
 .br (decide (g.1.2.2.2.2.1=(g.1.2.2.2.1.length:Int)∧g.1.2.2.2.1.length=g.1.2.1.length∧g.1.2.2.2.2.2.1=0)) (.br ((g.1.2.2.2.1.zip g.1.2.1).all P4) (.leaf ⟨.exit 1,Cr g.1.2.2.1⟩) (.leaf ⟨.ret,Cr 2⟩)) .fail
def Awm (p:TCT A2×TCT Au) (_:Nat) (_:Unit):Unit⊕A0 Aav:=bif P4 p then .inl () else .inr ⟨.ret,Cr 2⟩
theorem Aoy (e:Int):∀ (l:List (TCT A2×TCT Au)) (i:Nat),A86 Awm (fun _=>(⟨.exit 1,Cr e⟩:A0 Aav)) l i ()=bif l.all P4 then ⟨.exit 1,Cr e⟩ else ⟨.ret,Cr 2⟩
 | [],i=>rfl
 | p::l,i=>by
  simp only [A86,Awm,List.all_cons]
  cases P4 p with
  | false=>rfl
  | true=>exact Aoy e l (i+1)
theorem B3f {α β:Type} {l:List α} {s:List β} {i:Nat} (h:i<(l.zip s).length) (h1:i<l.length) (h2:i<s.length) (d:α) (e:β):(l.zip s)[i]=(Al l i d,Al s i e):=by
 rw [List.getElem_zip,D2 h1,D2 h2]
theorem Bbe:Ax Tryz.prog 197 B80 (As Aau Aav Aaw):=by
 refine F7 (X:=ctx Tryz.prog plK []) (Ap Am puK A3) 7 197 (fun _=>none) (fun _ _ f h=>by simp at h) Aau Aav (fun _=>Nat.le_refl _) Aaw (fun g=>A6t g.1.1 g.1.2.1 g.1.2.2.1 g.1.2.2.2.1 g.1.2.2.2.2.1 g.1.2.2.2.2.2.1) (fun g=>by kernel_rfl) ?_
 rintro ⟨⟨l0,s,e,l,n,i,⟨⟩⟩,⟨⟩⟩ R hw hf
 obtain ⟨hf,h0⟩:=hf
 by_cases hc:n=(l.length:Int)∧l.length=s.length∧i=0
 ·obtain ⟨rfl,hls,rfl⟩:=hc
  have hf:=hf (decide_eq_true ⟨rfl,hls,rfl⟩)
  have hlen:(l.length:Int)≤B0 .i64:=by
   simp only [Lay.WF,Aau,WFKs,WFK,WFD] at hw
   exact hw.1.2.2.2.1.1
  have hz:(l.zip s).length=l.length:=by rw [List.length_zip,← hls,Nat.min_self]
  refine ⟨_,T8 (l.zip s) (fun i _=>Cg l0 s e l l.length i) Awm (fun _=>⟨.exit 1,Cr e⟩) (fun _=>True) ?_ ?_ (l.zip s).length 0 () (by omega) trivial ?_⟩
  ·intro i _ hi Q _ _ hQ
   have h1:i<l.length:=by omega
   have h2:i<s.length:=by omega
   show (A6t l0 s e l l.length i).sat Q
   unfold A6t B3e
   rw [decide_eq_true (show (i:Int)<l.length by omega),decide_eq_true (show 0≤(i:Int)∧(i:Int)<l.length by omega),decide_eq_true (show 0≤(i:Int)∧(i:Int)<s.length by omega),B3d h1 hlen]
   have ht:(i:Int).toNat=i:=by omega
   rw [B3f hi h1 h2 (Ak A2) (Ak Au)] at hQ
   rw [ht]
   unfold Awm at hQ
   cases hk:P4 (Al l i (Ak A2),Al s i (Ak Au)) with
   | true=>rw [hk] at hQ;exact hQ trivial
   | false=>rw [hk] at hQ;exact hQ
  ·intro _ Q _ hQ
   show (A6t l0 s e l l.length ((l.zip s).length:Nat)).sat Q
   rw [hz]
   unfold A6t
   rw [decide_eq_false (show ¬ (l.length:Int)<l.length by omega)]
   exact hQ
  ·rw [List.drop_zero,Aoy]
   obtain ⟨h1,h2⟩:=hf
   cases ha:(l.zip s).all P4 with
   | true=>exact h1 ha
   | false=>exact h2 ha
 ·exact (h0 (decide_eq_false hc)).elim
def Kn (l:List (TCT A2)) (s:List (TCT Au)):Int:=bif decide ((l.length:Int)>8) then 6 else bif (l.length:Int)!=(s.length:Int) then 17 else okE ((l.zip s).all P4)
abbrev A6u:PureT:=Be [.sl A2,.sl Au] [cI] (fun _=>true) (fun x=>(Kn x.1 x.2.1,()))
noncomputable def Aoz:Ctx:=Ib Tryz.prog plK [(197,Tryz.f197)] [((197,6),As Aau Aav Aaw)]
theorem A6v:CtxOk Aoz:=Cj Am puK (fns_cons is_lcheck A3) (Bw (by kernel_rfl) (by kernel_rfl) Bbe)
def Wy (l:List (TCT A2)) (s:List (TCT Au)):Tree (TCTs [cI]) :=
 bif decide ((l.length:Int)>8) then .leaf (6,()) else bif (l.length:Int)!=(s.length:Int) then .leaf (17,()) else
 bif decide ((l.length:Int)=(l.length:Int)∧l.length=s.length∧(0:Int)=0) then bif (l.zip s).all P4 then .leaf (0,()) else .leaf (2,()) else .fail
theorem A6w (l:List (TCT A2)) (s:List (TCT Au)):(Wy l s).sat (fun y=>y=(Kn l s,())):=by
 unfold Wy Kn
 cases decide ((l.length:Int)>8) with
 | true=>exact rfl
 | false =>
  cases h:((l.length:Int)!=(s.length:Int)) with
  | true=>exact rfl
  | false =>
   have h':l.length=s.length:=by
                     have:(l.length:Int)=(s.length:Int):=by simpa using h
                     omega
   rw [decide_eq_true (show (l.length:Int)=(l.length:Int)∧l.length=s.length∧(0:Int)=0 from ⟨rfl,h',rfl⟩)]
   cases (l.zip s).all P4 <;> exact rfl
theorem Ap0:A7 Tryz.prog 197 A6u:=Bh A6v 3 (fun x=>Wy x.1 x.2.1) (fun x=>by kernel_rfl) fun _ _ _=>A6w _ _
end V
end Go.Proofs.YtlangijnealfjaaGreat
namespace Go.Proofs.YtlangijnealfjaaGreat
open Go.RowKit
namespace V
abbrev Gz:TC:=.st [cI,cI]
abbrev SS:=List (TCT Au)×List (TCT Gz)
def bAt (l:List (TCT A2)) (o:List (TCT Au)) (i:Nat):Bm:=bm (Al l i (Ak A2)) (Al o i (Ak Au))
@[irreducible] def Ed (l:List (TCT A2)) (re dr:Int) (i k:Nat) (s:SS):Option SS :=
 bif (Bj (bAt l s.1 i) (bAt l s.1 k) re dr).2.2.1==0 then some (B9 (B9 s.1 i (Bj (bAt l s.1 i) (bAt l s.1 k) re dr).1) k (Bj (bAt l s.1 i) (bAt l s.1 k) re dr).2.1,s.2++[((i:Int),(k:Int),())]) else
 bif (Bj (bAt l s.1 i) (bAt l s.1 k) re dr).2.2.1==4 then none else some s
def inR (l:List (TCT A2)) (re dr:Int) (i:Nat):Nat→Nat→SS→Option SS
 | 0,_,s=>some s
 | f+1,k,s=>(Ed l re dr i k s).bind fun s'=>inR l re dr i f (k+1) s'
def Hd (l:List (TCT A2)) (re dr:Int):Nat→Nat→SS→Option SS
 | 0,_,s=>some s
 | f+1,i,s=>(inR l re dr i (l.length-(i+1)) (i+1) s).bind fun s'=>Hd l re dr f (i+1) s'
def okS (x:Option SS):Bool:=match x with
 | some _=>true
 | none=>false
def A38 (x:Option SS):SS:=match x with
 | some s=>s
 | none=>([],[])
theorem C2 {β:Type} (l:List β) (i:Nat) (x:β):(B9 l i x).length=l.length:=by rw [Bf];simp
theorem Ah8 {l:List (TCT A2)} {re dr:Int} {i k:Nat} {s s':SS} (h:Ed l re dr i k s=some s'):s'.1.length=s.1.length∧s'.2.length≤s.2.length+1:=by
 unfold Ed at h
 cases h1:(Bj (bAt l s.1 i) (bAt l s.1 k) re dr).2.2.1==0 with
 | true =>
  rw [h1] at h
  simp only [cond_true,Option.some.injEq] at h
  subst h
  simp [C2]
 | false =>
  rw [h1,cond_false] at h
  cases h2:(Bj (bAt l s.1 i) (bAt l s.1 k) re dr).2.2.1==4 with
  | true=>rw [h2] at h;simp at h
  | false=>rw [h2] at h;simp only [cond_false,Option.some.injEq] at h;subst h;exact ⟨rfl,by omega⟩
theorem Aek {l:List (TCT A2)} {re dr:Int} {i:Nat} (f:Nat):∀ (k:Nat) (s s':SS),inR l re dr i f k s=some s'→s'.1.length=s.1.length∧s'.2.length≤s.2.length+f:=by
 induction f with
 | zero=>intro k s s' h;rw [inR,Option.some.injEq] at h;subst h;exact ⟨rfl,by omega⟩
 | succ f ih =>
  intro k s s' h
  rw [inR] at h
  cases h1:Ed l re dr i k s with
  | none=>rw [h1] at h;simp at h
  | some s1 =>
   rw [h1,Option.bind_some] at h
   have a:=Ah8 h1
   have b:=ih (k+1) s1 s' h
   exact ⟨b.1.trans a.1,by omega⟩
noncomputable def M4:LK:={ id:=10,keys:=[3,5,6,7,8,11,12],ks:=[.p 0 0 0 0,.p 1 0 0 0,.p 2 0 0 0,.p 3 0 0 0,.p 4 0 0 0,.p 6 0 0 0,.p 7 0 0 0],n:=80,fn:=135,params:=[34,35],assign:=(rangeAt Tryz.f135 0).1,body:=(rangeAt Tryz.f135 0).2,df:=9,st:=some 0 }
noncomputable def A1c:LK:={ id:=10,keys:=[],ks:=[],n:=80,fn:=135,params:=[34,35],assign:=(rangeAt Tryz.f135 0).1,body:=(rangeAt Tryz.f135 0).2,df:=9,st:=some 1 }
def Ap1:List BK:=[(0,60,[.d (.sl A2)]),(1,62,[.d cI,.d cI]),(2,73,[.d (.sl Au)]),(3,38,[.d (.sl Gz)]),(4,39,[.d cI]),(6,73,[.o 84 Au]),(7,38,[.o 48 Gz]),(8,3,[.d cI])]
def B82:List BK:=[(2,73,[.d (.sl Au)]),(3,38,[.d (.sl Gz)]),(4,39,[.d cI])]
noncomputable def Oa:Lay2:={ keys:=[0,1,3,4,5,6],ks:=[.y 10,.p 8 0 0 0,.d cI,.d cI,.d cI,.d cI],bs:=Ap1,ls:=[M4],n:=22,nx:=1000,marks:=[],ds:=[9] }
noncomputable def P5:Lay2:={ keys:=[0,1,5,6],ks:=[.y 10,.p 8 0 0 0,.d cI,.d cI],bs:=Ap1,ls:=[M4],n:=22,nx:=900,marks:=[],ds:=[9] }
noncomputable def B3g:Lay2:={ keys:=[],ks:=[],bs:=B82,ls:=[A1c],n:=22,nx:=1000,marks:=[],ds:=[9] }
noncomputable def Wz:XE→Lay2:=fun e=>match e with | .ret=>B3g | _=>Oa
noncomputable def A07:XE→Lay2:=fun e=>match e with | .ret=>B3g | _=>P5
noncomputable def A1d:Code:=(Aj (bodyOf Tryz.f236)).getD 1 .skip
noncomputable def A6x:Code:=(Aj (bodyOf Tryz.f236)).getD 0 .skip
structure Cm where
 l:List (TCT A2)
 re:Int
 dr:Int
 r1:List (TCT Au)
 r2:List (TCT Gz)
 r3:Int
 m:Int
abbrev BSe:=BTs Ap1
def bSe (c:Cm) (s:SS):BSe:=((c.l,()),(c.re,c.dr,()),(c.r1,()),(c.r2,()),(c.r3,()),(s.1,()),(s.2,()),(c.m,()),())
abbrev lSe:LTs [M4]:=(((((),(),(),(),(),(),(),()):SKTs M4.ks),((():Unit):StT M4.st)),())
abbrev lSr:LTs [A1c]:=((((():Unit):SKTs A1c.ks),((():Unit):StT A1c.st)),())
def Ig (i k n j:Int) (c:Cm) (s:SS):Oa.T:=(((),(),i,k,n,j,()),bSe c s,lSe)
def Og (n j:Int) (c:Cm) (s:SS):P5.T:=(((),(),n,j,()),bSe c s,lSe)
def Rs (e:Int):B3g.T:=((),(([],()),([],()),(e,()),()),lSr)
def A39 (l:List (TCT A2)) (o:List (TCT Au)) (re dr:Int) (i k:Int):Aho:=Bj (bAt l o i.toNat) (bAt l o k.toNat) re dr
def A6y (i k n j:Int) (c:Cm) (s:SS):Tree (Oa.T⊕Fz Wz) :=
 bif decide (k<c.m) then
 bif decide (0≤i∧i<(c.l.length:Int)) then bif decide (0≤i∧i<(s.1.length:Int)) then bif decide (i.toNat<s.1.length) then
 bif decide (0≤k∧k<(c.l.length:Int)) then bif decide (0≤k∧k<(s.1.length:Int)) then bif decide (k.toNat<s.1.length) then
 bif (A39 c.l s.1 c.re c.dr i k).2.2.1==0 then
  bif decide (0≤i∧i<(s.1.length:Int)) then bif decide (i.toNat<s.1.length) then
  bif decide (0≤k∧k<((B9 s.1 i.toNat (A39 c.l s.1 c.re c.dr i k).1).length:Int)) then bif decide (k.toNat<(B9 s.1 i.toNat (A39 c.l s.1 c.re c.dr i k).1).length) then
  bif D4 s.2 [(i,k,())] 16 then
   .need (N1 [M4]) (.leaf (.inl (Ig i (W64 (k+1)) n j c (B9 (B9 s.1 i.toNat (A39 c.l s.1 c.re c.dr i k).1) k.toNat (A39 c.l s.1 c.re c.dr i k).2.1,s.2++[(i,k,())])))) else .fail else .fail else .fail else .fail else .fail
 else bif (A39 c.l s.1 c.re c.dr i k).2.2.1==4 then .need (N1 [A1c]) (.leaf (.inr ⟨.ret,Rs (A39 c.l s.1 c.re c.dr i k).2.2.1⟩)) else .need (N1 [M4]) (.leaf (.inl (Ig i (W64 (k+1)) n j c s)))
 else .fail else .fail else .fail else .fail else .fail else .fail
 else .need (N1 [M4]) (.leaf (.inr ⟨.exit 2,Ig i k n j c s⟩))
def cmI (g:Oa.T):Cm:=⟨g.2.1.1.1,g.2.1.2.1.1,g.2.1.2.1.2.1,g.2.1.2.2.1.1,g.2.1.2.2.2.1.1,g.2.1.2.2.2.2.1.1,g.2.1.2.2.2.2.2.2.2.1.1⟩
def ssI (g:Oa.T):SS:=(g.2.1.2.2.2.2.2.1.1,g.2.1.2.2.2.2.2.2.1.1)
def plBn:List (Nat×PureT):=[(199,A7f)]
theorem puBn:Ci Tryz.prog plBn:=puOk_cons is_Bounce.plain Apy puOk_nil
noncomputable def A2z:Ctx:=ctx Tryz.prog plBn [(135,Tryz.f135)]
theorem Bbf (g:Oa.T):evC Tryz.prog (Dh A2z 7) A2z.pures 236 A2z.u (fun _=>none) A1d (Oa.of g) (Jg Oa Wz)=A6y g.1.2.2.1 g.1.2.2.2.1 g.1.2.2.2.2.1 g.1.2.2.2.2.2.1 (cmI g) (ssI g):=by kernel_rfl
theorem Awn (l:List (TCT A2)) (o:List (TCT Au)) (re dr i k:Int):A39 l o re dr i k=Bj (bAt l o i.toNat) (bAt l o k.toNat) re dr:=by unfold A39;exact Eq.refl _
theorem B83 {β:Type} {h:List β} {x:β} (k:h.length≤1000000):D4 h [x] 16=true:=by
 rw [F2]
 refine decide_eq_true ?_
 simp only [List.length_cons,List.length_nil]
 omega
def okI (i k:Int) (c:Cm) (s:SS):Bool:=decide (0≤i∧i<(c.l.length:Int)∧i+1≤k∧k≤c.m∧c.m=(c.l.length:Int)∧c.l.length≤1000∧s.1.length=c.l.length∧s.2.length+(c.m-k).toNat≤1000000)
def Awo (i k n j:Int) (c:Cm) (s:SS):Tree (Fz Wz) :=
 .br (okI i k c s) (.br (okS (inR c.l c.re c.dr i.toNat (c.m-k).toNat k.toNat s)) (.leaf ⟨.exit 2,Ig i c.m n j c (A38 (inR c.l c.re c.dr i.toNat (c.m-k).toNat k.toNat s))⟩) (.leaf ⟨.ret,Rs 4⟩)) .fail
def A3a (g:Oa.T):Tree (Fz Wz):=Awo g.1.2.2.1 g.1.2.2.2.1 g.1.2.2.2.2.1 g.1.2.2.2.2.2.1 (cmI g) (ssI g)
theorem Ap2 (l:List (TCT A2)) (re dr:Int) (i f k:Nat) (s:SS):inR l re dr i (f+1) k s=(Ed l re dr i k s).bind fun s'=>inR l re dr i f (k+1) s':=rfl
theorem Awp {step:Oa.T→Tree (Oa.T⊕Fz Wz)} (hs:∀ i k n j c s,step (Ig i k n j c s)=A6y i k n j c s) (R:Fz Wz→Prop) (i n j:Int) (c:Cm) (hi:0≤i) (hil:i<(c.l.length:Int)) (hm:c.m=(c.l.length:Int)) (hl:c.l.length≤1000) (f:Nat) :
  ∀ (k:Int) (s:SS),i+1≤k→c.m-k=f→s.1.length=c.l.length→s.2.length+f≤1000000→(okS (inR c.l c.re c.dr i.toNat f k.toNat s)=true→R ⟨.exit 2,Ig i c.m n j c (A38 (inR c.l c.re c.dr i.toNat f k.toNat s))⟩) →
   (okS (inR c.l c.re c.dr i.toNat f k.toNat s)=false→R ⟨.ret,Rs 4⟩)→A85 Oa Wz step R (f+1) (Ig i k n j c s):=by
 induction f with
 | zero =>
  intro k s _ hk _ _ h1 _
  have e:k=c.m:=by omega
  subst e
  intro _
  rw [hs]
  unfold A6y
  rw [decide_eq_false (show ¬ c.m<c.m by omega)]
  exact ⟨Fy _,fun _=>h1 rfl⟩
 | succ f ih =>
  intro k s hik hk hsl hsh h1 h2
  intro _
  rw [hs]
  unfold A6y
  rw [Ap2] at h1 h2
  have hlt:k<(c.l.length:Int):=by omega
  have hkn:((k.toNat:Nat):Int)=k:=by omega
  have hin:((i.toNat:Nat):Int)=i:=by omega
  rw [Awn,decide_eq_true (show k<c.m by omega),decide_eq_true (show 0≤i∧i<(c.l.length:Int) from ⟨hi,hil⟩),decide_eq_true (show 0≤i∧i<(s.1.length:Int) by omega),decide_eq_true (show i.toNat<s.1.length by omega),
   decide_eq_true (show 0≤k∧k<(c.l.length:Int) by omega),decide_eq_true (show 0≤k∧k<(s.1.length:Int) by omega),decide_eq_true (show k.toNat<s.1.length by omega),C2,decide_eq_true (show 0≤k∧k<(s.1.length:Int) by omega),decide_eq_true (show k.toNat<s.1.length by omega),
   B83 (show s.2.length≤1000000 by omega),show W64 (k+1)=k+1 from A6 (by omega) (by omega)]
  have hkt:(k+1).toNat=k.toNat+1:=by omega
  cases e1:(Bj (bAt c.l s.1 i.toNat) (bAt c.l s.1 k.toNat) c.re c.dr).2.2.1==0 with
  | true =>
   have hst:Ed c.l c.re c.dr i.toNat k.toNat s=some (B9 (B9 s.1 i.toNat (Bj (bAt c.l s.1 i.toNat) (bAt c.l s.1 k.toNat) c.re c.dr).1) k.toNat (Bj (bAt c.l s.1 i.toNat) (bAt c.l s.1 k.toNat) c.re c.dr).2.1,s.2++[(i,k,())]):=by
    unfold Ed;rw [e1,hkn,hin];rfl
   rw [hst,Option.bind_some] at h1 h2
   refine ⟨Fy _,ih (k+1) _ (by omega) (by omega) (by simp only [C2];exact hsl) (by simp only [List.length_append,List.length_cons,List.length_nil];omega) ?_ ?_⟩
   ·rw [hkt];exact h1
   ·rw [hkt];exact h2
  | false =>
   cases e2:(Bj (bAt c.l s.1 i.toNat) (bAt c.l s.1 k.toNat) c.re c.dr).2.2.1==4 with
   | true =>
    have hst:Ed c.l c.re c.dr i.toNat k.toNat s=none:=by unfold Ed;rw [e1,e2];rfl
    rw [hst] at h2
    refine ⟨Fy _,fun _=>?_⟩
    have:=h2 rfl
    rwa [← eq_of_beq e2] at this
   | false =>
    have hst:Ed c.l c.re c.dr i.toNat k.toNat s=some s:=by unfold Ed;rw [e1,e2];rfl
    rw [hst,Option.bind_some] at h1 h2
    refine ⟨Fy _,ih (k+1) _ (by omega) (by omega) hsl (by omega) ?_ ?_⟩
    ·rw [hkt];exact h1
    ·rw [hkt];exact h2
theorem puSe_ok:CtxOk A2z:=Ap Am puBn (fns_cons ⟨Tryz.func135,by kernel_rfl,by kernel_rfl⟩ A3)
theorem Bbg:Ax Tryz.prog 236 A1d (Jh Oa Wz A3a):=by
 refine Yo puSe_ok 7 236 (fun _=>none) (fun _ _ f h=>by simp at h) Oa Wz (fun e=>by cases e <;> exact Nat.le_refl _) A3a (fun g=>A6y g.1.2.2.1 g.1.2.2.2.1 g.1.2.2.2.2.1 g.1.2.2.2.2.2.1 (cmI g) (ssI g)) Bbf ?_
 intro g R _ hf
 obtain ⟨hf,h0⟩:=hf
 cases hc:okI g.1.2.2.1 g.1.2.2.2.1 (cmI g) (ssI g) with
 | false=>exact (h0 hc).elim
 | true =>
  obtain ⟨h1,h2⟩:=hf hc
  obtain ⟨k1,k2,k3,k4,k5,k6,k7,k8⟩:=of_decide_eq_true hc
  exact ⟨_,Awp (fun _ _ _ _ _ _=>rfl) R g.1.2.2.1 g.1.2.2.2.2.1 g.1.2.2.2.2.2.1 (cmI g) k1 k2 k5 k6 ((cmI g).m-g.1.2.2.2.1).toNat g.1.2.2.2.1 (ssI g) k3 (Int.toNat_of_nonneg (Int.sub_nonneg.2 k4)).symm k7 k8 h1 h2⟩
end V
end Go.Proofs.YtlangijnealfjaaGreat
namespace Go.Proofs.YtlangijnealfjaaGreat
open Go.RowKit
namespace V
noncomputable def Ap3:Kr:=fun k=>bif Nat.beq k 4 then some (Jh Oa Wz A3a) else none
def cmO (g:P5.T):Cm:=⟨g.2.1.1.1,g.2.1.2.1.1,g.2.1.2.1.2.1,g.2.1.2.2.1.1,g.2.1.2.2.2.1.1,g.2.1.2.2.2.2.1.1,g.2.1.2.2.2.2.2.2.2.1.1⟩
def ssO (g:P5.T):SS:=(g.2.1.2.2.2.2.2.1.1,g.2.1.2.2.2.2.2.2.1.1)
def A6z (n j:Int) (c:Cm) (s:SS):Tree (P5.T⊕Fz A07) :=
 bif decide (j<n) then
  .need (N1 [M4]) (bif okI j (W64 (j+1)) c s then
   bif okS (inR c.l c.re c.dr j.toNat (c.m-W64 (j+1)).toNat (W64 (j+1)).toNat s) then .need (N1 [M4]) (.leaf (.inl (Og n (W64 (j+1)) c (A38 (inR c.l c.re c.dr j.toNat (c.m-W64 (j+1)).toNat (W64 (j+1)).toNat s)))))
   else .need (N1 [A1c]) (.leaf (.inr ⟨.ret,Rs 4⟩)) else .fail)
 else .need (N1 [M4]) (.leaf (.inr ⟨.exit 0,Og n j c s⟩))
theorem Bbh (g:P5.T):evC Tryz.prog (Dh A2z 7) A2z.pures 236 A2z.u Ap3 A6x (P5.of g) (Jg P5 A07)=A6z g.1.2.2.1 g.1.2.2.2.1 (cmO g) (ssO g):=by kernel_rfl
def okO (n j:Int) (c:Cm) (s:SS):Bool:=decide (0≤j∧j≤n∧n=c.m∧c.m=(c.l.length:Int)∧c.l.length≤1000∧s.1.length=c.l.length∧s.2.length+(n-j).toNat*1000≤1000000)
def Awq (n j:Int) (c:Cm) (s:SS):Tree (Fz A07) :=
 .br (okO n j c s) (.br (okS (Hd c.l c.re c.dr (n-j).toNat j.toNat s)) (.leaf ⟨.exit 0,Og n n c (A38 (Hd c.l c.re c.dr (n-j).toNat j.toNat s))⟩) (.leaf ⟨.ret,Rs 4⟩)) .fail
def Aax (g:P5.T):Tree (Fz A07):=Awq g.1.2.2.1 g.1.2.2.2.1 (cmO g) (ssO g)
theorem Iw (l:List (TCT A2)) (re dr:Int) (i:Nat) (s:SS):Hd l re dr 0 i s=some s:=rfl
theorem He (l:List (TCT A2)) (re dr:Int) (f i:Nat) (s:SS):Hd l re dr (f+1) i s=(inR l re dr i (l.length-(i+1)) (i+1) s).bind fun s'=>Hd l re dr f (i+1) s':=rfl
theorem Awr {step:P5.T→Tree (P5.T⊕Fz A07)} (hs:∀ n j c s,step (Og n j c s)=A6z n j c s) (R:Fz A07→Prop) (n:Int) (c:Cm) (hn:n=c.m) (hm:c.m=(c.l.length:Int)) (hl:c.l.length≤1000) (f:Nat) :
  ∀ (j:Int) (s:SS),0≤j→n-j=f→s.1.length=c.l.length→s.2.length+f*1000≤1000000→(okS (Hd c.l c.re c.dr f j.toNat s)=true→R ⟨.exit 0,Og n n c (A38 (Hd c.l c.re c.dr f j.toNat s))⟩) →
   (okS (Hd c.l c.re c.dr f j.toNat s)=false→R ⟨.ret,Rs 4⟩)→A85 P5 A07 step R (f+1) (Og n j c s):=by
 induction f with
 | zero =>
  intro j s _ hk _ _ h1 _
  have e:j=n:=by omega
  subst e
  intro _
  rw [hs]
  unfold A6z
  rw [decide_eq_false (show ¬ j<j by omega)]
  exact ⟨Fy _,fun _=>h1 rfl⟩
 | succ f ih =>
  intro j s hj hk hsl hsh h1 h2
  intro _
  rw [hs]
  unfold A6z
  rw [He] at h1 h2
  have hjt:(j+1).toNat=j.toNat+1:=by omega
  have hmk:(c.m-(j+1)).toNat=c.l.length-(j.toNat+1):=by omega
  have hok:okI j (j+1) c s=true:=decide_eq_true ⟨hj,by omega,by omega,by omega,hm,hl,hsl,by omega⟩
  rw [show W64 (j+1)=j+1 from A6 (by omega) (by omega),decide_eq_true (show j<n by omega),hok,hjt,hmk]
  refine ⟨Fy _,?_⟩
  cases he:inR c.l c.re c.dr j.toNat (c.l.length-(j.toNat+1)) (j.toNat+1) s with
  | none =>
   rw [he] at h2
   exact ⟨Fy _,fun _=>h2 rfl⟩
  | some s' =>
   rw [he,Option.bind_some] at h1 h2
   have hlen:=Aek _ _ _ _ he
   refine ⟨Fy _,ih (j+1) s' (by omega) (by omega) (hlen.1.trans hsl) (by omega) ?_ ?_⟩
   ·rw [hjt];exact h1
   ·rw [hjt];exact h2
theorem Bbi:Ax Tryz.prog 236 A6x (Jh P5 A07 Aax):=by
 refine Yo puSe_ok 7 236 Ap3 ?_ P5 A07 (fun e=>by cases e <;> first | exact Nat.le_refl _ | exact (show 900≤1000 by omega)) Aax (fun g=>A6z g.1.2.2.1 g.1.2.2.2.1 (cmO g) (ssO g)) Bbh ?_
 ·intro d hd f hf
  have hl:Aj A6x=[A1d]:=by kernel_rfl
  rw [hl,List.mem_singleton] at hd
  subst hd
  have hk:keyOf A1d=4:=by kernel_rfl
  rw [hk] at hf
  have:Ap3 4=some (Jh Oa Wz A3a):=rfl
  rw [this,Option.some.injEq] at hf
  subst hf
  exact Bbg
 intro g R _ hf
 obtain ⟨hf,h0⟩:=hf
 cases hc:okO g.1.2.2.1 g.1.2.2.2.1 (cmO g) (ssO g) with
 | false=>exact (h0 hc).elim
 | true =>
  obtain ⟨h1,h2⟩:=hf hc
  obtain ⟨k1,k2,k3,k4,k5,k6,k7⟩:=of_decide_eq_true hc
  exact ⟨_,Awr (fun _ _ _ _=>rfl) R g.1.2.2.1 (cmO g) k3 k4 k5 (g.1.2.2.1-g.1.2.2.2.1).toNat g.1.2.2.2.1 (ssO g) k1 (Int.toNat_of_nonneg (Int.sub_nonneg.2 k2)).symm k6 k7 h1 h2⟩
theorem is_Settle:FnIs Tryz.prog (135,Tryz.f135):=⟨Tryz.func135,by kernel_rfl,by kernel_rfl⟩
theorem is_pairs:FnIs Tryz.prog (198,Tryz.f198):=⟨Tryz.func198,by kernel_rfl,by kernel_rfl⟩
theorem is_pairs1:FnIs Tryz.prog (236,Tryz.f236):=⟨Tryz.func236,by kernel_rfl,by kernel_rfl⟩
abbrev Aws:=TCTs [.sl Au,.sl Gz,cI]
def Bi (l:List (TCT A2)) (s:List (TCT Au)) (re dr:Int):Aws :=
 bif Kn l s != 0 then ([],[],Kn l s,()) else bif !Gl re dr then ([],[],2,()) else
 bif okS (Hd l re dr l.length 0 (s,[])) then ((A38 (Hd l re dr l.length 0 (s,[]))).1,(A38 (Hd l re dr l.length 0 (s,[]))).2,0,()) else ([],[],4,())
def plSet:List (Nat×PureT):=(197,A6u)::(124,En)::plBn
theorem puSet:Ci Tryz.prog plSet:=puOk_cons is_lcheck.plain Ap0 (puOk_cons is_CheckBounce.plain Kb puBn)
noncomputable def A70:Ctx:=Ib Tryz.prog plSet [(135,Tryz.f135),(198,Tryz.f198),(236,Tryz.f236)] [((236,1),Jh P5 A07 Aax)]
def Qk (l:List (TCT A2)) (s:List (TCT Au)) (re dr:Int):Tree Aws :=
 bif Kn l s != 0 then .leaf ([],[],Kn l s,()) else bif okE (Gl re dr)!=0 then .leaf ([],[],okE (Gl re dr),()) else
 bif D4 ([]:List (TCT Au)) s 48 then
  .need (N1 [M4]) (bif okO (l.length:Int) 0 ⟨l,re,dr,[],[],0,(l.length:Int)⟩ (s,[]) then
   bif okS (Hd l re dr ((l.length:Int)-0).toNat (0:Int).toNat (s,[])) then .leaf ((A38 (Hd l re dr ((l.length:Int)-0).toNat (0:Int).toNat (s,[]))).1,(A38 (Hd l re dr ((l.length:Int)-0).toNat (0:Int).toNat (s,[]))).2,0,()) else .leaf ([],[],4,()) else .fail) else .fail
theorem A71 (x:TCTs [.sl A2,.sl Au,Cc]):Dh A70 7 (.fn 135) (Eg [.sl A2,.sl Au,Cc] x) C4 0 (Ir Tryz.prog [.sl Au,.sl Gz,cI])=Qk x.1 x.2.1 x.2.2.1.1 x.2.2.1.2.1:=by kernel_rfl
theorem Aay {l:List (TCT A2)} {s:List (TCT Au)} (h:Kn l s=0):l.length≤8∧l.length=s.length∧(l.zip s).all P4=true:=by
 unfold Kn at h
 cases h1:decide ((l.length:Int)>8) with
 | true=>rw [h1] at h;simp at h
 | false =>
  rw [h1,cond_false] at h
  cases h2:((l.length:Int)!=(s.length:Int)) with
  | true=>rw [h2] at h;simp at h
  | false =>
   rw [h2,cond_false] at h
   have k1:=of_decide_eq_false h1
   have k2:(l.length:Int)=(s.length:Int):=by simpa using h2
   refine ⟨by omega,by omega,?_⟩
   cases h3:(l.zip s).all P4 with
   | true=>rfl
   | false=>rw [h3] at h;simp [okE] at h
theorem A72 (l:List (TCT A2)) (s:List (TCT Au)) (re dr:Int):(Qk l s re dr).sat (fun y=>y=Bi l s re dr):=by
 unfold Qk Bi
 cases hc:Kn l s != 0 with
 | true=>exact Eq.refl _
 | false =>
  have hc':Kn l s=0:=by simpa using hc
  obtain ⟨k1,k2,_⟩:=Aay hc'
  unfold okE
  cases hb:Gl re dr with
  | false=>exact Eq.refl _
  | true =>
   have ha:D4 ([]:List (TCT Au)) s 48=true:=by
    rw [F2];refine decide_eq_true ?_;simp only [List.length_nil];omega
   have ho:okO (l.length:Int) 0 ⟨l,re,dr,[],[],0,(l.length:Int)⟩ (s,[])=true:=decide_eq_true ⟨by omega,by omega,rfl,rfl,by show l.length≤1000;omega,k2.symm,by show 0+((l.length:Int)-0).toNat*1000≤1000000;omega⟩
   rw [ha,ho,show ((l.length:Int)-0).toNat=l.length by omega,show (0:Int).toNat=0 from rfl]
   refine ⟨Fy _,?_⟩
   cases okS (Hd l re dr l.length 0 (s,[])) <;> exact Eq.refl _
theorem A73:CtxOk A70:=by
 refine Cj Am puSet (fns_cons is_Settle (fns_cons is_pairs (fns_cons is_pairs1 A3))) ?_
 intro p hp d hd g hg
 simp only [List.mem_cons,List.not_mem_nil,or_false] at hp
 rcases hp with rfl | rfl | rfl
 ·simp only [C9] at hg
  rw [show Nat.beq 236 135=false from rfl,Bool.false_and] at hg
  cases hg
 ·simp only [C9] at hg
  rw [show Nat.beq 236 198=false from rfl,Bool.false_and] at hg
  cases hg
 ·have hl:Aj (bodyOf Tryz.f236)=[A6x,A1d]:=by kernel_rfl
  simp only at hd hg
  rw [hl] at hd
  simp only [List.mem_cons,List.not_mem_nil,or_false] at hd
  rcases hd with rfl | rfl
  ·have hk:keyOf A6x=1:=by kernel_rfl
   rw [hk] at hg
   simp [C9] at hg
   subst hg
   exact Bbi
  ·have hk:keyOf A1d=4:=by kernel_rfl
   rw [hk] at hg
   simp only [C9] at hg
   rw [show Nat.beq 1 4=false from rfl,Bool.and_false] at hg
   cases hg
abbrev A74:PureT:=Be [.sl A2,.sl Au,Cc] [.sl Au,.sl Gz,cI] (fun _=>true) (fun x=>((Bi x.1 x.2.1 x.2.2.1.1 x.2.2.1.2.1).1,(Bi x.1 x.2.1 x.2.2.1.1 x.2.2.1.2.1).2.1,(Bi x.1 x.2.1 x.2.2.1.1 x.2.2.1.2.1).2.2.1,()))
theorem Ap4:A7 Tryz.prog 135 A74:=Bh A73 7 (fun x=>Qk x.1 x.2.1 x.2.2.1.1 x.2.2.1.2.1) (fun x=>A71 x) fun _ _ _=>A72 _ _ _ _
end V
end Go.Proofs.YtlangijnealfjaaGreat
namespace Go.Proofs.YtlangijnealfjaaGreat
open Go.RowKit
namespace V
structure Dm where
 l:List (TCT A2)
 s0:List (TCT Au)
 re:Int
 dr:Int
 r1:List (TCT Au)
 r2:List (TCT Gz)
 r3:Int
end V
end Go.Proofs.YtlangijnealfjaaGreat
