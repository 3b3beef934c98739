import Derived.Test.YtcfanlgpkefogaaGreatUj
import Derived.Test.YtcfanlgpkefogaaGreatVC
namespace Go.Proofs.YtcfanlgpkefogaaGreat
open Go.RowKit
namespace V
theorem is_lcheck:FnIs Tryz.prog (134,Tryz.f134):=⟨Tryz.func134,by kernel_rfl,by kernel_rfl⟩
theorem Bca {i n:Nat} (h:i<n) (hn:(n:Int)≤Bo .i64):W64 ((i:Int)+1)=((i+1:Nat):Int):=by
 simp only [Bo] at hn
 rw [show W64 ((i:Int)+1)=(i:Int)+1 from A7 (by omega) (by omega)];rfl
def Rp (p:TCT A2×TCT Bg):Bool:=(bm p.1 p.2).ok
noncomputable def Bhn:Code:=(Ak (bodyOf Tryz.f134)).getD 0 .skip
def Af1:Lay:={ keys:=[0,1,4,18,19,20],ks:=[.d (.sl A2),.d (.sl Bg),.d cI,.d (.sl A2),.d cI,.d cI],bs:=[],n:=35,nx:=1000,marks:=[] }
def Bho:Lay:={ keys:=[4],ks:=[.d cI],bs:=[],n:=35,nx:=1000,marks:=[] }
def Af2:XE→Lay:=fun _=>Bho
def Cg (l:List (TCT A2)) (s:List (TCT Bg)) (e:Int) (l':List (TCT A2)) (n i:Int):Af1.T:=((l,s,e,l',n,i,()),())
def Cr (e:Int):Bho.T:=((e,()),())
def Bcb (l:List (TCT A2)) (s:List (TCT Bg)) (i:Int):Bool:=Rp (B7 l i.toNat (B9 A2),B7 s i.toNat (B9 Bg))
def Aaf (l:List (TCT A2)) (s:List (TCT Bg)) (e:Int) (l':List (TCT A2)) (n i:Int):Tree (Af1.T⊕A0 Af2) :=
 bif decide (i<n) then bif decide (0≤i∧i<(l'.length:Int)) then bif decide (0≤i∧i<(s.length:Int)) then
  bif okE (Bcb l' s i)!=0 then .leaf (.inr ⟨.ret,Cr (okE (Bcb l' s i))⟩) else .leaf (.inl (Cg l s e l' n (W64 (i+1)))) else .fail else .fail else .leaf (.inr ⟨.exit 1,Cr e⟩)
def Af3 (g:Af1.T):Tree (A0 Af2) :=
 .br (decide (g.1.2.2.2.2.1=(g.1.2.2.2.1.length:Int)∧g.1.2.2.2.1.length=g.1.2.1.length∧g.1.2.2.2.2.2.1=0)) (.br ((g.1.2.2.2.1.zip g.1.2.1).all Rp) (.leaf ⟨.exit 1,Cr g.1.2.2.1⟩) (.leaf ⟨.ret,Cr 2⟩)) .fail
def B3q (p:TCT A2×TCT Bg) (_:Nat) (_:Unit):Unit⊕A0 Af2:=bif Rp p then .inl () else .inr ⟨.ret,Cr 2⟩
theorem Avx (e:Int):∀ (l:List (TCT A2×TCT Bg)) (i:Nat),Abp B3q (fun _=>(⟨.exit 1,Cr e⟩:A0 Af2)) l i ()=bif l.all Rp then ⟨.exit 1,Cr e⟩ else ⟨.ret,Cr 2⟩
 | [],i=>rfl
 | p::l,i=>by
  simp only [Abp,B3q,List.all_cons]
  cases Rp p with
  | false=>rfl
  | true=>exact Avx e l (i+1)
theorem Bcc {α β:Type} {l:List α} {s:List β} {i:Nat} (h:i<(l.zip s).length) (h1:i<l.length) (h2:i<s.length) (d:α) (e:β):(l.zip s)[i]=(B7 l i d,B7 s i e):=by
 rw [List.getElem_zip,E8 h1,E8 h2]
theorem Bl4:Bc Tryz.prog 134 Bhn (Bd Af1 Af2 Af3):=by
 refine G7 (X:=ctx Tryz.prog plK []) (B6 Aw puK A1) 7 134 (fun _=>none) (fun _ _ f h=>by simp at h) Af1 Af2 (fun _=>Nat.le_refl _) Af3 (fun g=>Aaf g.1.1 g.1.2.1 g.1.2.2.1 g.1.2.2.2.1 g.1.2.2.2.2.1 g.1.2.2.2.2.2.1) (fun g=>by kernel_rfl) ?_
 rintro ⟨⟨l0,s,e,l,n,i,⟨⟩⟩,⟨⟩⟩ R hw hf
 obtain ⟨hf,h0⟩:=hf
 by_cases hc:n=(l.length:Int)∧l.length=s.length∧i=0
 ·obtain ⟨rfl,hls,rfl⟩:=hc
  have hf:=hf (decide_eq_true ⟨rfl,hls,rfl⟩)
  have hlen:(l.length:Int)≤Bo .i64:=by
   simp only [Lay.WF,Af1,WFKs,WFK,WFD] at hw
   exact hw.1.2.2.2.1.1
  have hz:(l.zip s).length=l.length:=by rw [List.length_zip,← hls,Nat.min_self]
  refine ⟨_,Vx (l.zip s) (fun i _=>Cg l0 s e l l.length i) B3q (fun _=>⟨.exit 1,Cr e⟩) (fun _=>True) ?_ ?_ (l.zip s).length 0 () (by omega) trivial ?_⟩
  ·intro i _ hi Q _ _ hQ
   have h1:i<l.length:=by omega
   have h2:i<s.length:=by omega
   show (Aaf l0 s e l l.length i).sat Q
   unfold Aaf Bcb
   rw [decide_eq_true (show (i:Int)<l.length by omega),decide_eq_true (show 0≤(i:Int)∧(i:Int)<l.length by omega),decide_eq_true (show 0≤(i:Int)∧(i:Int)<s.length by omega),Bca h1 hlen]
   have ht:(i:Int).toNat=i:=by omega
   rw [Bcc hi h1 h2 (B9 A2) (B9 Bg)] at hQ
   rw [ht]
   unfold B3q at hQ
   cases hk:Rp (B7 l i (B9 A2),B7 s i (B9 Bg)) with
   | true=>rw [hk] at hQ;exact hQ trivial
   | false=>rw [hk] at hQ;exact hQ
  ·intro _ Q _ hQ
   show (Aaf l0 s e l l.length ((l.zip s).length:Nat)).sat Q
   rw [hz]
   unfold Aaf
   rw [decide_eq_false (show ¬ (l.length:Int)<l.length by omega)]
   exact hQ
  ·rw [List.drop_zero,Avx]
   obtain ⟨h1,h2⟩:=hf
   cases ha:(l.zip s).all Rp with
   | true=>exact h1 ha
   | false=>exact h2 ha
 ·exact (h0 (decide_eq_false hc)).elim
def Bl5:Lay:={ keys:=[0,1,4,5],ks:=[.d (.sl A2),.d (.sl Bg),.d cI,.d cI],bs:=[],n:=30,nx:=1000,marks:=[] }
def Dg (l:List (TCT A2)) (s:List (TCT Bg)) (e i:Int):Bl5.T:=((l,s,e,i,()),())
def Mq (l:List (TCT A2)) (s:List (TCT Bg)):Int:=bif decide ((l.length:Int)>8) then 6 else bif (l.length:Int)!=(s.length:Int) then 17 else okE ((l.zip s).all Rp)
abbrev Aag:PureT:=Bz [.sl A2,.sl Bg] [cI] (fun _=>true) (fun x=>(Mq x.1 x.2.1,()))
noncomputable def Avy:Ctx:=Ie Tryz.prog plK [(134,Tryz.f134)] [((134,6),Bd Af1 Af2 Af3)]
theorem Aah:CtxOk Avy:=D6 Aw puK (fns_cons is_lcheck A1) (Cl (by kernel_rfl) (by kernel_rfl) Bl4)
def Zx (l:List (TCT A2)) (s:List (TCT Bg)):Tree (TCTs [cI]) :=
 bif decide ((l.length:Int)>8) then .leaf (6,()) else bif (l.length:Int)!=(s.length:Int) then .leaf (17,()) else
 bif decide ((l.length:Int)=(l.length:Int)∧l.length=s.length∧(0:Int)=0) then bif (l.zip s).all Rp then .leaf (0,()) else .leaf (2,()) else .fail
theorem Aai (l:List (TCT A2)) (s:List (TCT Bg)):(Zx l s).sat (fun y=>y=(Mq l s,())):=by
 unfold Zx Mq
 cases decide ((l.length:Int)>8) with
 | true=>exact rfl
 | false =>
  cases h:((l.length:Int)!=(s.length:Int)) with
  | true=>exact rfl
  | false =>
   have h':l.length=s.length:=by
                     have:(l.length:Int)=(s.length:Int):=by simpa using h
                     omega
   rw [decide_eq_true (show (l.length:Int)=(l.length:Int)∧l.length=s.length∧(0:Int)=0 from ⟨rfl,h',rfl⟩)]
   cases (l.zip s).all Rp <;> exact rfl
theorem Avz:A5 Tryz.prog 134 Aag:=C5 Aah 3 (fun x=>Zx x.1 x.2.1) (fun x=>by kernel_rfl) fun _ _ _=>Aai _ _
end V
end Go.Proofs.YtcfanlgpkefogaaGreat
namespace Go.Proofs.YtcfanlgpkefogaaGreat
open Go.RowKit
namespace V
abbrev Ih:TC:=.st [cI,cI]
abbrev SS:=List (TCT Bg)×List (TCT Ih)
def bAt (l:List (TCT A2)) (o:List (TCT Bg)) (i:Nat):Bm:=bm (B7 l i (B9 A2)) (B7 o i (B9 Bg))
@[irreducible] def Fz (l:List (TCT A2)) (re dr:Int) (i k:Nat) (s:SS):Option SS :=
 bif (Ch (bAt l s.1 i) (bAt l s.1 k) re dr).2.2.1==0 then some (By (By s.1 i (Ch (bAt l s.1 i) (bAt l s.1 k) re dr).1) k (Ch (bAt l s.1 i) (bAt l s.1 k) re dr).2.1,s.2++[((i:Int),(k:Int),())]) else
 bif (Ch (bAt l s.1 i) (bAt l s.1 k) re dr).2.2.1==4 then none else some s
def inR (l:List (TCT A2)) (re dr:Int) (i:Nat):Nat→Nat→SS→Option SS
 | 0,_,s=>some s
 | f+1,k,s=>(Fz l re dr i k s).bind fun s'=>inR l re dr i f (k+1) s'
def Iq (l:List (TCT A2)) (re dr:Int):Nat→Nat→SS→Option SS
 | 0,_,s=>some s
 | f+1,i,s=>(inR l re dr i (l.length-(i+1)) (i+1) s).bind fun s'=>Iq l re dr f (i+1) s'
def okS (x:Option SS):Bool:=match x with
 | some _=>true
 | none=>false
def A6a (x:Option SS):SS:=match x with
 | some s=>s
 | none=>([],[])
theorem C7 {β:Type} (l:List β) (i:Nat) (x:β):(By l i x).length=l.length:=by rw [C6];simp
theorem Amf {l:List (TCT A2)} {re dr:Int} {i k:Nat} {s s':SS} (h:Fz l re dr i k s=some s'):s'.1.length=s.1.length∧s'.2.length≤s.2.length+1:=by
 unfold Fz at h
 cases h1:(Ch (bAt l s.1 i) (bAt l s.1 k) re dr).2.2.1==0 with
 | true =>
  rw [h1] at h
  simp only [cond_true,Option.some.injEq] at h
  subst h
  simp [C7]
 | false =>
  rw [h1,cond_false] at h
  cases h2:(Ch (bAt l s.1 i) (bAt l s.1 k) re dr).2.2.1==4 with
  | true=>rw [h2] at h;simp at h
  | false=>rw [h2] at h;simp only [cond_false,Option.some.injEq] at h;subst h;exact ⟨rfl,by omega⟩
theorem Ajj {l:List (TCT A2)} {re dr:Int} {i:Nat} (f:Nat):∀ (k:Nat) (s s':SS),inR l re dr i f k s=some s'→s'.1.length=s.1.length∧s'.2.length≤s.2.length+f:=by
 induction f with
 | zero=>intro k s s' h;rw [inR,Option.some.injEq] at h;subst h;exact ⟨rfl,by omega⟩
 | succ f ih =>
  intro k s s' h
  rw [inR] at h
  cases h1:Fz l re dr i k s with
  | none=>rw [h1] at h;simp at h
  | some s1 =>
   rw [h1,Option.bind_some] at h
   have a:=Amf h1
   have b:=ih (k+1) s1 s' h
   exact ⟨b.1.trans a.1,by omega⟩
noncomputable def O5:LK:={ id:=10,keys:=[3,5,6,7,8,11,12],ks:=[.p 0 0 0 0,.p 1 0 0 0,.p 2 0 0 0,.p 3 0 0 0,.p 4 0 0 0,.p 6 0 0 0,.p 7 0 0 0],n:=80,fn:=99,params:=[34,35],assign:=(rangeAt Tryz.f99 0).1,body:=(rangeAt Tryz.f99 0).2,df:=9,st:=some 0 }
noncomputable def A3x:LK:={ id:=10,keys:=[],ks:=[],n:=80,fn:=99,params:=[34,35],assign:=(rangeAt Tryz.f99 0).1,body:=(rangeAt Tryz.f99 0).2,df:=9,st:=some 1 }
def Aw0:List BK:=[(0,37,[.d (.sl A2)]),(1,39,[.d cI,.d cI]),(2,42,[.d (.sl Bg)]),(3,189,[.d (.sl Ih)]),(4,49,[.d cI]),(6,42,[.o 60 Bg]),(7,189,[.o 120 Ih]),(8,3,[.d cI])]
def Bhp:List BK:=[(2,42,[.d (.sl Bg)]),(3,189,[.d (.sl Ih)]),(4,49,[.d cI])]
noncomputable def Qm:Lay2:={ keys:=[0,1,3,4,5,6],ks:=[.y 10,.p 8 0 0 0,.d cI,.d cI,.d cI,.d cI],bs:=Aw0,ls:=[O5],n:=22,nx:=1000,marks:=[],ds:=[9] }
noncomputable def Rq:Lay2:={ keys:=[0,1,5,6],ks:=[.y 10,.p 8 0 0 0,.d cI,.d cI],bs:=Aw0,ls:=[O5],n:=22,nx:=900,marks:=[],ds:=[9] }
noncomputable def Bcd:Lay2:={ keys:=[],ks:=[],bs:=Bhp,ls:=[A3x],n:=22,nx:=1000,marks:=[],ds:=[9] }
noncomputable def Zy:XE→Lay2:=fun e=>match e with | .ret=>Bcd | _=>Qm
noncomputable def A2j:XE→Lay2:=fun e=>match e with | .ret=>Bcd | _=>Rq
noncomputable def A3y:Code:=(Ak (bodyOf Tryz.f152)).getD 1 .skip
noncomputable def Aaj:Code:=(Ak (bodyOf Tryz.f152)).getD 0 .skip
structure Cm where
 l:List (TCT A2)
 re:Int
 dr:Int
 r1:List (TCT Bg)
 r2:List (TCT Ih)
 r3:Int
 m:Int
abbrev BSe:=BTs Aw0
def bSe (c:Cm) (s:SS):BSe:=((c.l,()),(c.re,c.dr,()),(c.r1,()),(c.r2,()),(c.r3,()),(s.1,()),(s.2,()),(c.m,()),())
abbrev lSe:LTs [O5]:=(((((),(),(),(),(),(),(),()):SKTs O5.ks),((():Unit):StT O5.st)),())
abbrev lSr:LTs [A3x]:=((((():Unit):SKTs A3x.ks),((():Unit):StT A3x.st)),())
def Ig (i k n j:Int) (c:Cm) (s:SS):Qm.T:=(((),(),i,k,n,j,()),bSe c s,lSe)
def Og (n j:Int) (c:Cm) (s:SS):Rq.T:=(((),(),n,j,()),bSe c s,lSe)
def Rs (e:Int):Bcd.T:=((),(([],()),([],()),(e,()),()),lSr)
def A6b (l:List (TCT A2)) (o:List (TCT Bg)) (re dr:Int) (i k:Int):Amv:=Ch (bAt l o i.toNat) (bAt l o k.toNat) re dr
def Aak (i k n j:Int) (c:Cm) (s:SS):Tree (Qm.T⊕Es Zy) :=
 bif decide (k<c.m) then
 bif decide (0≤i∧i<(c.l.length:Int)) then bif decide (0≤i∧i<(s.1.length:Int)) then bif decide (i.toNat<s.1.length) then
 bif decide (0≤k∧k<(c.l.length:Int)) then bif decide (0≤k∧k<(s.1.length:Int)) then bif decide (k.toNat<s.1.length) then
 bif (A6b c.l s.1 c.re c.dr i k).2.2.1==0 then
  bif decide (0≤i∧i<(s.1.length:Int)) then bif decide (i.toNat<s.1.length) then
  bif decide (0≤k∧k<((By s.1 i.toNat (A6b c.l s.1 c.re c.dr i k).1).length:Int)) then bif decide (k.toNat<(By s.1 i.toNat (A6b c.l s.1 c.re c.dr i k).1).length) then
  bif Eu s.2 [(i,k,())] 16 then
   .need (I9 [O5]) (.leaf (.inl (Ig i (W64 (k+1)) n j c (By (By s.1 i.toNat (A6b c.l s.1 c.re c.dr i k).1) k.toNat (A6b c.l s.1 c.re c.dr i k).2.1,s.2++[(i,k,())])))) else .fail else .fail else .fail else .fail else .fail
 else bif (A6b c.l s.1 c.re c.dr i k).2.2.1==4 then .need (I9 [A3x]) (.leaf (.inr ⟨.ret,Rs (A6b c.l s.1 c.re c.dr i k).2.2.1⟩)) else .need (I9 [O5]) (.leaf (.inl (Ig i (W64 (k+1)) n j c s)))
 else .fail else .fail else .fail else .fail else .fail else .fail
 else .need (I9 [O5]) (.leaf (.inr ⟨.exit 2,Ig i k n j c s⟩))
def cmI (g:Qm.T):Cm:=⟨g.2.1.1.1,g.2.1.2.1.1,g.2.1.2.1.2.1,g.2.1.2.2.1.1,g.2.1.2.2.2.1.1,g.2.1.2.2.2.2.1.1,g.2.1.2.2.2.2.2.2.2.1.1⟩
def ssI (g:Qm.T):SS:=(g.2.1.2.2.2.2.2.1.1,g.2.1.2.2.2.2.2.2.1.1)
def plBn:List (Nat×PureT):=[(136,Ab0)]
theorem puBn:De Tryz.prog plBn:=puOk_cons is_Bounce.plain Awy puOk_nil
noncomputable def A5t:Ctx:=ctx Tryz.prog plBn [(99,Tryz.f99)]
theorem Bl6 (g:Qm.T):evC Tryz.prog (E1 A5t 7) A5t.pures 152 A5t.u (fun _=>none) A3y (Qm.of g) (H7 Qm Zy)=Aak g.1.2.2.1 g.1.2.2.2.1 g.1.2.2.2.2.1 g.1.2.2.2.2.2.1 (cmI g) (ssI g):=by kernel_rfl
theorem B3r (l:List (TCT A2)) (o:List (TCT Bg)) (re dr i k:Int):A6b l o re dr i k=Ch (bAt l o i.toNat) (bAt l o k.toNat) re dr:=by unfold A6b;exact Eq.refl _
theorem Bhq {β:Type} {h:List β} {x:β} (k:h.length≤1000000):Eu h [x] 16=true:=by
 rw [Gf]
 refine decide_eq_true ?_
 simp only [List.length_cons,List.length_nil]
 omega
def okI (i k:Int) (c:Cm) (s:SS):Bool:=decide (0≤i∧i<(c.l.length:Int)∧i+1≤k∧k≤c.m∧c.m=(c.l.length:Int)∧c.l.length≤1000∧s.1.length=c.l.length∧s.2.length+(c.m-k).toNat≤1000000)
def B3t (i k n j:Int) (c:Cm) (s:SS):Tree (Es Zy) :=
 .br (okI i k c s) (.br (okS (inR c.l c.re c.dr i.toNat (c.m-k).toNat k.toNat s)) (.leaf ⟨.exit 2,Ig i c.m n j c (A6a (inR c.l c.re c.dr i.toNat (c.m-k).toNat k.toNat s))⟩) (.leaf ⟨.ret,Rs 4⟩)) .fail
def A6c (g:Qm.T):Tree (Es Zy):=B3t g.1.2.2.1 g.1.2.2.2.1 g.1.2.2.2.2.1 g.1.2.2.2.2.2.1 (cmI g) (ssI g)
theorem Aw1 (l:List (TCT A2)) (re dr:Int) (i f k:Nat) (s:SS):inR l re dr i (f+1) k s=(Fz l re dr i k s).bind fun s'=>inR l re dr i f (k+1) s':=rfl
theorem B3u {step:Qm.T→Tree (Qm.T⊕Es Zy)} (hs:∀ i k n j c s,step (Ig i k n j c s)=Aak i k n j c s) (R:Es Zy→Prop) (i n j:Int) (c:Cm) (hi:0≤i) (hil:i<(c.l.length:Int)) (hm:c.m=(c.l.length:Int)) (hl:c.l.length≤1000) (f:Nat) :
  ∀ (k:Int) (s:SS),i+1≤k→c.m-k=f→s.1.length=c.l.length→s.2.length+f≤1000000→(okS (inR c.l c.re c.dr i.toNat f k.toNat s)=true→R ⟨.exit 2,Ig i c.m n j c (A6a (inR c.l c.re c.dr i.toNat f k.toNat s))⟩) →
   (okS (inR c.l c.re c.dr i.toNat f k.toNat s)=false→R ⟨.ret,Rs 4⟩)→Wt Qm Zy step R (f+1) (Ig i k n j c s):=by
 induction f with
 | zero =>
  intro k s _ hk _ _ h1 _
  have e:k=c.m:=by omega
  subst e
  intro _
  rw [hs]
  unfold Aak
  rw [decide_eq_false (show ¬ c.m<c.m by omega)]
  exact ⟨Dz _,fun _=>h1 rfl⟩
 | succ f ih =>
  intro k s hik hk hsl hsh h1 h2
  intro _
  rw [hs]
  unfold Aak
  rw [Aw1] at h1 h2
  have hlt:k<(c.l.length:Int):=by omega
  have hkn:((k.toNat:Nat):Int)=k:=by omega
  have hin:((i.toNat:Nat):Int)=i:=by omega
  rw [B3r,decide_eq_true (show k<c.m by omega),decide_eq_true (show 0≤i∧i<(c.l.length:Int) from ⟨hi,hil⟩),decide_eq_true (show 0≤i∧i<(s.1.length:Int) by omega),decide_eq_true (show i.toNat<s.1.length by omega),
   decide_eq_true (show 0≤k∧k<(c.l.length:Int) by omega),decide_eq_true (show 0≤k∧k<(s.1.length:Int) by omega),decide_eq_true (show k.toNat<s.1.length by omega),C7,decide_eq_true (show 0≤k∧k<(s.1.length:Int) by omega),decide_eq_true (show k.toNat<s.1.length by omega),
   Bhq (show s.2.length≤1000000 by omega),show W64 (k+1)=k+1 from A7 (by omega) (by omega)]
  have hkt:(k+1).toNat=k.toNat+1:=by omega
  cases e1:(Ch (bAt c.l s.1 i.toNat) (bAt c.l s.1 k.toNat) c.re c.dr).2.2.1==0 with
  | true =>
   have hst:Fz c.l c.re c.dr i.toNat k.toNat s=some (By (By s.1 i.toNat (Ch (bAt c.l s.1 i.toNat) (bAt c.l s.1 k.toNat) c.re c.dr).1) k.toNat (Ch (bAt c.l s.1 i.toNat) (bAt c.l s.1 k.toNat) c.re c.dr).2.1,s.2++[(i,k,())]):=by
    unfold Fz;rw [e1,hkn,hin];rfl
   rw [hst,Option.bind_some] at h1 h2
   refine ⟨Dz _,ih (k+1) _ (by omega) (by omega) (by simp only [C7];exact hsl) (by simp only [List.length_append,List.length_cons,List.length_nil];omega) ?_ ?_⟩
   ·rw [hkt];exact h1
   ·rw [hkt];exact h2
  | false =>
   cases e2:(Ch (bAt c.l s.1 i.toNat) (bAt c.l s.1 k.toNat) c.re c.dr).2.2.1==4 with
   | true =>
    have hst:Fz c.l c.re c.dr i.toNat k.toNat s=none:=by unfold Fz;rw [e1,e2];rfl
    rw [hst] at h2
    refine ⟨Dz _,fun _=>?_⟩
    have:=h2 rfl
    rwa [← eq_of_beq e2] at this
   | false =>
    have hst:Fz c.l c.re c.dr i.toNat k.toNat s=some s:=by unfold Fz;rw [e1,e2];rfl
    rw [hst,Option.bind_some] at h1 h2
    refine ⟨Dz _,ih (k+1) _ (by omega) (by omega) hsl (by omega) ?_ ?_⟩
    ·rw [hkt];exact h1
    ·rw [hkt];exact h2
theorem puSe_ok:CtxOk A5t:=B6 Aw puBn (fns_cons ⟨Tryz.func99,by kernel_rfl,by kernel_rfl⟩ A1)
theorem Bl7:Bc Tryz.prog 152 A3y (H8 Qm Zy A6c):=by
 refine S3 puSe_ok 7 152 (fun _=>none) (fun _ _ f h=>by simp at h) Qm Zy (fun e=>by cases e <;> exact Nat.le_refl _) A6c (fun g=>Aak g.1.2.2.1 g.1.2.2.2.1 g.1.2.2.2.2.1 g.1.2.2.2.2.2.1 (cmI g) (ssI g)) Bl6 ?_
 intro g R _ hf
 obtain ⟨hf,h0⟩:=hf
 cases hc:okI g.1.2.2.1 g.1.2.2.2.1 (cmI g) (ssI g) with
 | false=>exact (h0 hc).elim
 | true =>
  obtain ⟨h1,h2⟩:=hf hc
  obtain ⟨k1,k2,k3,k4,k5,k6,k7,k8⟩:=of_decide_eq_true hc
  exact ⟨_,B3u (fun _ _ _ _ _ _=>rfl) R g.1.2.2.1 g.1.2.2.2.2.1 g.1.2.2.2.2.2.1 (cmI g) k1 k2 k5 k6 ((cmI g).m-g.1.2.2.2.1).toNat g.1.2.2.2.1 (ssI g) k3 (Int.toNat_of_nonneg (Int.sub_nonneg.2 k4)).symm k7 k8 h1 h2⟩
end V
end Go.Proofs.YtcfanlgpkefogaaGreat
namespace Go.Proofs.YtcfanlgpkefogaaGreat
open Go.RowKit
namespace V
noncomputable def Aw2:Lp:=fun k=>bif Nat.beq k 4 then some (H8 Qm Zy A6c) else none
def cmO (g:Rq.T):Cm:=⟨g.2.1.1.1,g.2.1.2.1.1,g.2.1.2.1.2.1,g.2.1.2.2.1.1,g.2.1.2.2.2.1.1,g.2.1.2.2.2.2.1.1,g.2.1.2.2.2.2.2.2.2.1.1⟩
def ssO (g:Rq.T):SS:=(g.2.1.2.2.2.2.2.1.1,g.2.1.2.2.2.2.2.2.1.1)
def Aal (n j:Int) (c:Cm) (s:SS):Tree (Rq.T⊕Es A2j) :=
 bif decide (j<n) then
  .need (I9 [O5]) (bif okI j (W64 (j+1)) c s then
   bif okS (inR c.l c.re c.dr j.toNat (c.m-W64 (j+1)).toNat (W64 (j+1)).toNat s) then .need (I9 [O5]) (.leaf (.inl (Og n (W64 (j+1)) c (A6a (inR c.l c.re c.dr j.toNat (c.m-W64 (j+1)).toNat (W64 (j+1)).toNat s)))))
   else .need (I9 [A3x]) (.leaf (.inr ⟨.ret,Rs 4⟩)) else .fail)
 else .need (I9 [O5]) (.leaf (.inr ⟨.exit 0,Og n j c s⟩))
theorem Bl8 (g:Rq.T):evC Tryz.prog (E1 A5t 7) A5t.pures 152 A5t.u Aw2 Aaj (Rq.of g) (H7 Rq A2j)=Aal g.1.2.2.1 g.1.2.2.2.1 (cmO g) (ssO g):=by kernel_rfl
def okO (n j:Int) (c:Cm) (s:SS):Bool:=decide (0≤j∧j≤n∧n=c.m∧c.m=(c.l.length:Int)∧c.l.length≤1000∧s.1.length=c.l.length∧s.2.length+(n-j).toNat*1000≤1000000)
def B3v (n j:Int) (c:Cm) (s:SS):Tree (Es A2j) :=
 .br (okO n j c s) (.br (okS (Iq c.l c.re c.dr (n-j).toNat j.toNat s)) (.leaf ⟨.exit 0,Og n n c (A6a (Iq c.l c.re c.dr (n-j).toNat j.toNat s))⟩) (.leaf ⟨.ret,Rs 4⟩)) .fail
def Af4 (g:Rq.T):Tree (Es A2j):=B3v g.1.2.2.1 g.1.2.2.2.1 (cmO g) (ssO g)
theorem Mr (l:List (TCT A2)) (re dr:Int) (i:Nat) (s:SS):Iq l re dr 0 i s=some s:=rfl
theorem K8 (l:List (TCT A2)) (re dr:Int) (f i:Nat) (s:SS):Iq l re dr (f+1) i s=(inR l re dr i (l.length-(i+1)) (i+1) s).bind fun s'=>Iq l re dr f (i+1) s':=rfl
theorem B3w {step:Rq.T→Tree (Rq.T⊕Es A2j)} (hs:∀ n j c s,step (Og n j c s)=Aal n j c s) (R:Es A2j→Prop) (n:Int) (c:Cm) (hn:n=c.m) (hm:c.m=(c.l.length:Int)) (hl:c.l.length≤1000) (f:Nat) :
  ∀ (j:Int) (s:SS),0≤j→n-j=f→s.1.length=c.l.length→s.2.length+f*1000≤1000000→(okS (Iq c.l c.re c.dr f j.toNat s)=true→R ⟨.exit 0,Og n n c (A6a (Iq c.l c.re c.dr f j.toNat s))⟩) →
   (okS (Iq c.l c.re c.dr f j.toNat s)=false→R ⟨.ret,Rs 4⟩)→Wt Rq A2j step R (f+1) (Og n j c s):=by
 induction f with
 | zero =>
  intro j s _ hk _ _ h1 _
  have e:j=n:=by omega
  subst e
  intro _
  rw [hs]
  unfold Aal
  rw [decide_eq_false (show ¬ j<j by omega)]
  exact ⟨Dz _,fun _=>h1 rfl⟩
 | succ f ih =>
  intro j s hj hk hsl hsh h1 h2
  intro _
  rw [hs]
  unfold Aal
  rw [K8] at h1 h2
  have hjt:(j+1).toNat=j.toNat+1:=by omega
  have hmk:(c.m-(j+1)).toNat=c.l.length-(j.toNat+1):=by omega
  have hok:okI j (j+1) c s=true:=decide_eq_true ⟨hj,by omega,by omega,by omega,hm,hl,hsl,by omega⟩
  rw [show W64 (j+1)=j+1 from A7 (by omega) (by omega),decide_eq_true (show j<n by omega),hok,hjt,hmk]
  refine ⟨Dz _,?_⟩
  cases he:inR c.l c.re c.dr j.toNat (c.l.length-(j.toNat+1)) (j.toNat+1) s with
  | none =>
   rw [he] at h2
   exact ⟨Dz _,fun _=>h2 rfl⟩
  | some s' =>
   rw [he,Option.bind_some] at h1 h2
   have hlen:=Ajj _ _ _ _ he
   refine ⟨Dz _,ih (j+1) s' (by omega) (by omega) (hlen.1.trans hsl) (by omega) ?_ ?_⟩
   ·rw [hjt];exact h1
   ·rw [hjt];exact h2
theorem Bl9:Bc Tryz.prog 152 Aaj (H8 Rq A2j Af4):=by
 refine S3 puSe_ok 7 152 Aw2 ?_ Rq A2j (fun e=>by cases e <;> first | exact Nat.le_refl _ | exact (show 900≤1000 by omega)) Af4 (fun g=>Aal g.1.2.2.1 g.1.2.2.2.1 (cmO g) (ssO g)) Bl8 ?_
 ·intro d hd f hf
  have hl:Ak Aaj=[A3y]:=by kernel_rfl
  rw [hl,List.mem_singleton] at hd
  subst hd
  have hk:keyOf A3y=4:=by kernel_rfl
  rw [hk] at hf
  have:Aw2 4=some (H8 Qm Zy A6c):=rfl
  rw [this,Option.some.injEq] at hf
  subst hf
  exact Bl7
 intro g R _ hf
 obtain ⟨hf,h0⟩:=hf
 cases hc:okO g.1.2.2.1 g.1.2.2.2.1 (cmO g) (ssO g) with
 | false=>exact (h0 hc).elim
 | true =>
  obtain ⟨h1,h2⟩:=hf hc
  obtain ⟨k1,k2,k3,k4,k5,k6,k7⟩:=of_decide_eq_true hc
  exact ⟨_,B3w (fun _ _ _ _=>rfl) R g.1.2.2.1 (cmO g) k3 k4 k5 (g.1.2.2.1-g.1.2.2.2.1).toNat g.1.2.2.2.1 (ssO g) k1 (Int.toNat_of_nonneg (Int.sub_nonneg.2 k2)).symm k6 k7 h1 h2⟩
theorem is_Settle:FnIs Tryz.prog (99,Tryz.f99):=⟨Tryz.func99,by kernel_rfl,by kernel_rfl⟩
theorem is_pairs:FnIs Tryz.prog (135,Tryz.f135):=⟨Tryz.func135,by kernel_rfl,by kernel_rfl⟩
theorem is_pairs1:FnIs Tryz.prog (152,Tryz.f152):=⟨Tryz.func152,by kernel_rfl,by kernel_rfl⟩
abbrev B3x:=TCTs [.sl Bg,.sl Ih,cI]
def Cf (l:List (TCT A2)) (s:List (TCT Bg)) (re dr:Int):B3x :=
 bif Mq l s != 0 then ([],[],Mq l s,()) else bif !Hl re dr then ([],[],2,()) else
 bif okS (Iq l re dr l.length 0 (s,[])) then ((A6a (Iq l re dr l.length 0 (s,[]))).1,(A6a (Iq l re dr l.length 0 (s,[]))).2,0,()) else ([],[],4,())
def plSet:List (Nat×PureT):=(134,Aag)::(126,G6)::plBn
theorem puSet:De Tryz.prog plSet:=puOk_cons is_lcheck.plain Avz (puOk_cons is_CheckBounce.plain Ma puBn)
noncomputable def Aam:Ctx:=Ie Tryz.prog plSet [(99,Tryz.f99),(135,Tryz.f135),(152,Tryz.f152)] [((152,1),H8 Rq A2j Af4)]
def Tj (l:List (TCT A2)) (s:List (TCT Bg)) (re dr:Int):Tree B3x :=
 bif Mq l s != 0 then .leaf ([],[],Mq l s,()) else bif okE (Hl re dr)!=0 then .leaf ([],[],okE (Hl re dr),()) else
 bif Eu ([]:List (TCT Bg)) s 48 then
  .need (I9 [O5]) (bif okO (l.length:Int) 0 ⟨l,re,dr,[],[],0,(l.length:Int)⟩ (s,[]) then
   bif okS (Iq l re dr ((l.length:Int)-0).toNat (0:Int).toNat (s,[])) then .leaf ((A6a (Iq l re dr ((l.length:Int)-0).toNat (0:Int).toNat (s,[]))).1,(A6a (Iq l re dr ((l.length:Int)-0).toNat (0:Int).toNat (s,[]))).2,0,()) else .leaf ([],[],4,()) else .fail) else .fail
theorem Aan (x:TCTs [.sl A2,.sl Bg,D3]):E1 Aam 7 (.fn 99) (Eg [.sl A2,.sl Bg,D3] x) Ck 0 (If Tryz.prog [.sl Bg,.sl Ih,cI])=Tj x.1 x.2.1 x.2.2.1.1 x.2.2.1.2.1:=by kernel_rfl
theorem Af5 {l:List (TCT A2)} {s:List (TCT Bg)} (h:Mq l s=0):l.length≤8∧l.length=s.length∧(l.zip s).all Rp=true:=by
 unfold Mq at h
 cases h1:decide ((l.length:Int)>8) with
 | true=>rw [h1] at h;simp at h
 | false =>
  rw [h1,cond_false] at h
  cases h2:((l.length:Int)!=(s.length:Int)) with
  | true=>rw [h2] at h;simp at h
  | false =>
   rw [h2,cond_false] at h
   have k1:=of_decide_eq_false h1
   have k2:(l.length:Int)=(s.length:Int):=by simpa using h2
   refine ⟨by omega,by omega,?_⟩
   cases h3:(l.zip s).all Rp with
   | true=>rfl
   | false=>rw [h3] at h;simp [okE] at h
theorem Aao (l:List (TCT A2)) (s:List (TCT Bg)) (re dr:Int):(Tj l s re dr).sat (fun y=>y=Cf l s re dr):=by
 unfold Tj Cf
 cases hc:Mq l s != 0 with
 | true=>exact Eq.refl _
 | false =>
  have hc':Mq l s=0:=by simpa using hc
  obtain ⟨k1,k2,_⟩:=Af5 hc'
  unfold okE
  cases hb:Hl re dr with
  | false=>exact Eq.refl _
  | true =>
   have ha:Eu ([]:List (TCT Bg)) s 48=true:=by
    rw [Gf];refine decide_eq_true ?_;simp only [List.length_nil];omega
   have ho:okO (l.length:Int) 0 ⟨l,re,dr,[],[],0,(l.length:Int)⟩ (s,[])=true:=decide_eq_true ⟨by omega,by omega,rfl,rfl,by show l.length≤1000;omega,k2.symm,by show 0+((l.length:Int)-0).toNat*1000≤1000000;omega⟩
   rw [ha,ho,show ((l.length:Int)-0).toNat=l.length by omega,show (0:Int).toNat=0 from rfl]
   refine ⟨Dz _,?_⟩
   cases okS (Iq l re dr l.length 0 (s,[])) <;> exact Eq.refl _
theorem Aap:CtxOk Aam:=by
 refine D6 Aw puSet (fns_cons is_Settle (fns_cons is_pairs (fns_cons is_pairs1 A1))) ?_
 intro p hp d hd g hg
 simp only [List.mem_cons,List.not_mem_nil,or_false] at hp
 rcases hp with rfl | rfl | rfl
 ·simp only [D7] at hg
  rw [show Nat.beq 152 99=false from rfl,Bool.false_and] at hg
  cases hg
 ·simp only [D7] at hg
  rw [show Nat.beq 152 135=false from rfl,Bool.false_and] at hg
  cases hg
 ·have hl:Ak (bodyOf Tryz.f152)=[Aaj,A3y]:=by kernel_rfl
  simp only at hd hg
  rw [hl] at hd
  simp only [List.mem_cons,List.not_mem_nil,or_false] at hd
  rcases hd with rfl | rfl
  ·have hk:keyOf Aaj=1:=by kernel_rfl
   rw [hk] at hg
   simp [D7] at hg
   subst hg
   exact Bl9
  ·have hk:keyOf A3y=4:=by kernel_rfl
   rw [hk] at hg
   simp only [D7] at hg
   rw [show Nat.beq 1 4=false from rfl,Bool.and_false] at hg
   cases hg
abbrev Aaq:PureT:=Bz [.sl A2,.sl Bg,D3] [.sl Bg,.sl Ih,cI] (fun _=>true) (fun x=>((Cf x.1 x.2.1 x.2.2.1.1 x.2.2.1.2.1).1,(Cf x.1 x.2.1 x.2.2.1.1 x.2.2.1.2.1).2.1,(Cf x.1 x.2.1 x.2.2.1.1 x.2.2.1.2.1).2.2.1,()))
theorem Aw3:A5 Tryz.prog 99 Aaq:=C5 Aap 7 (fun x=>Tj x.1 x.2.1 x.2.2.1.1 x.2.2.1.2.1) (fun x=>Aan x) fun _ _ _=>Aao _ _ _ _
end V
end Go.Proofs.YtcfanlgpkefogaaGreat
namespace Go.Proofs.YtcfanlgpkefogaaGreat
open Go.RowKit
namespace V
structure Dm where
 l:List (TCT A2)
 s0:List (TCT Bg)
 re:Int
 dr:Int
 r1:List (TCT Bg)
 r2:List (TCT Ih)
 r3:Int
end V
end Go.Proofs.YtcfanlgpkefogaaGreat
