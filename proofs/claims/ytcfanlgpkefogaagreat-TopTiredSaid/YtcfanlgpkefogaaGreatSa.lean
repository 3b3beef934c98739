import Derived.Test.YtcfanlgpkefogaaGreatUh
import Derived.Test.YtcfanlgpkefogaaGreatVC
namespace Go.Proofs.YtcfanlgpkefogaaGreat
open Go.RowKit
namespace V
theorem is_lcheck:FnIs Tryz.prog (134,Tryz.f134):=⟨Tryz.func134,by kernel_rfl,by kernel_rfl⟩
theorem D06 {i n:Nat} (h:i<n) (hn:(n:Int)≤Bb4 .i64):W64 ((i:Int)+1)=((i+1:Nat):Int):=by
 simp only [Bb4] at hn
 rw [show W64 ((i:Int)+1)=(i:Int)+1 from Fp (by omega) (by omega)];rfl
def Bmv (p:TCT Fq×TCT Baw):Bool:=(bm p.1 p.2).ok
noncomputable def D4k:Code:=(Ban (bodyOf Tryz.f134)).getD 0 .skip
def C6x:Lay:={ keys:=[0,1,4,18,19,20],ks:=[.d (.sl Fq),.d (.sl Baw),.d cI,.d (.sl Fq),.d cI,.d cI],bs:=[],n:=35,nx:=1000,marks:=[] }
def D4l:Lay:={ keys:=[4],ks:=[.d cI],bs:=[],n:=35,nx:=1000,marks:=[] }
def C6y:XE→Lay:=fun _=>D4l
def Cg (l:List (TCT Fq)) (s:List (TCT Baw)) (e:Int) (l':List (TCT Fq)) (n i:Int):C6x.T:=((l,s,e,l',n,i,()),())
def Cr (e:Int):D4l.T:=((e,()),())
def D07 (l:List (TCT Fq)) (s:List (TCT Baw)) (i:Int):Bool:=Bmv (Bas l i.toNat (Bap Fq),Bas s i.toNat (Bap Baw))
def C2u (l:List (TCT Fq)) (s:List (TCT Baw)) (e:Int) (l':List (TCT Fq)) (n i:Int):Tree (C6x.T⊕V2 C6y) :=
 bif decide (i<n) then bif decide (0≤i∧i<(l'.length:Int)) then bif decide (0≤i∧i<(s.length:Int)) then
  bif okE (D07 l' s i)!=0 then .leaf (.inr ⟨.ret,Cr (okE (D07 l' s i))⟩) else .leaf (.inl (Cg l s e l' n (W64 (i+1)))) else .fail else .fail else .leaf (.inr ⟨.exit 1,Cr e⟩)
def C6z (g:C6x.T):Tree (V2 C6y) :=
 .br (decide (g.1.2.2.2.2.1=(g.1.2.2.2.1.length:Int)∧g.1.2.2.2.1.length=g.1.2.1.length∧g.1.2.2.2.2.2.1=0)) (.br ((g.1.2.2.2.1.zip g.1.2.1).all Bmv) (.leaf ⟨.exit 1,Cr g.1.2.2.1⟩) (.leaf ⟨.ret,Cr 2⟩)) .fail
def Ct0 (p:TCT Fq×TCT Baw) (_:Nat) (_:Unit):Unit⊕V2 C6y:=bif Bmv p then .inl () else .inr ⟨.ret,Cr 2⟩
theorem Clm (e:Int):∀ (l:List (TCT Fq×TCT Baw)) (i:Nat),C46 Ct0 (fun _=>(⟨.exit 1,Cr e⟩:V2 C6y)) l i ()=bif l.all Bmv then ⟨.exit 1,Cr e⟩ else ⟨.ret,Cr 2⟩
 | [],i=>rfl
 | p::l,i=>by
  simp only [C46,Ct0,List.all_cons]
  cases Bmv p with
  | false=>rfl
  | true=>exact Clm e l (i+1)
theorem D08 {α β:Type} {l:List α} {s:List β} {i:Nat} (h:i<(l.zip s).length) (h1:i<l.length) (h2:i<s.length) (d:α) (e:β):(l.zip s)[i]=(Bas l i d,Bas s i e):=by
 rw [List.getElem_zip,Bdc h1,Bdc h2]
theorem D7m:Bb0 Tryz.prog 134 D4k (Baz C6x C6y C6z):=by
 refine Be7 (X:=ctx Tryz.prog plK []) (Baq Bao puK V1) 7 134 (fun _=>none) (fun _ _ f h=>by simp at h) C6x C6y (fun _=>Nat.le_refl _) C6z (fun g=>C2u g.1.1 g.1.2.1 g.1.2.2.1 g.1.2.2.2.1 g.1.2.2.2.2.1 g.1.2.2.2.2.2.1) (fun g=>by kernel_rfl) ?_
 rintro ⟨⟨l0,s,e,l,n,i,⟨⟩⟩,⟨⟩⟩ R hw hf
 obtain ⟨hf,h0⟩:=hf
 by_cases hc:n=(l.length:Int)∧l.length=s.length∧i=0
 ·obtain ⟨rfl,hls,rfl⟩:=hc
  have hf:=hf (decide_eq_true ⟨rfl,hls,rfl⟩)
  have hlen:(l.length:Int)≤Bb4 .i64:=by
   simp only [Lay.WF,C6x,WFKs,WFK,WFD] at hw
   exact hw.1.2.2.2.1.1
  have hz:(l.zip s).length=l.length:=by rw [List.length_zip,← hls,Nat.min_self]
  refine ⟨_,Bq4 (l.zip s) (fun i _=>Cg l0 s e l l.length i) Ct0 (fun _=>⟨.exit 1,Cr e⟩) (fun _=>True) ?_ ?_ (l.zip s).length 0 () (by omega) trivial ?_⟩
  ·intro i _ hi Q _ _ hQ
   have h1:i<l.length:=by omega
   have h2:i<s.length:=by omega
   show (C2u l0 s e l l.length i).sat Q
   unfold C2u D07
   rw [decide_eq_true (show (i:Int)<l.length by omega),decide_eq_true (show 0≤(i:Int)∧(i:Int)<l.length by omega),decide_eq_true (show 0≤(i:Int)∧(i:Int)<s.length by omega),D06 h1 hlen]
   have ht:(i:Int).toNat=i:=by omega
   rw [D08 hi h1 h2 (Bap Fq) (Bap Baw)] at hQ
   rw [ht]
   unfold Ct0 at hQ
   cases hk:Bmv (Bas l i (Bap Fq),Bas s i (Bap Baw)) with
   | true=>rw [hk] at hQ;exact hQ trivial
   | false=>rw [hk] at hQ;exact hQ
  ·intro _ Q _ hQ
   show (C2u l0 s e l l.length ((l.zip s).length:Nat)).sat Q
   rw [hz]
   unfold C2u
   rw [decide_eq_false (show ¬ (l.length:Int)<l.length by omega)]
   exact hQ
  ·rw [List.drop_zero,Clm]
   obtain ⟨h1,h2⟩:=hf
   cases ha:(l.zip s).all Bmv with
   | true=>exact h1 ha
   | false=>exact h2 ha
 ·exact (h0 (decide_eq_false hc)).elim
def Bix (l:List (TCT Fq)) (s:List (TCT Baw)):Int:=bif decide ((l.length:Int)>8) then 6 else bif (l.length:Int)!=(s.length:Int) then 17 else okE ((l.zip s).all Bmv)
abbrev C2v:PureT:=Bbe [.sl Fq,.sl Baw] [cI] (fun _=>true) (fun x=>(Bix x.1 x.2.1,()))
noncomputable def Cln:Ctx:=Bh4 Tryz.prog plK [(134,Tryz.f134)] [((134,6),Baz C6x C6y C6z)]
theorem C2w:CtxOk Cln:=Bca Bao puK (fns_cons is_lcheck V1) (Bbv (by kernel_rfl) (by kernel_rfl) D7m)
def Bt7 (l:List (TCT Fq)) (s:List (TCT Baw)):Tree (TCTs [cI]) :=
 bif decide ((l.length:Int)>8) then .leaf (6,()) else bif (l.length:Int)!=(s.length:Int) then .leaf (17,()) else
 bif decide ((l.length:Int)=(l.length:Int)∧l.length=s.length∧(0:Int)=0) then bif (l.zip s).all Bmv then .leaf (0,()) else .leaf (2,()) else .fail
theorem C2x (l:List (TCT Fq)) (s:List (TCT Baw)):(Bt7 l s).sat (fun y=>y=(Bix l s,())):=by
 unfold Bt7 Bix
 cases decide ((l.length:Int)>8) with
 | true=>exact rfl
 | false =>
  cases h:((l.length:Int)!=(s.length:Int)) with
  | true=>exact rfl
  | false =>
   have h':l.length=s.length:=by
                     have:(l.length:Int)=(s.length:Int):=by simpa using h
                     omega
   rw [decide_eq_true (show (l.length:Int)=(l.length:Int)∧l.length=s.length∧(0:Int)=0 from ⟨rfl,h',rfl⟩)]
   cases (l.zip s).all Bmv <;> exact rfl
theorem Clo:Bai Tryz.prog 134 C2v:=Bbg C2w 3 (fun x=>Bt7 x.1 x.2.1) (fun x=>by kernel_rfl) fun _ _ _=>C2x _ _
end V
end Go.Proofs.YtcfanlgpkefogaaGreat
