import Derived.Test.YtcfanlgpkefogaaGreatUh
import Derived.Test.YtcfanlgpkefogaaGreatVC
namespace Go.Proofs.YtcfanlgpkefogaaGreat
open Go.RowKit
namespace V
theorem is_lcheck:FnIs Tryz.prog (134,Tryz.f134):=⟨Tryz.func134,by kernel_rfl,by kernel_rfl⟩
theorem D71 {i n:Nat} (h:i<n) (hn:(n:Int)≤Bb2 .i64):W64 ((i:Int)+1)=((i+1:Nat):Int):=by
 simp only [Bb2] at hn
 rw [show W64 ((i:Int)+1)=(i:Int)+1 from Fp (by omega) (by omega)];rfl
def Bnx (p:TCT No×TCT Bat):Bool:=(bm p.1 p.2).ok
noncomputable def Dc5:Code:=(Bak (bodyOf Tryz.f134)).getD 0 .skip
def Cai:Lay:={ keys:=[0,1,4,18,19,20],ks:=[.d (.sl No),.d (.sl Bat),.d cI,.d (.sl No),.d cI,.d cI],bs:=[],n:=35,nx:=1000,marks:=[] }
def Dc6:Lay:={ keys:=[4],ks:=[.d cI],bs:=[],n:=35,nx:=1000,marks:=[] }
def Caj:XE→Lay:=fun _=>Dc6
def Cg (l:List (TCT No)) (s:List (TCT Bat)) (e:Int) (l':List (TCT No)) (n i:Int):Cai.T:=((l,s,e,l',n,i,()),())
def Cr (e:Int):Dc6.T:=((e,()),())
def D72 (l:List (TCT No)) (s:List (TCT Bat)) (i:Int):Bool:=Bnx (Bam l i.toNat (Baj No),Bam s i.toNat (Baj Bat))
def C5s (l:List (TCT No)) (s:List (TCT Bat)) (e:Int) (l':List (TCT No)) (n i:Int):Tree (Cai.T⊕Fq Caj) :=
 bif decide (i<n) then bif decide (0≤i∧i<(l'.length:Int)) then bif decide (0≤i∧i<(s.length:Int)) then
  bif okE (D72 l' s i)!=0 then .leaf (.inr ⟨.ret,Cr (okE (D72 l' s i))⟩) else .leaf (.inl (Cg l s e l' n (W64 (i+1)))) else .fail else .fail else .leaf (.inr ⟨.exit 1,Cr e⟩)
def Cak (g:Cai.T):Tree (Fq Caj) :=
 .br (decide (g.1.2.2.2.2.1=(g.1.2.2.2.1.length:Int)∧g.1.2.2.2.1.length=g.1.2.1.length∧g.1.2.2.2.2.2.1=0)) (.br ((g.1.2.2.2.1.zip g.1.2.1).all Bnx) (.leaf ⟨.exit 1,Cr g.1.2.2.1⟩) (.leaf ⟨.ret,Cr 2⟩)) .fail
def Czc (p:TCT No×TCT Bat) (_:Nat) (_:Unit):Unit⊕Fq Caj:=bif Bnx p then .inl () else .inr ⟨.ret,Cr 2⟩
theorem Cr7 (e:Int):∀ (l:List (TCT No×TCT Bat)) (i:Nat),C74 Czc (fun _=>(⟨.exit 1,Cr e⟩:Fq Caj)) l i ()=bif l.all Bnx then ⟨.exit 1,Cr e⟩ else ⟨.ret,Cr 2⟩
 | [],i=>rfl
 | p::l,i=>by
  simp only [C74,Czc,List.all_cons]
  cases Bnx p with
  | false=>rfl
  | true=>exact Cr7 e l (i+1)
theorem D73 {α β:Type} {l:List α} {s:List β} {i:Nat} (h:i<(l.zip s).length) (h1:i<l.length) (h2:i<s.length) (d:α) (e:β):(l.zip s)[i]=(Bam l i d,Bam s i e):=by
 rw [List.getElem_zip,Bby h1,Bby h2]
theorem Dfe:Baw Tryz.prog 134 Dc5 (Bav Cai Caj Cak):=by
 refine Beu (X:=ctx Tryz.prog plK []) (Bas Bar puK V1) 7 134 (fun _=>none) (fun _ _ f h=>by simp at h) Cai Caj (fun _=>Nat.le_refl _) Cak (fun g=>C5s g.1.1 g.1.2.1 g.1.2.2.1 g.1.2.2.2.1 g.1.2.2.2.2.1 g.1.2.2.2.2.2.1) (fun g=>by kernel_rfl) ?_
 rintro ⟨⟨l0,s,e,l,n,i,⟨⟩⟩,⟨⟩⟩ R hw hf
 obtain ⟨hf,h0⟩:=hf
 by_cases hc:n=(l.length:Int)∧l.length=s.length∧i=0
 ·obtain ⟨rfl,hls,rfl⟩:=hc
  have hf:=hf (decide_eq_true ⟨rfl,hls,rfl⟩)
  have hlen:(l.length:Int)≤Bb2 .i64:=by
   simp only [Lay.WF,Cai,WFKs,WFK,WFD] at hw
   exact hw.1.2.2.2.1.1
  have hz:(l.zip s).length=l.length:=by rw [List.length_zip,← hls,Nat.min_self]
  refine ⟨_,Bre (l.zip s) (fun i _=>Cg l0 s e l l.length i) Czc (fun _=>⟨.exit 1,Cr e⟩) (fun _=>True) ?_ ?_ (l.zip s).length 0 () (by omega) trivial ?_⟩
  ·intro i _ hi Q _ _ hQ
   have h1:i<l.length:=by omega
   have h2:i<s.length:=by omega
   show (C5s l0 s e l l.length i).sat Q
   unfold C5s D72
   rw [decide_eq_true (show (i:Int)<l.length by omega),decide_eq_true (show 0≤(i:Int)∧(i:Int)<l.length by omega),decide_eq_true (show 0≤(i:Int)∧(i:Int)<s.length by omega),D71 h1 hlen]
   have ht:(i:Int).toNat=i:=by omega
   rw [D73 hi h1 h2 (Baj No) (Baj Bat)] at hQ
   rw [ht]
   unfold Czc at hQ
   cases hk:Bnx (Bam l i (Baj No),Bam s i (Baj Bat)) with
   | true=>rw [hk] at hQ;exact hQ trivial
   | false=>rw [hk] at hQ;exact hQ
  ·intro _ Q _ hQ
   show (C5s l0 s e l l.length ((l.zip s).length:Nat)).sat Q
   rw [hz]
   unfold C5s
   rw [decide_eq_false (show ¬ (l.length:Int)<l.length by omega)]
   exact hQ
  ·rw [List.drop_zero,Cr7]
   obtain ⟨h1,h2⟩:=hf
   cases ha:(l.zip s).all Bnx with
   | true=>exact h1 ha
   | false=>exact h2 ha
 ·exact (h0 (decide_eq_false hc)).elim
def Bjd (l:List (TCT No)) (s:List (TCT Bat)):Int:=bif decide ((l.length:Int)>8) then 6 else bif (l.length:Int)!=(s.length:Int) then 17 else okE ((l.zip s).all Bnx)
abbrev C5t:PureT:=Bbh [.sl No,.sl Bat] [cI] (fun _=>true) (fun x=>(Bjd x.1 x.2.1,()))
noncomputable def Cr8:Ctx:=Bh4 Tryz.prog plK [(134,Tryz.f134)] [((134,6),Bav Cai Caj Cak)]
theorem C5u:CtxOk Cr8:=Bca Bar puK (fns_cons is_lcheck V1) (Bc0 (by kernel_rfl) (by kernel_rfl) Dfe)
def Bvd (l:List (TCT No)) (s:List (TCT Bat)):Tree (TCTs [cI]) :=
 bif decide ((l.length:Int)>8) then .leaf (6,()) else bif (l.length:Int)!=(s.length:Int) then .leaf (17,()) else
 bif decide ((l.length:Int)=(l.length:Int)∧l.length=s.length∧(0:Int)=0) then bif (l.zip s).all Bnx then .leaf (0,()) else .leaf (2,()) else .fail
theorem C5v (l:List (TCT No)) (s:List (TCT Bat)):(Bvd l s).sat (fun y=>y=(Bjd l s,())):=by
 unfold Bvd Bjd
 cases decide ((l.length:Int)>8) with
 | true=>exact rfl
 | false =>
  cases h:((l.length:Int)!=(s.length:Int)) with
  | true=>exact rfl
  | false =>
   have h':l.length=s.length:=by
                     have:(l.length:Int)=(s.length:Int):=by simpa using h
                     omega
   rw [decide_eq_true (show (l.length:Int)=(l.length:Int)∧l.length=s.length∧(0:Int)=0 from ⟨rfl,h',rfl⟩)]
   cases (l.zip s).all Bnx <;> exact rfl
theorem Cr9:Bai Tryz.prog 134 C5t:=Bbj C5u 3 (fun x=>Bvd x.1 x.2.1) (fun x=>by kernel_rfl) fun _ _ _=>C5v _ _
end V
end Go.Proofs.YtcfanlgpkefogaaGreat
