import Derived.Test.YtcfanlgpkefogaaGreatUh
import Derived.Test.YtcfanlgpkefogaaGreatVC
namespace Go.Proofs.YtcfanlgpkefogaaGreat
open Go.RowKit
namespace V
theorem is_lcheck:FnIs Tryz.prog (134,Tryz.f134):=⟨Tryz.func134,by kernel_rfl,by kernel_rfl⟩
theorem D0t {i n:Nat} (h:i<n) (hn:(n:Int)≤Bb2 .i64):W64 ((i:Int)+1)=((i+1:Nat):Int):=by
 simp only [Bb2] at hn
 rw [show W64 ((i:Int)+1)=(i:Int)+1 from Bah (by omega) (by omega)];rfl
def Bmy (p:TCT Fq×TCT Baq):Bool:=(bm p.1 p.2).ok
noncomputable def D59:Code:=(Bal (bodyOf Tryz.f134)).getD 0 .skip
def C7a:Lay:={ keys:=[0,1,4,18,19,20],ks:=[.d (.sl Fq),.d (.sl Baq),.d cI,.d (.sl Fq),.d cI,.d cI],bs:=[],n:=35,nx:=1000,marks:=[] }
def D5a:Lay:={ keys:=[4],ks:=[.d cI],bs:=[],n:=35,nx:=1000,marks:=[] }
def C7b:XE→Lay:=fun _=>D5a
def Cg (l:List (TCT Fq)) (s:List (TCT Baq)) (e:Int) (l':List (TCT Fq)) (n i:Int):C7a.T:=((l,s,e,l',n,i,()),())
def Cr (e:Int):D5a.T:=((e,()),())
def D0u (l:List (TCT Fq)) (s:List (TCT Baq)) (i:Int):Bool:=Bmy (Bav l i.toNat (Bas Fq),Bav s i.toNat (Bas Baq))
def C34 (l:List (TCT Fq)) (s:List (TCT Baq)) (e:Int) (l':List (TCT Fq)) (n i:Int):Tree (C7a.T⊕V1 C7b) :=
 bif decide (i<n) then bif decide (0≤i∧i<(l'.length:Int)) then bif decide (0≤i∧i<(s.length:Int)) then
  bif okE (D0u l' s i)!=0 then .leaf (.inr ⟨.ret,Cr (okE (D0u l' s i))⟩) else .leaf (.inl (Cg l s e l' n (W64 (i+1)))) else .fail else .fail else .leaf (.inr ⟨.exit 1,Cr e⟩)
def C7c (g:C7a.T):Tree (V1 C7b) :=
 .br (decide (g.1.2.2.2.2.1=(g.1.2.2.2.1.length:Int)∧g.1.2.2.2.1.length=g.1.2.1.length∧g.1.2.2.2.2.2.1=0)) (.br ((g.1.2.2.2.1.zip g.1.2.1).all Bmy) (.leaf ⟨.exit 1,Cr g.1.2.2.1⟩) (.leaf ⟨.ret,Cr 2⟩)) .fail
def Cti (p:TCT Fq×TCT Baq) (_:Nat) (_:Unit):Unit⊕V1 C7b:=bif Bmy p then .inl () else .inr ⟨.ret,Cr 2⟩
theorem Cm6 (e:Int):∀ (l:List (TCT Fq×TCT Baq)) (i:Nat),C4j Cti (fun _=>(⟨.exit 1,Cr e⟩:V1 C7b)) l i ()=bif l.all Bmy then ⟨.exit 1,Cr e⟩ else ⟨.ret,Cr 2⟩
 | [],i=>rfl
 | p::l,i=>by
  simp only [C4j,Cti,List.all_cons]
  cases Bmy p with
  | false=>rfl
  | true=>exact Cm6 e l (i+1)
theorem D0v {α β:Type} {l:List α} {s:List β} {i:Nat} (h:i<(l.zip s).length) (h1:i<l.length) (h2:i<s.length) (d:α) (e:β):(l.zip s)[i]=(Bav l i d,Bav s i e):=by
 rw [List.getElem_zip,Bdb h1,Bdb h2]
theorem D82:Bb0 Tryz.prog 134 D59 (Baw C7a C7b C7c):=by
 refine Bdw (X:=ctx Tryz.prog plK []) (Bap Bao puK No) 7 134 (fun _=>none) (fun _ _ f h=>by simp at h) C7a C7b (fun _=>Nat.le_refl _) C7c (fun g=>C34 g.1.1 g.1.2.1 g.1.2.2.1 g.1.2.2.2.1 g.1.2.2.2.2.1 g.1.2.2.2.2.2.1) (fun g=>by kernel_rfl) ?_
 rintro ⟨⟨l0,s,e,l,n,i,⟨⟩⟩,⟨⟩⟩ R hw hf
 obtain ⟨hf,h0⟩:=hf
 by_cases hc:n=(l.length:Int)∧l.length=s.length∧i=0
 ·obtain ⟨rfl,hls,rfl⟩:=hc
  have hf:=hf (decide_eq_true ⟨rfl,hls,rfl⟩)
  have hlen:(l.length:Int)≤Bb2 .i64:=by
   simp only [Lay.WF,C7a,WFKs,WFK,WFD] at hw
   exact hw.1.2.2.2.1.1
  have hz:(l.zip s).length=l.length:=by rw [List.length_zip,← hls,Nat.min_self]
  refine ⟨_,Bq6 (l.zip s) (fun i _=>Cg l0 s e l l.length i) Cti (fun _=>⟨.exit 1,Cr e⟩) (fun _=>True) ?_ ?_ (l.zip s).length 0 () (by omega) trivial ?_⟩
  ·intro i _ hi Q _ _ hQ
   have h1:i<l.length:=by omega
   have h2:i<s.length:=by omega
   show (C34 l0 s e l l.length i).sat Q
   unfold C34 D0u
   rw [decide_eq_true (show (i:Int)<l.length by omega),decide_eq_true (show 0≤(i:Int)∧(i:Int)<l.length by omega),decide_eq_true (show 0≤(i:Int)∧(i:Int)<s.length by omega),D0t h1 hlen]
   have ht:(i:Int).toNat=i:=by omega
   rw [D0v hi h1 h2 (Bas Fq) (Bas Baq)] at hQ
   rw [ht]
   unfold Cti at hQ
   cases hk:Bmy (Bav l i (Bas Fq),Bav s i (Bas Baq)) with
   | true=>rw [hk] at hQ;exact hQ trivial
   | false=>rw [hk] at hQ;exact hQ
  ·intro _ Q _ hQ
   show (C34 l0 s e l l.length ((l.zip s).length:Nat)).sat Q
   rw [hz]
   unfold C34
   rw [decide_eq_false (show ¬ (l.length:Int)<l.length by omega)]
   exact hQ
  ·rw [List.drop_zero,Cm6]
   obtain ⟨h1,h2⟩:=hf
   cases ha:(l.zip s).all Bmy with
   | true=>exact h1 ha
   | false=>exact h2 ha
 ·exact (h0 (decide_eq_false hc)).elim
def Bjh (l:List (TCT Fq)) (s:List (TCT Baq)):Int:=bif decide ((l.length:Int)>8) then 6 else bif (l.length:Int)!=(s.length:Int) then 17 else okE ((l.zip s).all Bmy)
abbrev C35:PureT:=Bbc [.sl Fq,.sl Baq] [cI] (fun _=>true) (fun x=>(Bjh x.1 x.2.1,()))
noncomputable def Cm7:Ctx:=Bgo Tryz.prog plK [(134,Tryz.f134)] [((134,6),Baw C7a C7b C7c)]
theorem C36:CtxOk Cm7:=Bc8 Bao puK (fns_cons is_lcheck No) (Bbt (by kernel_rfl) (by kernel_rfl) D82)
def Btk (l:List (TCT Fq)) (s:List (TCT Baq)):Tree (TCTs [cI]) :=
 bif decide ((l.length:Int)>8) then .leaf (6,()) else bif (l.length:Int)!=(s.length:Int) then .leaf (17,()) else
 bif decide ((l.length:Int)=(l.length:Int)∧l.length=s.length∧(0:Int)=0) then bif (l.zip s).all Bmy then .leaf (0,()) else .leaf (2,()) else .fail
theorem C37 (l:List (TCT Fq)) (s:List (TCT Baq)):(Btk l s).sat (fun y=>y=(Bjh l s,())):=by
 unfold Btk Bjh
 cases decide ((l.length:Int)>8) with
 | true=>exact rfl
 | false =>
  cases h:((l.length:Int)!=(s.length:Int)) with
  | true=>exact rfl
  | false =>
   have h':l.length=s.length:=by
                     have:(l.length:Int)=(s.length:Int):=by simpa using h
                     omega
   rw [decide_eq_true (show (l.length:Int)=(l.length:Int)∧l.length=s.length∧(0:Int)=0 from ⟨rfl,h',rfl⟩)]
   cases (l.zip s).all Bmy <;> exact rfl
theorem Cm8:Bai Tryz.prog 134 C35:=Bbd C36 3 (fun x=>Btk x.1 x.2.1) (fun x=>by kernel_rfl) fun _ _ _=>C37 _ _
end V
end Go.Proofs.YtcfanlgpkefogaaGreat
