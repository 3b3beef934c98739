import Derived.Test.YtcfanlgpkefogaaGreatSd
import Derived.Test.YtcfanlgpkefogaaGreatTV
import Derived.Test.YtcfanlgpkefogaaGreatUj
import Derived.Test.YtcfanlgpkefogaaGreatBa
import Derived.Test.YtcfanlgpkefogaaGreatZe
namespace Go.Proofs.YtcfanlgpkefogaaGreat
open Go.RowKit
namespace V
abbrev Bw9:PureT:=Bbe [cPt,cPt,cI] [cPt,cI] (fun _=>true) (fun x=>(((TwR x.1.1 x.1.2.1 x.2.1.1 x.2.1.2.1 x.2.2.1).1.1,(TwR x.1.1 x.1.2.1 x.2.1.1 x.2.1.2.1 x.2.2.1).1.2,()),(TwR x.1.1 x.1.2.1 x.2.1.1 x.2.1.2.1 x.2.2.1).2,()))
theorem Ccf:Bai Tryz.prog 23 Bw9:=C77
end V
end Go.Proofs.YtcfanlgpkefogaaGreat
namespace Go.Proofs.YtcfanlgpkefogaaGreat
open Go.RowKit
namespace V
namespace St
abbrev Bbm:TC:=.st [cI,cI,cI,cI,.b]
abbrev Bc1:TC:=.st [cI,cI,cI]
abbrev Bal:TC:=.st [.s,cI,cI,cI,.sl Bbm,Bag,cI,cI,.sl Bc1]
abbrev cGr:TC:=.st [Bal,.sl Fq,Bbu]
abbrev cSt:TC:=.st [.sl Baw,.sl .b,cI,cI,cI]
abbrev cBl:TC:=.st [cI,cPt,cI,cI]
abbrev cKn:TC:=.st [cI,cI,cI,cI,cI]
theorem is_between2:FnIs Tryz.prog (105,Tryz.f105):=⟨Tryz.func105,by kernel_rfl,by kernel_rfl⟩
theorem is_validHoop:FnIs Tryz.prog (118,Tryz.f118):=⟨Tryz.func118,by kernel_rfl,by kernel_rfl⟩
theorem is_validCell:FnIs Tryz.prog (121,Tryz.f121):=⟨Tryz.func121,by kernel_rfl,by kernel_rfl⟩
theorem is_Check1:FnIs Tryz.prog (117,Tryz.f117):=⟨Tryz.func117,by kernel_rfl,by kernel_rfl⟩
theorem is_Check2:FnIs Tryz.prog (120,Tryz.f120):=⟨Tryz.func120,by kernel_rfl,by kernel_rfl⟩
theorem is_CG1:FnIs Tryz.prog (124,Tryz.f124):=⟨Tryz.func124,by kernel_rfl,by kernel_rfl⟩
theorem is_still1:FnIs Tryz.prog (94,Tryz.f94):=⟨Tryz.func94,by kernel_rfl,by kernel_rfl⟩
theorem is_Runs1:FnIs Tryz.prog (82,Tryz.f82):=⟨Tryz.func82,by kernel_rfl,by kernel_rfl⟩
theorem is_tChk:FnIs Tryz.prog (43,Tryz.f43):=⟨Tryz.func43,by kernel_rfl,by kernel_rfl⟩
def inR (x lo hi:Int):Bool:=decide (lo≤x)&&decide (x≤hi)
abbrev s_inR:PureT:=Bbe [cI,cI,cI] [.b] (fun _=>true) (fun x=>(inR x.1 x.2.1 x.2.2.1,()))
abbrev TBo:=Tree (TCTs [.b])
def Bnm (a:Bool) (t:TBo):TBo:=bif a then t else .leaf (false,())
theorem Bes {a b:Bool} {t:TBo} (h:t.sat (fun y=>y=(b,()))):(Bnm a t).sat (fun y=>y=(a&&b,())):=by
 unfold Bnm
 cases a with
 | true=>rw [Bool.true_and];exact h
 | false=>exact rfl
theorem Bwa (b:Bool):(Tree.leaf (b,()):TBo).sat (fun y=>y=(b,())):=rfl
theorem q_between2:Bai Tryz.prog 105 s_inR:=Bbg (Baq Bao puOk_nil (fns_cons is_between2 V1)) 3 (fun x=>Bnm (decide (x.2.1≤x.1)) (.leaf (decide (x.1≤x.2.2.1),()))) (fun x=>by kernel_rfl) fun _ _ _=>Bes (Bwa _)
def plBt:List (Nat×PureT):=[(105,s_inR)]
theorem puBt:Bc7 Tryz.prog plBt:=puOk_cons is_between2.plain q_between2 (puOk_nil)
def Bej (h:TCT Bbm):Bool:=inR h.1 0 4194304&&(inR h.2.1 0 4194304&&(inR h.2.2.1 2 32768&&((Int.tmod h.2.2.1 2==0)&&inR h.2.2.2.1 1 8192)))
def Bf9 (c:TCT Bc1):Bool:=inR c.1 0 65536&&(inR c.2.1 (-4096) 4096&&inR c.2.2.1 (-4096) 4096)
abbrev By4:PureT:=Bbe [Bbm] [.b] (fun _=>true) (fun x=>(Bej x.1,()))
abbrev By5:PureT:=Bbe [Bc1] [.b] (fun _=>true) (fun x=>(Bf9 x.1,()))
def By6 (h:TCT Bbm):TBo:=Bnm (inR h.1 0 4194304) (Bnm (inR h.2.1 0 4194304) (Bnm (inR h.2.2.1 2 32768) (Bnm (Int.tmod h.2.2.1 2==0) (.leaf (inR h.2.2.2.1 1 8192,())))))
def By7 (c:TCT Bc1):TBo:=Bnm (inR c.1 0 65536) (Bnm (inR c.2.1 (-4096) 4096) (.leaf (inR c.2.2.1 (-4096) 4096,())))
theorem Bs3 (h:TCT Bbm):(By6 h).sat (fun y=>y=(Bej h,())):=Bes (Bes (Bes (Bes (Bwa _))))
theorem Bs4 (c:TCT Bc1):(By7 c).sat (fun y=>y=(Bf9 c,())):=Bes (Bes (Bwa _))
theorem C0h:Bai Tryz.prog 118 By4:=Bbg (Baq Bao puBt (fns_cons is_validHoop V1)) 3 (fun x=>By6 x.1) (fun x=>by kernel_rfl) fun x _ _=>Bs3 x.1
theorem C0i:Bai Tryz.prog 121 By5:=Bbg (Baq Bao puBt (fns_cons is_validCell V1)) 3 (fun x=>By7 x.1) (fun x=>by kernel_rfl) fun x _ _=>Bs4 x.1
def Bed (m:TCT Baw):Bool:=m.2.1.1==0&&m.2.1.2.1==0
def Bfo (b:TCT Fq):Bool:=Bgv b.1 b.2.1
abbrev D1w:PureT:=Bbe [Bbm] [.b] (fun _=>true) (fun x=>(!Bej x.1,()))
abbrev D1x:PureT:=Bbe [Bc1] [.b] (fun _=>true) (fun x=>(!Bf9 x.1,()))
abbrev Cv2:PureT:=Bbe [Fq] [.b] (fun _=>true) (fun x=>(!Bfo x.1,()))
abbrev Cv3:PureT:=Bbe [Baw] [.b] (fun _=>true) (fun x=>(!Bed x.1,()))
abbrev Cv4:PureT:=Bbe [cPt] [.b] (fun _=>true) (fun x=>(!fpt x.1.1 x.1.2.1,()))
theorem D5q:Bai Tryz.prog 117 D1w:=Bbg (Baq Bao (puOk_cons is_validHoop.plain C0h puOk_nil) (fns_cons is_Check1 V1)) 3 (fun x=>.leaf (!Bej x.1,())) (fun x=>by kernel_rfl) fun _ _ _=>rfl
theorem D5r:Bai Tryz.prog 120 D1x:=Bbg (Baq Bao (puOk_cons is_validCell.plain C0i puOk_nil) (fns_cons is_Check2 V1)) 3 (fun x=>.leaf (!Bf9 x.1,())) (fun x=>by kernel_rfl) fun _ _ _=>rfl
theorem Bs5 (b:Bool):(okE b != 0)=!b:=by unfold okE;cases b <;> rfl
theorem D1y:Bai Tryz.prog 124 Cv2:=Bbg (Baq Bao (puOk_cons is_CheckBall.plain Bqo puOk_nil) (fns_cons is_CG1 V1)) 3 (fun x=>.leaf (okE (Bgv x.1.1 x.1.2.1)!=0,())) (fun x=>by kernel_rfl) fun x _ _=>by
 show (okE (Bgv x.1.1 x.1.2.1)!=0,())=(!Bfo x.1,())
 rw [Bs5];rfl
theorem D1z:Bai Tryz.prog 94 Cv3:=Bbg (Baq Bao puOk_nil (fns_cons is_still1 V1)) 3 (fun x=>.leaf (!(x.1.2.1.1==0&&(x.1.2.1.2.1==0&&true)),())) (fun x=>by kernel_rfl) fun x _ _=>by
 show (!(x.1.2.1.1==0&&(x.1.2.1.2.1==0&&true)),())=(!Bed x.1,())
 rw [Bool.and_true];rfl
theorem D20:Bai Tryz.prog 82 Cv4:=Bbg (Baq Bao (puOk_cons is_tChk.plain Bjh puOk_nil) (fns_cons is_Runs1 V1)) 3 (fun x=>.leaf (Bfs x.1.1 x.1.2.1 != 0,())) (fun x=>by kernel_rfl) fun x _ _=>by
 show (Bfs x.1.1 x.1.2.1 != 0,())=(!fpt x.1.1 x.1.2.1,())
 unfold Bfs
 cases fpt x.1.1 x.1.2.1 <;> rfl
def plCl:List (Nat×PureT):=[(117,D1w),(120,D1x),(124,Cv2),(94,Cv3),(82,Cv4)]
theorem puCl:Bc7 Tryz.prog plCl:=puOk_cons is_Check1.plain D5q (puOk_cons is_Check2.plain D5r (puOk_cons is_CG1.plain D1y (puOk_cons is_still1.plain D1z (puOk_cons is_Runs1.plain D20 puOk_nil))))
theorem is_ixHoop:FnIs Tryz.prog (148,Tryz.f148):=⟨Tryz.func148,by kernel_rfl,by kernel_rfl⟩
theorem is_cfHoop:FnIs Tryz.prog (116,Tryz.f116):=⟨Tryz.func116,by kernel_rfl,by kernel_rfl⟩
abbrev Bg1:List SK:=[]
def Bcz (k:SKTs Bg1) (x:TCT (Bbm)):Bool:=!Bej x
noncomputable def Bwb:Code:=(Ban (bodyOf Tryz.f148)).getD 0 .skip
def Bhe:Lay:={ keys:=[0,1,7,8],ks:=[.d (.sl (Bbm)),.f 117 [] Bg1,.d cI,.d cI],bs:=[],n:=19,nx:=1000,marks:=[] }
def Ccg:Lay:={ keys:=[4],ks:=[.d cI],bs:=[],n:=19,nx:=1000,marks:=[] }
def Cch:Lay:={ keys:=[],ks:=[],bs:=[],n:=19,nx:=1000,marks:=[] }
def Bgc:XE→Lay
 | .ret=>Ccg
 | _=>Cch
def Bwc (k:SKTs Bg1) (l:List (TCT (Bbm))) (n i:Int):Bhe.T:=((l,((),k),n,i,()),())
def Bnn (i:Int):V2 Bgc:=⟨.ret,((i,()),())⟩
def Bno:V2 Bgc:=⟨.exit 0,((),())⟩
def Bhx (k:SKTs Bg1) (l:List (TCT (Bbm))) (n:Int) (x:TCT (Bbm)) (i:Int):Tree (Bhe.T⊕V2 Bgc):=bif Bcz k x then .leaf (.inr (Bnn i)) else .leaf (.inl (Bwc k l n (W64 (i+1))))
def Cci (k:SKTs Bg1) (l:List (TCT (Bbm))) (n i:Int):Tree (Bhe.T⊕V2 Bgc) :=
 bif decide (i<n) then bif decide (0≤i∧i<(l.length:Int)) then Bhx k l n (Bas l i.toNat (Bap (Bbm))) i else .fail else .leaf (.inr Bno)
def Bmn (g:Bhe.T):Tree (V2 Bgc) :=
 .br (Bir g.1.2.2.1 g.1.2.2.2.1 g.1.1) (.br (g.1.1.any (Bcz g.1.2.1.2)) (.leaf (Bnn (g.1.1.findIdx (Bcz g.1.2.1.2)))) (.leaf Bno)) .fail
theorem Cgm:Bb0 Tryz.prog 148 Bwb (Baz Bhe Bgc Bmn):=by
 refine Be7 (X:=ctx Tryz.prog plCl []) (Baq Bao puCl V1) 7 148 (fun _=>none) (fun _ _ f h=>by simp at h) Bhe Bgc (fun e=>by cases e <;> exact Nat.le_refl _) Bmn (fun g=>Cci g.1.2.1.2 g.1.1 g.1.2.2.1 g.1.2.2.2.1) (fun g=>by kernel_rfl) ?_
 rintro ⟨⟨l,⟨⟨⟩,k⟩,n,i,⟨⟩⟩,⟨⟩⟩ R hw hf
 obtain ⟨hf,h0⟩:=hf
 by_cases hc:n=(l.length:Int)∧i=0
 ·obtain ⟨rfl,rfl⟩:=hc
  have hf:=hf (decide_eq_true ⟨rfl,rfl⟩)
  refine Cnx l (Bap (Bbm)) (Bex hw.1.1) (fun n i _=>Bwc k l n i) (fun x i (_:Unit)=>bif Bcz k x then .inr (Bnn i) else .inl ()) (fun _=>Bno) (fun _=>True) (fun x i _=>Bhx k l l.length x i) (fun i _=>rfl) ?_ () trivial ?_
  ·intro i _ hi Q _ _ hw1 hQ
   show (Bhx k l l.length l[i] i).sat Q
   unfold Bhx
   rw [hw1]
   cases hp:Bcz k l[i] with
   | true=>rw [hp] at hQ;exact hQ
   | false=>rw [hp] at hQ;exact hQ trivial
  ·rw [Bm5 (Bcz k) (fun i=>Bnn i) Bno l 0,Nat.zero_add]
   cases ha:l.any (Bcz k) with
   | true=>exact hf.1 ha
   | false=>exact hf.2 ha
 ·exact (h0 (decide_eq_false hc)).elim
abbrev Cgn:PureT:=Bid [.d (.sl (Bbm)),.f 117 [] Bg1] [cI] (fun _=>true) (fun x=>(bif x.1.any (Bcz x.2.1.2) then (x.1.findIdx (Bcz x.2.1.2):Int) else -1,()))
noncomputable def Cgo:Ctx:=Bh4 Tryz.prog plCl [(148,Tryz.f148)] [((148,keyOf Bwb),Baz Bhe Bgc Bmn)]
theorem C0j:CtxOk Cgo:=Bca Bao puCl (fns_cons is_ixHoop V1) (Bbv rfl (by kernel_rfl) Cgm)
def C0k (k:SKTs Bg1) (l:List (TCT (Bbm))):Tree (Int×Unit):=bif Bir (l.length:Int) 0 l then bif l.any (Bcz k) then .leaf ((l.findIdx (Bcz k):Int),()) else .leaf (-1,()) else .fail
theorem C0l (k:SKTs Bg1) (l:List (TCT (Bbm))):(C0k k l).sat (fun y=>y=(bif l.any (Bcz k) then (l.findIdx (Bcz k):Int) else -1,())):=by
 refine Bld (decide_eq_true ⟨rfl,rfl⟩) ?_
 cases l.any (Bcz k) <;> exact rfl
theorem Cgp:Bai Tryz.prog 148 Cgn:=Bml C0j 8 (fun x=>C0k x.2.1.2 x.1) (fun x=>by kernel_rfl) fun x _ _=>C0l _ _
abbrev C0m:PureT:=Bid [.d (.sl (Bbm)),.f 117 [] Bg1] [.b] (fun _=>true) (fun x=>(x.1.any (Bcz x.2.1.2),()))
theorem C0n (k:SKTs Bg1) (l:List (TCT (Bbm))):(Tree.leaf (decide ((bif l.any (Bcz k) then (l.findIdx (Bcz k):Int) else -1)≥0),()):Tree (Bool×Unit)).sat (fun y=>y=(l.any (Bcz k),())):=by
 rw [Bp6];exact rfl
theorem Cgq:Bai Tryz.prog 116 C0m:=Bml (Baq Bao (puOk_cons is_ixHoop.plain Cgp puOk_nil) (fns_cons is_cfHoop V1)) 8 (fun x=>.leaf (decide ((bif x.1.any (Bcz x.2.1.2) then (x.1.findIdx (Bcz x.2.1.2):Int) else -1)≥0),())) (fun x=>by kernel_rfl) fun x _ _=>C0n _ _
theorem is_ixCell:FnIs Tryz.prog (149,Tryz.f149):=⟨Tryz.func149,by kernel_rfl,by kernel_rfl⟩
theorem is_cfCell:FnIs Tryz.prog (119,Tryz.f119):=⟨Tryz.func119,by kernel_rfl,by kernel_rfl⟩
abbrev Bg2:List SK:=[]
def Bd0 (k:SKTs Bg2) (x:TCT (Bc1)):Bool:=!Bf9 x
noncomputable def Bwd:Code:=(Ban (bodyOf Tryz.f149)).getD 0 .skip
def Bhf:Lay:={ keys:=[0,1,7,8],ks:=[.d (.sl (Bc1)),.f 120 [] Bg2,.d cI,.d cI],bs:=[],n:=19,nx:=1000,marks:=[] }
def Ccj:Lay:={ keys:=[4],ks:=[.d cI],bs:=[],n:=19,nx:=1000,marks:=[] }
def Cck:Lay:={ keys:=[],ks:=[],bs:=[],n:=19,nx:=1000,marks:=[] }
def Bgd:XE→Lay
 | .ret=>Ccj
 | _=>Cck
def Bwe (k:SKTs Bg2) (l:List (TCT (Bc1))) (n i:Int):Bhf.T:=((l,((),k),n,i,()),())
def Bnp (i:Int):V2 Bgd:=⟨.ret,((i,()),())⟩
def Bnq:V2 Bgd:=⟨.exit 0,((),())⟩
def Bhy (k:SKTs Bg2) (l:List (TCT (Bc1))) (n:Int) (x:TCT (Bc1)) (i:Int):Tree (Bhf.T⊕V2 Bgd):=bif Bd0 k x then .leaf (.inr (Bnp i)) else .leaf (.inl (Bwe k l n (W64 (i+1))))
def Ccl (k:SKTs Bg2) (l:List (TCT (Bc1))) (n i:Int):Tree (Bhf.T⊕V2 Bgd) :=
 bif decide (i<n) then bif decide (0≤i∧i<(l.length:Int)) then Bhy k l n (Bas l i.toNat (Bap (Bc1))) i else .fail else .leaf (.inr Bnq)
def Bmo (g:Bhf.T):Tree (V2 Bgd) :=
 .br (Bir g.1.2.2.1 g.1.2.2.2.1 g.1.1) (.br (g.1.1.any (Bd0 g.1.2.1.2)) (.leaf (Bnp (g.1.1.findIdx (Bd0 g.1.2.1.2)))) (.leaf Bnq)) .fail
theorem Cgr:Bb0 Tryz.prog 149 Bwd (Baz Bhf Bgd Bmo):=by
 refine Be7 (X:=ctx Tryz.prog plCl []) (Baq Bao puCl V1) 7 149 (fun _=>none) (fun _ _ f h=>by simp at h) Bhf Bgd (fun e=>by cases e <;> exact Nat.le_refl _) Bmo (fun g=>Ccl g.1.2.1.2 g.1.1 g.1.2.2.1 g.1.2.2.2.1) (fun g=>by kernel_rfl) ?_
 rintro ⟨⟨l,⟨⟨⟩,k⟩,n,i,⟨⟩⟩,⟨⟩⟩ R hw hf
 obtain ⟨hf,h0⟩:=hf
 by_cases hc:n=(l.length:Int)∧i=0
 ·obtain ⟨rfl,rfl⟩:=hc
  have hf:=hf (decide_eq_true ⟨rfl,rfl⟩)
  refine Cnx l (Bap (Bc1)) (Bex hw.1.1) (fun n i _=>Bwe k l n i) (fun x i (_:Unit)=>bif Bd0 k x then .inr (Bnp i) else .inl ()) (fun _=>Bnq) (fun _=>True) (fun x i _=>Bhy k l l.length x i) (fun i _=>rfl) ?_ () trivial ?_
  ·intro i _ hi Q _ _ hw1 hQ
   show (Bhy k l l.length l[i] i).sat Q
   unfold Bhy
   rw [hw1]
   cases hp:Bd0 k l[i] with
   | true=>rw [hp] at hQ;exact hQ
   | false=>rw [hp] at hQ;exact hQ trivial
  ·rw [Bm5 (Bd0 k) (fun i=>Bnp i) Bnq l 0,Nat.zero_add]
   cases ha:l.any (Bd0 k) with
   | true=>exact hf.1 ha
   | false=>exact hf.2 ha
 ·exact (h0 (decide_eq_false hc)).elim
abbrev Cgs:PureT:=Bid [.d (.sl (Bc1)),.f 120 [] Bg2] [cI] (fun _=>true) (fun x=>(bif x.1.any (Bd0 x.2.1.2) then (x.1.findIdx (Bd0 x.2.1.2):Int) else -1,()))
noncomputable def Cgt:Ctx:=Bh4 Tryz.prog plCl [(149,Tryz.f149)] [((149,keyOf Bwd),Baz Bhf Bgd Bmo)]
theorem C0o:CtxOk Cgt:=Bca Bao puCl (fns_cons is_ixCell V1) (Bbv rfl (by kernel_rfl) Cgr)
def C0p (k:SKTs Bg2) (l:List (TCT (Bc1))):Tree (Int×Unit):=bif Bir (l.length:Int) 0 l then bif l.any (Bd0 k) then .leaf ((l.findIdx (Bd0 k):Int),()) else .leaf (-1,()) else .fail
theorem C0q (k:SKTs Bg2) (l:List (TCT (Bc1))):(C0p k l).sat (fun y=>y=(bif l.any (Bd0 k) then (l.findIdx (Bd0 k):Int) else -1,())):=by
 refine Bld (decide_eq_true ⟨rfl,rfl⟩) ?_
 cases l.any (Bd0 k) <;> exact rfl
theorem Cgu:Bai Tryz.prog 149 Cgs:=Bml C0o 8 (fun x=>C0p x.2.1.2 x.1) (fun x=>by kernel_rfl) fun x _ _=>C0q _ _
abbrev C0r:PureT:=Bid [.d (.sl (Bc1)),.f 120 [] Bg2] [.b] (fun _=>true) (fun x=>(x.1.any (Bd0 x.2.1.2),()))
theorem C0s (k:SKTs Bg2) (l:List (TCT (Bc1))):(Tree.leaf (decide ((bif l.any (Bd0 k) then (l.findIdx (Bd0 k):Int) else -1)≥0),()):Tree (Bool×Unit)).sat (fun y=>y=(l.any (Bd0 k),())):=by
 rw [Bp6];exact rfl
theorem Cgv:Bai Tryz.prog 119 C0r:=Bml (Baq Bao (puOk_cons is_ixCell.plain Cgu puOk_nil) (fns_cons is_cfCell V1)) 8 (fun x=>.leaf (decide ((bif x.1.any (Bd0 x.2.1.2) then (x.1.findIdx (Bd0 x.2.1.2):Int) else -1)≥0),())) (fun x=>by kernel_rfl) fun x _ _=>C0s _ _
theorem is_ixBall:FnIs Tryz.prog (151,Tryz.f151):=⟨Tryz.func151,by kernel_rfl,by kernel_rfl⟩
theorem is_cfBall:FnIs Tryz.prog (123,Tryz.f123):=⟨Tryz.func123,by kernel_rfl,by kernel_rfl⟩
abbrev Bg3:List SK:=[]
def Bd1 (k:SKTs Bg3) (x:TCT (Fq)):Bool:=!Bfo x
noncomputable def Bwf:Code:=(Ban (bodyOf Tryz.f151)).getD 0 .skip
def Bhg:Lay:={ keys:=[0,1,7,8],ks:=[.d (.sl (Fq)),.f 124 [] Bg3,.d cI,.d cI],bs:=[],n:=19,nx:=1000,marks:=[] }
def Ccm:Lay:={ keys:=[4],ks:=[.d cI],bs:=[],n:=19,nx:=1000,marks:=[] }
def Ccn:Lay:={ keys:=[],ks:=[],bs:=[],n:=19,nx:=1000,marks:=[] }
def Bge:XE→Lay
 | .ret=>Ccm
 | _=>Ccn
def Bwg (k:SKTs Bg3) (l:List (TCT (Fq))) (n i:Int):Bhg.T:=((l,((),k),n,i,()),())
def Bnr (i:Int):V2 Bge:=⟨.ret,((i,()),())⟩
def Bns:V2 Bge:=⟨.exit 0,((),())⟩
def Bhz (k:SKTs Bg3) (l:List (TCT (Fq))) (n:Int) (x:TCT (Fq)) (i:Int):Tree (Bhg.T⊕V2 Bge):=bif Bd1 k x then .leaf (.inr (Bnr i)) else .leaf (.inl (Bwg k l n (W64 (i+1))))
def Cco (k:SKTs Bg3) (l:List (TCT (Fq))) (n i:Int):Tree (Bhg.T⊕V2 Bge) :=
 bif decide (i<n) then bif decide (0≤i∧i<(l.length:Int)) then Bhz k l n (Bas l i.toNat (Bap (Fq))) i else .fail else .leaf (.inr Bns)
def Bmp (g:Bhg.T):Tree (V2 Bge) :=
 .br (Bir g.1.2.2.1 g.1.2.2.2.1 g.1.1) (.br (g.1.1.any (Bd1 g.1.2.1.2)) (.leaf (Bnr (g.1.1.findIdx (Bd1 g.1.2.1.2)))) (.leaf Bns)) .fail
theorem Cgw:Bb0 Tryz.prog 151 Bwf (Baz Bhg Bge Bmp):=by
 refine Be7 (X:=ctx Tryz.prog plCl []) (Baq Bao puCl V1) 7 151 (fun _=>none) (fun _ _ f h=>by simp at h) Bhg Bge (fun e=>by cases e <;> exact Nat.le_refl _) Bmp (fun g=>Cco g.1.2.1.2 g.1.1 g.1.2.2.1 g.1.2.2.2.1) (fun g=>by kernel_rfl) ?_
 rintro ⟨⟨l,⟨⟨⟩,k⟩,n,i,⟨⟩⟩,⟨⟩⟩ R hw hf
 obtain ⟨hf,h0⟩:=hf
 by_cases hc:n=(l.length:Int)∧i=0
 ·obtain ⟨rfl,rfl⟩:=hc
  have hf:=hf (decide_eq_true ⟨rfl,rfl⟩)
  refine Cnx l (Bap (Fq)) (Bex hw.1.1) (fun n i _=>Bwg k l n i) (fun x i (_:Unit)=>bif Bd1 k x then .inr (Bnr i) else .inl ()) (fun _=>Bns) (fun _=>True) (fun x i _=>Bhz k l l.length x i) (fun i _=>rfl) ?_ () trivial ?_
  ·intro i _ hi Q _ _ hw1 hQ
   show (Bhz k l l.length l[i] i).sat Q
   unfold Bhz
   rw [hw1]
   cases hp:Bd1 k l[i] with
   | true=>rw [hp] at hQ;exact hQ
   | false=>rw [hp] at hQ;exact hQ trivial
  ·rw [Bm5 (Bd1 k) (fun i=>Bnr i) Bns l 0,Nat.zero_add]
   cases ha:l.any (Bd1 k) with
   | true=>exact hf.1 ha
   | false=>exact hf.2 ha
 ·exact (h0 (decide_eq_false hc)).elim
abbrev Cgx:PureT:=Bid [.d (.sl (Fq)),.f 124 [] Bg3] [cI] (fun _=>true) (fun x=>(bif x.1.any (Bd1 x.2.1.2) then (x.1.findIdx (Bd1 x.2.1.2):Int) else -1,()))
noncomputable def Cgy:Ctx:=Bh4 Tryz.prog plCl [(151,Tryz.f151)] [((151,keyOf Bwf),Baz Bhg Bge Bmp)]
theorem C0t:CtxOk Cgy:=Bca Bao puCl (fns_cons is_ixBall V1) (Bbv rfl (by kernel_rfl) Cgw)
def C0u (k:SKTs Bg3) (l:List (TCT (Fq))):Tree (Int×Unit):=bif Bir (l.length:Int) 0 l then bif l.any (Bd1 k) then .leaf ((l.findIdx (Bd1 k):Int),()) else .leaf (-1,()) else .fail
theorem C0v (k:SKTs Bg3) (l:List (TCT (Fq))):(C0u k l).sat (fun y=>y=(bif l.any (Bd1 k) then (l.findIdx (Bd1 k):Int) else -1,())):=by
 refine Bld (decide_eq_true ⟨rfl,rfl⟩) ?_
 cases l.any (Bd1 k) <;> exact rfl
theorem Cgz:Bai Tryz.prog 151 Cgx:=Bml C0t 8 (fun x=>C0u x.2.1.2 x.1) (fun x=>by kernel_rfl) fun x _ _=>C0v _ _
abbrev C0w:PureT:=Bid [.d (.sl (Fq)),.f 124 [] Bg3] [.b] (fun _=>true) (fun x=>(x.1.any (Bd1 x.2.1.2),()))
theorem C0x (k:SKTs Bg3) (l:List (TCT (Fq))):(Tree.leaf (decide ((bif l.any (Bd1 k) then (l.findIdx (Bd1 k):Int) else -1)≥0),()):Tree (Bool×Unit)).sat (fun y=>y=(l.any (Bd1 k),())):=by
 rw [Bp6];exact rfl
theorem Ch0:Bai Tryz.prog 123 C0w:=Bml (Baq Bao (puOk_cons is_ixBall.plain Cgz puOk_nil) (fns_cons is_cfBall V1)) 8 (fun x=>.leaf (decide ((bif x.1.any (Bd1 x.2.1.2) then (x.1.findIdx (Bd1 x.2.1.2):Int) else -1)≥0),())) (fun x=>by kernel_rfl) fun x _ _=>C0x _ _
theorem is_ixMot:FnIs Tryz.prog (133,Tryz.f133):=⟨Tryz.func133,by kernel_rfl,by kernel_rfl⟩
theorem is_cfMot:FnIs Tryz.prog (93,Tryz.f93):=⟨Tryz.func93,by kernel_rfl,by kernel_rfl⟩
abbrev Bii:List SK:=[]
def Bdz (k:SKTs Bii) (x:TCT (Baw)):Bool:=!Bed x
noncomputable def C0y:Code:=(Ban (bodyOf Tryz.f133)).getD 0 .skip
def Bja:Lay:={ keys:=[0,1,7,8],ks:=[.d (.sl (Baw)),.f 94 [] Bii,.d cI,.d cI],bs:=[],n:=19,nx:=1000,marks:=[] }
def Ch1:Lay:={ keys:=[4],ks:=[.d cI],bs:=[],n:=19,nx:=1000,marks:=[] }
def Ch2:Lay:={ keys:=[],ks:=[],bs:=[],n:=19,nx:=1000,marks:=[] }
def Bi0:XE→Lay
 | .ret=>Ch1
 | _=>Ch2
def C0z (k:SKTs Bii) (l:List (TCT (Baw))) (n i:Int):Bja.T:=((l,((),k),n,i,()),())
def Brf (i:Int):V2 Bi0:=⟨.ret,((i,()),())⟩
def Brg:V2 Bi0:=⟨.exit 0,((),())⟩
def Bjb (k:SKTs Bii) (l:List (TCT (Baw))) (n:Int) (x:TCT (Baw)) (i:Int):Tree (Bja.T⊕V2 Bi0):=bif Bdz k x then .leaf (.inr (Brf i)) else .leaf (.inl (C0z k l n (W64 (i+1))))
def Ch3 (k:SKTs Bii) (l:List (TCT (Baw))) (n i:Int):Tree (Bja.T⊕V2 Bi0) :=
 bif decide (i<n) then bif decide (0≤i∧i<(l.length:Int)) then Bjb k l n (Bas l i.toNat (Bap (Baw))) i else .fail else .leaf (.inr Brg)
def Bpc (g:Bja.T):Tree (V2 Bi0) :=
 .br (Bir g.1.2.2.1 g.1.2.2.2.1 g.1.1) (.br (g.1.1.any (Bdz g.1.2.1.2)) (.leaf (Brf (g.1.1.findIdx (Bdz g.1.2.1.2)))) (.leaf Brg)) .fail
theorem Coz:Bb0 Tryz.prog 133 C0y (Baz Bja Bi0 Bpc):=by
 refine Be7 (X:=ctx Tryz.prog plCl []) (Baq Bao puCl V1) 7 133 (fun _=>none) (fun _ _ f h=>by simp at h) Bja Bi0 (fun e=>by cases e <;> exact Nat.le_refl _) Bpc (fun g=>Ch3 g.1.2.1.2 g.1.1 g.1.2.2.1 g.1.2.2.2.1) (fun g=>by kernel_rfl) ?_
 rintro ⟨⟨l,⟨⟨⟩,k⟩,n,i,⟨⟩⟩,⟨⟩⟩ R hw hf
 obtain ⟨hf,h0⟩:=hf
 by_cases hc:n=(l.length:Int)∧i=0
 ·obtain ⟨rfl,rfl⟩:=hc
  have hf:=hf (decide_eq_true ⟨rfl,rfl⟩)
  refine Cnx l (Bap (Baw)) (Bex hw.1.1) (fun n i _=>C0z k l n i) (fun x i (_:Unit)=>bif Bdz k x then .inr (Brf i) else .inl ()) (fun _=>Brg) (fun _=>True) (fun x i _=>Bjb k l l.length x i) (fun i _=>rfl) ?_ () trivial ?_
  ·intro i _ hi Q _ _ hw1 hQ
   show (Bjb k l l.length l[i] i).sat Q
   unfold Bjb
   rw [hw1]
   cases hp:Bdz k l[i] with
   | true=>rw [hp] at hQ;exact hQ
   | false=>rw [hp] at hQ;exact hQ trivial
  ·rw [Bm5 (Bdz k) (fun i=>Brf i) Brg l 0,Nat.zero_add]
   cases ha:l.any (Bdz k) with
   | true=>exact hf.1 ha
   | false=>exact hf.2 ha
 ·exact (h0 (decide_eq_false hc)).elim
abbrev Cp0:PureT:=Bid [.d (.sl (Baw)),.f 94 [] Bii] [cI] (fun _=>true) (fun x=>(bif x.1.any (Bdz x.2.1.2) then (x.1.findIdx (Bdz x.2.1.2):Int) else -1,()))
noncomputable def Cp1:Ctx:=Bh4 Tryz.prog plCl [(133,Tryz.f133)] [((133,keyOf C0y),Baz Bja Bi0 Bpc)]
theorem C5c:CtxOk Cp1:=Bca Bao puCl (fns_cons is_ixMot V1) (Bbv rfl (by kernel_rfl) Coz)
def C8t (k:SKTs Bii) (l:List (TCT (Baw))):Tree (Int×Unit):=bif Bir (l.length:Int) 0 l then bif l.any (Bdz k) then .leaf ((l.findIdx (Bdz k):Int),()) else .leaf (-1,()) else .fail
theorem C5d (k:SKTs Bii) (l:List (TCT (Baw))):(C8t k l).sat (fun y=>y=(bif l.any (Bdz k) then (l.findIdx (Bdz k):Int) else -1,())):=by
 refine Bld (decide_eq_true ⟨rfl,rfl⟩) ?_
 cases l.any (Bdz k) <;> exact rfl
theorem Cp2:Bai Tryz.prog 133 Cp0:=Bml C5c 8 (fun x=>C8t x.2.1.2 x.1) (fun x=>by kernel_rfl) fun x _ _=>C5d _ _
abbrev C8u:PureT:=Bid [.d (.sl (Baw)),.f 94 [] Bii] [.b] (fun _=>true) (fun x=>(x.1.any (Bdz x.2.1.2),()))
theorem C5e (k:SKTs Bii) (l:List (TCT (Baw))):(Tree.leaf (decide ((bif l.any (Bdz k) then (l.findIdx (Bdz k):Int) else -1)≥0),()):Tree (Bool×Unit)).sat (fun y=>y=(l.any (Bdz k),())):=by
 rw [Bp6];exact rfl
theorem Cp3:Bai Tryz.prog 93 C8u:=Bml (Baq Bao (puOk_cons is_ixMot.plain Cp2 puOk_nil) (fns_cons is_cfMot V1)) 8 (fun x=>.leaf (decide ((bif x.1.any (Bdz x.2.1.2) then (x.1.findIdx (Bdz x.2.1.2):Int) else -1)≥0),())) (fun x=>by kernel_rfl) fun x _ _=>C5e _ _
end St
end V
end Go.Proofs.YtcfanlgpkefogaaGreat
namespace Go.Proofs.YtcfanlgpkefogaaGreat
open Go.RowKit
namespace V
namespace St
theorem is_lposts:FnIs Tryz.prog (74,Tryz.f74):=⟨Tryz.func74,by kernel_rfl,by kernel_rfl⟩
theorem is_lwires:FnIs Tryz.prog (114,Tryz.f114):=⟨Tryz.func114,by kernel_rfl,by kernel_rfl⟩
theorem is_turned:FnIs Tryz.prog (84,Tryz.f84):=⟨Tryz.func84,by kernel_rfl,by kernel_rfl⟩
abbrev kLw:List SK:=[.d .s,.d cI,.d cI,.d cI,.d (.sl Bbm),.d cI,.d cI,.d cI,.d cI,.d cI,.d (.sl Bc1)]
def Bk9 (x:SKTs kLw):TCT Bal:=(x.1,x.2.1,x.2.2.1,x.2.2.2.1,x.2.2.2.2.1,((x.2.2.2.2.2.1,x.2.2.2.2.2.2.1,()),x.2.2.2.2.2.2.2.1,()),x.2.2.2.2.2.2.2.2.1,x.2.2.2.2.2.2.2.2.2.1,x.2.2.2.2.2.2.2.2.2.2.1,())
def Bd2 (l:TCT Bal):SKTs kLw:=(l.1,l.2.1,l.2.2.1,l.2.2.2.1,l.2.2.2.2.1,l.2.2.2.2.2.1.1.1,l.2.2.2.2.2.1.1.2.1,l.2.2.2.2.2.1.2.1,l.2.2.2.2.2.2.1,l.2.2.2.2.2.2.2.1,l.2.2.2.2.2.2.2.2.1,())
def Bay (l:TCT Bal):List (TCT Bbm):=l.2.2.2.2.1
def Bis (l:TCT Bal):TCT Bag:=l.2.2.2.2.2.1
def dW (h:TCT Bbm):Int:=W64 (W64 (Int.tdiv h.2.2.1 2)+h.2.2.2.1)
def Bm8 (x y r:Int):TCT Bag:=((x,y,()),r,())
def w2 (h:TCT Bbm):List (TCT Bag):=bif h.2.2.2.2.1 then [Bm8 h.1 (W64 (h.2.1-dW h)) h.2.2.2.1,Bm8 h.1 (W64 (h.2.1+dW h)) h.2.2.2.1] else [Bm8 (W64 (h.1-dW h)) h.2.1 h.2.2.2.1,Bm8 (W64 (h.1+dW h)) h.2.1 h.2.2.2.1]
def Bbn (l:TCT Bal):List (TCT Bag):=(Bay l).flatMap w2++[Bis l]
noncomputable def D21:Code:=(Ban (bodyOf Tryz.f74)).getD 0 .skip
def Bvj:Lay:={ keys:=[1,2,7,8,9],ks:=[.p 0 0 0 0,.o 33 Bag,.d (.sl Bbm),.d cI,.d cI],bs:=[(0,36,kLw)],n:=24,nx:=1000,marks:=[] }
def D22:Lay:={ keys:=[1,2],ks:=[.p 0 0 0 0,.o 33 Bag],bs:=[(0,36,kLw)],n:=24,nx:=1000,marks:=[] }
def By8:XE→Lay:=fun _=>D22
def Ch4 (x:SKTs kLw) (hs:List (TCT Bbm)) (n:Int) (i:Int) (o:List (TCT Bag)):Bvj.T:=(((),o,hs,n,i,()),(x,()))
def Bwh (x:SKTs kLw) (o:List (TCT Bag)):V2 By8:=⟨.exit 0,(((),o,()),(x,()))⟩
def C5f (x:SKTs kLw) (hs:List (TCT Bbm)) (n i:Int) (o w:List (TCT Bag)):Tree (Bvj.T⊕V2 By8):=bif Bd9 o w 24 then .leaf (.inl (Ch4 x hs n (W64 (i+1)) (o++w))) else .fail
def By9 (x:SKTs kLw) (hs:List (TCT Bbm)) (n i:Int) (o:List (TCT Bag)) (h:TCT Bbm):Tree (Bvj.T⊕V2 By8) :=
 bif h.2.2.2.2.1 then C5f x hs n i o [Bm8 (W64 (h.1-0)) (W64 (h.2.1-dW h)) h.2.2.2.1,Bm8 (W64 (h.1+0)) (W64 (h.2.1+dW h)) h.2.2.2.1]
 else C5f x hs n i o [Bm8 (W64 (h.1-dW h)) (W64 (h.2.1-0)) h.2.2.2.1,Bm8 (W64 (h.1+dW h)) (W64 (h.2.1+0)) h.2.2.2.1]
def C11 (g:Bvj.T):Tree (Bvj.T⊕V2 By8) :=
 bif decide (g.1.2.2.2.2.1<g.1.2.2.2.1) then bif decide (0≤g.1.2.2.2.2.1∧g.1.2.2.2.2.1<((g.1.2.2.1:List (TCT Bbm)).length:Int)) then By9 g.2.1 g.1.2.2.1 g.1.2.2.2.1 g.1.2.2.2.2.1 g.1.2.1 (Bas g.1.2.2.1 (Int.toNat g.1.2.2.2.2.1) (Bap Bbm)) else .fail else .leaf (.inr (Bwh g.2.1 g.1.2.1))
def Ch5 (g:Bvj.T):Nat:=(g.1.2.2.1:List (TCT Bbm)).length+1
noncomputable def D23:Ctx:=ctx Tryz.prog [] [(114,Tryz.f114),(84,Tryz.f84)]
theorem Ch6:CtxOk D23:=Baq Bao puOk_nil (fns_cons is_lwires (fns_cons is_turned V1))
theorem D5s:Bb0 Tryz.prog 74 D21 (Baz Bvj By8 (Bdg [.exit 0] C11 Ch5)):=Bbl Ch6 7 _ Bvj By8 (fun _=>Nat.le_refl _) [.exit 0] C11 Ch5 (fun g=>by kernel_rfl)
noncomputable def D5t:Ctx:=Bh4 Tryz.prog [] [(74,Tryz.f74)] [((74,2),Baz Bvj By8 (Bdg [.exit 0] C11 Ch5))]
theorem Cp4:CtxOk D5t:=Bca Bao puOk_nil (fns_cons is_lposts V1) (Bbv (by kernel_rfl) (by kernel_rfl) D5s)
def Cp5 (l:TCT Bal):Option (V2 By8):=iter C11 ((Bay l).length+1) (Ch4 (Bd2 l) (Bay l) (Bay l).length 0 [])
abbrev TPo:=Tree (TCTs [.sl Bag])
def C5g (r:D22.T):TPo:=bif Bd9 r.1.2.1 [Bis (Bk9 r.2.1)] 24 then .leaf (r.1.2.1++[Bis (Bk9 r.2.1)],()) else .fail
def Cxf (l:TCT Bal):TPo:=bif isE (.exit 0) (Cp5 l) then C5g (Bcg (.exit 0) (Cp5 l)) else .fail
abbrev Bjc:PureT:=Bbe [Bal] [.sl Bag] (fun x=>decide ((Bay x.1).length≤1000)) (fun x=>(Bbn x.1,()))
theorem Bpd {α β E:Type} (w:α→List β) (ex:List β→E):∀ (l:List α) (i:Nat) (s:List β),Bqb (fun _ x s=>some (.inl (s++w x))) (fun s=>some (ex s)) i l s=some (ex (s++l.flatMap w))
 | [],_,s=>by simp [Bqb]
 | x::l,i,s=>by simp only [Bqb];rw [Bpd w ex l (i+1)];simp [List.append_assoc]
theorem C5h (h:TCT Bbm):(w2 h).length=2:=by unfold w2;cases h.2.2.2.2.1 <;> rfl
theorem Bnt (l:List (TCT Bbm)):(l.flatMap w2).length=2*l.length:=by
 induction l with
 | nil=>rfl
 | cons h l ih =>
  have e:((h::l).flatMap w2).length=(w2 h).length+(l.flatMap w2).length:=by rw [List.flatMap_cons,List.length_append]
  rw [e,ih,C5h,List.length_cons];omega
theorem Bwi {o w:List (TCT Bag)} (h:o.length+w.length≤4000):Bd9 o w 24=true:=by
 rw [Be2];exact decide_eq_true (by omega)
theorem Cxg {h:TCT Bbm} (hw:WFD Bbm h):W64 (h.1-0)=h.1∧W64 (h.1+0)=h.1∧W64 (h.2.1-0)=h.2.1∧W64 (h.2.1+0)=h.2.1:=by
 obtain ⟨x,y,g,w,a,⟨⟩⟩:=h
 obtain ⟨h1,h2,_⟩:=hw
 have h1 : -9223372036854775808≤x∧x≤9223372036854775807:=h1
 have h2 : -9223372036854775808≤y∧y≤9223372036854775807:=h2
 exact ⟨by rw [Int.sub_zero];exact Bbc h1.1 h1.2,by rw [Int.add_zero];exact Bbc h1.1 h1.2,by rw [Int.sub_zero];exact Bbc h2.1 h2.2,by rw [Int.add_zero];exact Bbc h2.1 h2.2⟩
theorem Cp6 {l:TCT Bal} (hw:∀ h ∈ Bay l,WFD Bbm h) (hl:(Bay l).length≤1000):Cp5 l=some (Bwh (Bd2 l) ((Bay l).flatMap w2)):=by
 unfold Cp5
 have key:=Bec (st:=C11) (Bay l) (fun i o=>Ch4 (Bd2 l) (Bay l) (Bay l).length (i:Int) o) (fun _ h o=>some (.inl (o++w2 h))) (fun o=>some (Bwh (Bd2 l) o)) (fun i o=>o.length=2*i)
  (fun i o hi hI=>by
   simp only
   refine ⟨?_,by rw [List.length_append,hI,C5h];omega⟩
   show (bif decide ((i:Int)<((Bay l).length:Int)) then bif decide (0≤(i:Int)∧(i:Int)<((Bay l).length:Int)) then By9 (Bd2 l) (Bay l) (Bay l).length (i:Int) o (Bas (Bay l) (Int.toNat (i:Int)) (Bap Bbm)) else .fail else .leaf (.inr (Bwh (Bd2 l) o))).run=_
   rw [decide_eq_true (show (i:Int)<((Bay l).length:Int) by omega),decide_eq_true (show 0≤(i:Int)∧(i:Int)<((Bay l).length:Int) by omega),show Int.toNat (i:Int)=i by omega,Bdc hi]
   obtain ⟨e1,e2,e3,e4⟩:=Cxg (hw _ (List.getElem_mem hi))
   simp only [cond_true]
   unfold By9 w2 C5f
   rw [e1,e2,e3,e4,Bbc (n:=(i:Int)+1) (by omega) (by omega)]
   cases (Bay l)[i].2.2.2.2.1 with
   | true =>
    simp only [cond_true]
    rw [Bwi (by simp only [List.length_cons,List.length_nil,hI];omega)]
    rfl
   | false =>
    simp only [cond_false]
    rw [Bwi (by simp only [List.length_cons,List.length_nil,hI];omega)]
    rfl)
  (fun o e hI he=>by
   cases he
   show (bif decide (((Bay l).length:Int)<((Bay l).length:Int)) then _ else Tree.leaf (Sum.inr (Bwh (Bd2 l) o)):Tree (Bvj.T⊕V2 By8)).run=_
   rw [decide_eq_false (show ¬ ((Bay l).length:Int)<((Bay l).length:Int) by omega)]
   rfl)
  (Bay l).length 0 [] (Bwh (Bd2 l) ((Bay l).flatMap w2)) ((Bay l).length+1) (by omega) (by omega) rfl (by rw [List.drop_zero,Bpd,List.nil_append])
 exact key
theorem Bya:Bai Tryz.prog 74 Bjc:=Bbg Cp4 7 (fun x=>Cxf x.1) (fun x=>by kernel_rfl) fun x hok hw=>by
 have hl:(Bay x.1).length≤1000:=of_decide_eq_true hok
 show (Cxf x.1).sat _
 unfold Cxf
 rw [Cp6 (Cun hw.1.2.2.2.2.1) hl]
 show (C5g (((),(Bay x.1).flatMap w2,()),(Bd2 x.1,()))).sat _
 unfold C5g
 simp only
 rw [Bwi (by rw [Bnt];simp only [List.length_cons,List.length_nil];omega)]
 exact rfl
end St
end V
end Go.Proofs.YtcfanlgpkefogaaGreat
namespace Go.Proofs.YtcfanlgpkefogaaGreat
open Go.RowKit
namespace V
namespace St
def Bvk:Lay:={ keys:=[1,3,4],ks:=[.p 0 0 0 0,.o 33 Bag,.d cI],bs:=[(0,36,kLw)],n:=73,nx:=1000,marks:=[] }
def D25:Lay:={ keys:=[1,3],ks:=[.p 0 0 0 0,.o 33 Bag],bs:=[(0,36,kLw)],n:=73,nx:=1000,marks:=[] }
def Byb:XE→Lay:=fun _=>D25
def Ch7 (x:SKTs kLw) (i:Int) (o:List (TCT Bag)):Bvk.T:=(((),o,i,()),(x,()))
def Bwj (x:SKTs kLw) (o:List (TCT Bag)):V2 Byb:=⟨.exit 0,(((),o,()),(x,()))⟩
def C5i (x:SKTs kLw) (i:Int) (o w:List (TCT Bag)):Tree (Bvk.T⊕V2 Byb):=bif Bd9 o w 24 then .leaf (.inl (Ch7 x (W64 (i+1)) (o++w))) else .fail
def Byc (x:SKTs kLw) (i:Int) (o:List (TCT Bag)) (h:TCT Bbm):Tree (Bvk.T⊕V2 Byb) :=
 bif h.2.2.2.2.1 then C5i x i o [Bm8 h.1 (W64 (h.2.1-dW h)) h.2.2.2.1,Bm8 h.1 (W64 (h.2.1+dW h)) h.2.2.2.1]
 else C5i x i o [Bm8 (W64 (h.1-dW h)) h.2.1 h.2.2.2.1,Bm8 (W64 (h.1+dW h)) h.2.1 h.2.2.2.1]
def C12 (g:Bvk.T):Tree (Bvk.T⊕V2 Byb) :=
 bif decide (g.1.2.2.1<((g.2.1.2.2.2.2.1:List (TCT Bbm)).length:Int)) then bif decide (0≤g.1.2.2.1∧g.1.2.2.1<((g.2.1.2.2.2.2.1:List (TCT Bbm)).length:Int)) then Byc g.2.1 g.1.2.2.1 g.1.2.1 (Bas g.2.1.2.2.2.2.1 (Int.toNat g.1.2.2.1) (Bap Bbm)) else .fail else .leaf (.inr (Bwj g.2.1 g.1.2.1))
def Ch8 (g:Bvk.T):Nat:=(g.2.1.2.2.2.2.1:List (TCT Bbm)).length+1
noncomputable def D26:Ctx:=ctx Tryz.prog [] []
theorem Ch9:CtxOk D26:=Baq Bao puOk_nil V1
def Cp8 (l:TCT Bal):Option (V2 Byb):=iter C12 ((Bay l).length+1) (Ch7 (Bd2 l) 0 [])
def C5j (r:D25.T):TPo:=bif Bd9 r.1.2.1 [Bis (Bk9 r.2.1)] 24 then .leaf (r.1.2.1++[Bis (Bk9 r.2.1)],()) else .fail
def Cxh (l:TCT Bal):TPo:=bif isE (.exit 0) (Cp8 l) then C5j (Bcg (.exit 0) (Cp8 l)) else .fail
theorem Cp9 {l:TCT Bal} (hl:(Bay l).length≤1000):Cp8 l=some (Bwj (Bd2 l) ((Bay l).flatMap w2)):=by
 unfold Cp8
 have key:=Bec (st:=C12) (Bay l) (fun i o=>Ch7 (Bd2 l) (i:Int) o) (fun _ h o=>some (.inl (o++w2 h))) (fun o=>some (Bwj (Bd2 l) o)) (fun i o=>o.length=2*i)
  (fun i o hi hI=>by
   simp only
   refine ⟨?_,by rw [List.length_append,hI,C5h];omega⟩
   show (bif decide ((i:Int)<((Bay l).length:Int)) then bif decide (0≤(i:Int)∧(i:Int)<((Bay l).length:Int)) then Byc (Bd2 l) (i:Int) o (Bas (Bay l) (Int.toNat (i:Int)) (Bap Bbm)) else .fail else .leaf (.inr (Bwj (Bd2 l) o))).run=_
   rw [decide_eq_true (show (i:Int)<((Bay l).length:Int) by omega),decide_eq_true (show 0≤(i:Int)∧(i:Int)<((Bay l).length:Int) by omega),show Int.toNat (i:Int)=i by omega,Bdc hi]
   simp only [cond_true]
   unfold Byc w2 C5i
   rw [Bbc (n:=(i:Int)+1) (by omega) (by omega)]
   cases (Bay l)[i].2.2.2.2.1 with
   | true =>
    simp only [cond_true]
    rw [Bwi (by simp only [List.length_cons,List.length_nil,hI];omega)]
    rfl
   | false =>
    simp only [cond_false]
    rw [Bwi (by simp only [List.length_cons,List.length_nil,hI];omega)]
    rfl)
  (fun o e hI he=>by
   cases he
   show (bif decide (((Bay l).length:Int)<((Bay l).length:Int)) then _ else Tree.leaf (Sum.inr (Bwj (Bd2 l) o)):Tree (Bvk.T⊕V2 Byb)).run=_
   rw [decide_eq_false (show ¬ ((Bay l).length:Int)<((Bay l).length:Int) by omega)]
   rfl)
  (Bay l).length 0 [] (Bwj (Bd2 l) ((Bay l).flatMap w2)) ((Bay l).length+1) (by omega) (by omega) rfl (by rw [List.drop_zero,Bpd,List.nil_append])
 exact key
end St
end V
end Go.Proofs.YtcfanlgpkefogaaGreat
namespace Go.Proofs.YtcfanlgpkefogaaGreat
open Go.RowKit
namespace V
namespace St
theorem is_vname:FnIs Tryz.prog (115,Tryz.f115):=⟨Tryz.func115,by kernel_rfl,by kernel_rfl⟩
theorem is_vname1:FnIs Tryz.prog (147,Tryz.f147):=⟨Tryz.func147,by kernel_rfl,by kernel_rfl⟩
theorem is_sCont:FnIs Tryz.prog (146,Tryz.f146):=⟨Tryz.func146,by kernel_rfl,by kernel_rfl⟩
theorem is_sIdx:FnIs Tryz.prog (165,Tryz.f165):=⟨Tryz.func165,by kernel_rfl,by kernel_rfl⟩
theorem is_sidx:FnIs Tryz.prog (170,Tryz.f170):=⟨Tryz.func170,by kernel_rfl,by kernel_rfl⟩
def C15 (r:Int):Bool:=(decide (r<97)||decide (r>122))&&(decide (r<48)||decide (r>57))
def Cha (r:Int):TBo:=bif decide (r<97) then bif decide (r<48) then .leaf (true,()) else .leaf (decide (r>57),()) else bif decide (r>122) then bif decide (r<48) then .leaf (true,()) else .leaf (decide (r>57),()) else .leaf (false,())
abbrev Chb:PureT:=Bbe [.i .i32] [.b] (fun _=>true) (fun x=>(C15 x.1,()))
theorem Chc (r:Int):(Cha r).sat (fun y=>y=(C15 r,())):=by
 unfold Cha C15
 cases decide (r<97) <;> cases decide (r>122) <;> cases decide (r<48) <;> exact rfl
theorem Chd:Bai Tryz.prog 147 Chb:=Bbg (Baq Bao puOk_nil (fns_cons is_vname1 V1)) 3 (fun x=>Cha x.1) (fun x=>by kernel_rfl) fun x _ _=>Chc x.1
def plNm:List (Nat×PureT):=[(147,Chb)]
theorem puNm:Bc7 Tryz.prog plNm:=puOk_cons is_vname1.plain Chd puOk_nil
def nmT (t:ByteArray):Nat→Nat→TBo
 | 0,_=>.fail
 | n+1,pos=>bif Nat.ble (pos+1) t.size then
   bif Bft .i64 (pos:Int)&&Bft .i32 ((Utf8.decode t pos).1:Int) then
    bif C15 ((Utf8.decode t pos).1:Int)==true then .leaf (!decide ((pos:Int)≥0),()) else nmT t n (pos+(Utf8.decode t pos).2)
   else .fail
  else .leaf (!decide ((-1:Int)≥0),())
def Byd (t:ByteArray):TBo:=bif Bft .i64 (t.size:Int) then bif decide ((t.size:Int)≥1) then bif Bft .i64 (t.size:Int) then bif decide ((t.size:Int)≤20) then nmT t 21 0 else .leaf (false,()) else .fail else .leaf (false,()) else .fail
noncomputable def D27:Ctx:=Cez 21 Tryz.prog plNm [(115,Tryz.f115),(146,Tryz.f146),(165,Tryz.f165),(170,Tryz.f170)]
theorem Cpa:CtxOk D27:=Bp7 Bao puNm (fns_cons is_vname (fns_cons is_sCont (fns_cons is_sIdx (fns_cons is_sidx V1))))
theorem Ccp (t:ByteArray):Bcx D27 12 (.fn 115) [.val (.string t)] Bbx 0 (Bgt Tryz.prog [.b])=Byd t:=by kernel_rfl
end St
end V
end Go.Proofs.YtcfanlgpkefogaaGreat
namespace Go.Proofs.YtcfanlgpkefogaaGreat
open Go.RowKit
namespace V
namespace St
def Bcm (t:ByteArray):List UInt8:=t.data.toList
def Bpe (b:UInt8):Bool:=C15 ((b.toNat:Nat):Int)
def Bhh (t:ByteArray):Bool:=decide (1≤t.size∧t.size≤20)&&!(Bcm t).any Bpe
theorem Blj (t:ByteArray):(Bcm t).length=t.size:=Array.length_toList
theorem Ccq {n:Int} (h:0≤n) (h2:n≤9223372036854775807):Bft .i64 n=true:=by
 unfold Bft
 rw [decide_eq_true (show Bgg .i64≤n by simp only [Bgg];omega),decide_eq_true (show n≤Bb4 .i64 by simp only [Bb4];omega)];rfl
theorem D28 {n:Int} (h:0≤n) (h2:n≤2147483647):Bft .i32 n=true:=by
 unfold Bft
 rw [decide_eq_true (show Bgg .i32≤n by simp only [Bgg];omega),decide_eq_true (show n≤Bb4 .i32 by simp only [Bb4];omega)];rfl
theorem Cxi {t:ByteArray} {i:Nat} (h:i<t.size):t.get! i=(Bcm t)[i]'(by rw [Blj];exact h):=by
 have h':i<t.data.size:=h
 show t.data[i]! = _
 rw [getElem!_pos t.data i h']
 simp [Bcm]
theorem Cxj {t:ByteArray} {i:Nat} (h:(t.get! i).toNat<128):Utf8.decode t i=((t.get! i).toNat,1):=by
 unfold Utf8.decode
 simp only [Nat.add_zero]
 rw [if_pos h]
theorem Cxk {t:ByteArray} {i:Nat} (h:¬ (t.get! i).toNat<128):128≤(Utf8.decode t i).1∧(Utf8.decode t i).1≤2100000:=by
 have hb:(t.get! i).toNat<256:=(t.get! i).toNat_lt
 unfold Utf8.decode
 simp only [Nat.add_zero]
 rw [if_neg h]
 have m1:=Nat.mod_lt (t.get! (i+1)).toNat (show 0<64 by omega)
 have m2:=Nat.mod_lt (t.get! (i+2)).toNat (show 0<64 by omega)
 have m3:=Nat.mod_lt (t.get! (i+3)).toNat (show 0<64 by omega)
 have r:128≤Utf8.runeError∧Utf8.runeError≤2100000:=by decide
 split
 ·split
  ·rename_i hc
   simp only
   omega
  ·exact r
 ·split
  ·split
   ·rename_i hc
    simp only [ge_iff_le,Bool.and_eq_true,decide_eq_true_eq] at hc
    simp only
    omega
   ·exact r
  ·split
   ·split
    ·rename_i hc
     simp only [ge_iff_le,Bool.and_eq_true,decide_eq_true_eq] at hc
     simp only
     omega
    ·exact r
   ·exact r
theorem Che {r:Nat} (h:128≤r):C15 (r:Int)=true:=by
 unfold C15
 rw [decide_eq_true (show (r:Int)>122 by omega),decide_eq_true (show (r:Int)>57 by omega)]
 simp
theorem Chf {t:ByteArray} (hs:t.size≤20):∀ (n pos:Nat),pos≤t.size→t.size-pos<n→nmT t n pos=.leaf (!((Bcm t).drop pos).any Bpe,())
 | 0,_,_,h=>absurd h (Nat.not_lt_zero _)
 | n+1,pos,hp,hn=>by
  unfold nmT
  by_cases hlt:pos<t.size
  ·have hb:Nat.ble (pos+1) t.size=true:=by rw [Nat.ble_eq];omega
   have hd:(Bcm t).drop pos=(Bcm t)[pos]'(by rw [Blj];exact hlt)::(Bcm t).drop (pos+1):=List.drop_eq_getElem_cons _
   rw [hb,cond_true,hd,List.any_cons,← Cxi hlt]
   by_cases h8:(t.get! pos).toNat<128
   ·rw [Cxj h8]
    simp only
    have hk:(Bft .i64 (pos:Int)&&Bft .i32 (((t.get! pos).toNat:Nat):Int))=true:=by
     rw [Ccq (by omega) (by omega),D28 (by omega) (by omega)];rfl
    rw [hk,cond_true]
    show (bif Bpe (t.get! pos)==true then _ else _:TBo)=_
    cases hbd:Bpe (t.get! pos) with
    | true =>
     rw [decide_eq_true (show (pos:Int)≥0 by omega)]
     rfl
    | false =>
     show nmT t n (pos+1)=_
     rw [Chf hs n (pos+1) (by omega) (by omega),Bool.false_or]
   ·obtain ⟨h1,h2⟩:=Cxk h8
    have hk:(Bft .i64 (pos:Int)&&Bft .i32 (((Utf8.decode t pos).1:Nat):Int))=true:=by
     rw [Ccq (by omega) (by omega),D28 (by omega) (by omega)];rfl
    have hbu:Bpe (t.get! pos)=true:=Che (by omega)
    rw [hk,cond_true,Che h1,hbu,decide_eq_true (show (pos:Int)≥0 by omega)]
    rfl
  ·have hb:Nat.ble (pos+1) t.size=false:=by
    cases h:Nat.ble (pos+1) t.size with
    | false=>rfl
    | true=>rw [Nat.ble_eq] at h;omega
   rw [hb,cond_false,List.drop_eq_nil_of_le (by rw [Blj];omega)]
   rfl
theorem Ccr {t:ByteArray} (h64:(t.size:Int)≤Bb4 .i64):(Byd t).sat (fun y=>y=(Bhh t,())):=by
 unfold Byd Bhh
 have hk:Bft .i64 (t.size:Int)=true:=Ccq (by omega) (by simp only [Bb4] at h64;exact h64)
 rw [hk]
 simp only [cond_true]
 by_cases h1:1≤t.size
 ·rw [decide_eq_true (show (t.size:Int)≥1 by omega)]
  by_cases h2:t.size≤20
  ·rw [decide_eq_true (show (t.size:Int)≤20 by omega),decide_eq_true (show 1≤t.size∧t.size≤20 from ⟨h1,h2⟩),cond_true,cond_true,Chf h2 21 0 (by omega) (by omega)]
   exact rfl
  ·rw [decide_eq_false (show ¬ (t.size:Int)≤20 by omega),decide_eq_false (show ¬ (1≤t.size∧t.size≤20) from fun h=>h2 h.2)]
   exact rfl
 ·rw [decide_eq_false (show ¬ (t.size:Int)≥1 by omega),decide_eq_false (show ¬ (1≤t.size∧t.size≤20) from fun h=>h1 h.1)]
  exact rfl
end St
end V
end Go.Proofs.YtcfanlgpkefogaaGreat
namespace Go.Proofs.YtcfanlgpkefogaaGreat
open Go.RowKit
namespace V
namespace St
abbrev Bye:PureT:=Bbe [.s] [.b] (fun x=>decide ((x.1.size:Int)≤Bb4 .i64)) (fun x=>(Bhh x.1,()))
theorem Cpb:Bai Tryz.prog 115 Bye:=Bbg Cpa 12 (fun x=>Byd x.1) (fun x=>Ccp x.1) fun x hok _=>Ccr (of_decide_eq_true hok)
def C5k:Lay:={ keys:=[0,3],ks:=[.d .s,.d cI],bs:=[],n:=41,nx:=1000,marks:=[] }
def D5w:Lay:={ keys:=[],ks:=[],bs:=[],n:=41,nx:=1000,marks:=[] }
def D2a:Lay:={ keys:=[2],ks:=[.d .b],bs:=[],n:=41,nx:=1000,marks:=[] }
def C5l:XE→Lay:=fun e=>match e with | .ret=>D2a | _=>D5w
def Bwk (t:ByteArray) (i:Int):C5k.T:=((t,i,()),())
def Bs6:V2 C5l:=⟨.ret,((false,()),())⟩
def C16:V2 C5l:=⟨.exit 0,((),())⟩
abbrev TNm:=Tree (C5k.T⊕V2 C5l)
def byI (t:ByteArray) (i:Int):Int:=((((t.data.toList.getD (Int.toNat i) 0).toNat:Nat)):Int)
def inI (t:ByteArray) (i:Int) (k:TNm):TNm:=bif decide (0≤i∧i<(t.size:Int)) then k else .fail
def C5m (t:ByteArray) (i:Int):TNm:=inI t i (bif decide (byI t i≥48) then inI t i (bif !decide (byI t i≤57) then .leaf (.inr Bs6) else .leaf (.inl (Bwk t (W64 (i+1))))) else .leaf (.inr Bs6))
def Bs7 (t:ByteArray) (i:Int):TNm :=
 bif Bft .i64 (t.size:Int) then bif decide (i<(t.size:Int)) then
  inI t i (bif decide (byI t i≥97) then inI t i (bif decide (byI t i≤122) then .leaf (.inl (Bwk t (W64 (i+1)))) else C5m t i) else C5m t i)
 else .leaf (.inr C16) else .fail
def Bwl (g:C5k.T):TNm:=Bs7 g.1.1 g.1.2.1
def Chg (g:C5k.T):Nat:=(Bcm g.1.1).length+1
noncomputable def D2b:Ctx:=ctx Tryz.prog [] []
theorem Chh:CtxOk D2b:=Baq Bao puOk_nil V1
def Chi (t:ByteArray):Option (V2 C5l):=iter Bwl ((Bcm t).length+1) (Bwk t 0)
def Cxl (t:ByteArray):TBo:=bif Bft .i64 (t.size:Int) then bif decide ((t.size:Int)<1) then .leaf (false,()) else bif Bft .i64 (t.size:Int) then bif decide ((t.size:Int)>20) then .leaf (false,()) else
 bif isE .ret (Chi t) then .leaf ((Bcg .ret (Chi t)).1.1,()) else bif isE (.exit 0) (Chi t) then .leaf (true,()) else .fail else .fail else .fail
theorem Cxm {t:ByteArray} {i:Nat} (h:i<(Bcm t).length):byI t (i:Int)=((((Bcm t)[i]).toNat:Nat):Int):=by
 unfold byI
 rw [show Int.toNat (i:Int)=i by omega]
 show ((((Bcm t).getD i 0).toNat:Nat):Int)=_
 rw [List.getD_eq_getElem?_getD,List.getElem?_eq_getElem h]
 rfl
theorem Cpd {t:ByteArray} (h64:(t.size:Int)≤Bb4 .i64):Chi t=some (bif (Bcm t).any Bpe then Bs6 else C16):=by
 have h64':(t.size:Int)≤9223372036854775807:=h64
 have hlen:=Blj t
 unfold Chi
 have key:=Bec (st:=Bwl) (Bcm t) (fun i (_:Unit)=>Bwk t (i:Int)) (fun _ b _=>bif Bpe b then some (.inr Bs6) else some (.inl ())) (fun _=>some C16) (fun _ _=>True)
  (fun i s hi _=>by
   have hI:decide (0≤(i:Int)∧(i:Int)<(t.size:Int))=true:=decide_eq_true (by omega)
   have hrun:(Bwl (Bwk t (i:Int))).run=some (bif Bpe (Bcm t)[i] then .inr Bs6 else .inl (Bwk t ((i+1:Nat):Int))):=by
    show (Bs7 t (i:Int)).run=_
    unfold Bs7 C5m inI Bpe C15
    rw [Ccq (by omega) h64',decide_eq_true (show (i:Int)<(t.size:Int) by omega),hI,Cxm hi,Bbc (n:=(i:Int)+1) (by omega) (by omega)]
    generalize ((((Bcm t)[i]).toNat:Nat):Int)=b
    by_cases h1:b<97
    ·rw [decide_eq_true h1,decide_eq_false (show ¬ b≥97 by omega)]
     by_cases h2:b<48
     ·rw [decide_eq_true h2,decide_eq_false (show ¬ b≥48 by omega)];simp;rfl
     ·rw [decide_eq_false h2,decide_eq_true (show b≥48 by omega)]
      by_cases h3:b>57
      ·rw [decide_eq_true h3,decide_eq_false (show ¬ b≤57 by omega)];simp;rfl
      ·rw [decide_eq_false h3,decide_eq_true (show b≤57 by omega)];simp;rfl
    ·rw [decide_eq_false h1,decide_eq_true (show b≥97 by omega)]
     by_cases h2:b>122
     ·rw [decide_eq_true h2,decide_eq_false (show ¬ b≤122 by omega),decide_eq_false (show ¬ b<48 by omega),decide_eq_true (show b≥48 by omega),decide_eq_true (show b>57 by omega),decide_eq_false (show ¬ b≤57 by omega)];simp;rfl
     ·rw [decide_eq_false h2,decide_eq_true (show b≤122 by omega)];simp;rfl
   cases hb:Bpe (Bcm t)[i] with
   | true =>
    rw [hb] at hrun
    simp only [cond_true]
    exact hrun
   | false =>
    rw [hb] at hrun
    simp only [cond_false]
    exact ⟨hrun,trivial⟩)
  (fun s e _ he=>by
   cases he
   show (Bs7 t (((Bcm t).length:Nat):Int)).run=_
   unfold Bs7
   rw [Ccq (by omega) h64',decide_eq_false (show ¬ (((Bcm t).length:Nat):Int)<(t.size:Int) by omega)]
   rfl)
  (Bcm t).length 0 () (bif (Bcm t).any Bpe then Bs6 else C16) ((Bcm t).length+1) (by omega) (by omega) trivial (by rw [List.drop_zero];exact Bp8 Bpe (fun _=>Bs6) C16 _ 0)
 exact key
theorem Cpe {t:ByteArray} (h64:(t.size:Int)≤Bb4 .i64):(Cxl t).sat (fun y=>y=(Bhh t,())):=by
 unfold Cxl Bhh
 rw [Ccq (by omega) (show (t.size:Int)≤9223372036854775807 from h64),Cpd h64]
 simp only [cond_true]
 by_cases h1:1≤t.size
 ·rw [decide_eq_false (show ¬ (t.size:Int)<1 by omega)]
  by_cases h2:t.size≤20
  ·rw [decide_eq_false (show ¬ (t.size:Int)>20 by omega),decide_eq_true (show 1≤t.size∧t.size≤20 from ⟨h1,h2⟩)]
   cases (Bcm t).any Bpe <;> exact rfl
  ·rw [decide_eq_true (show (t.size:Int)>20 by omega),decide_eq_false (show ¬ (1≤t.size∧t.size≤20) from fun h=>h2 h.2)]
   exact rfl
 ·rw [decide_eq_true (show (t.size:Int)<1 by omega),decide_eq_false (show ¬ (1≤t.size∧t.size≤20) from fun h=>h1 h.1)]
  exact rfl
end St
end V
end Go.Proofs.YtcfanlgpkefogaaGreat
namespace Go.Proofs.YtcfanlgpkefogaaGreat
open Go.RowKit
namespace V
namespace St
theorem is_Touch:FnIs Tryz.prog (150,Tryz.f150):=⟨Tryz.func150,by kernel_rfl,by kernel_rfl⟩
theorem is_tCD:FnIs Tryz.prog (155,Tryz.f155):=⟨Tryz.func155,by kernel_rfl,by kernel_rfl⟩
theorem is_tsq:FnIs Tryz.prog (68,Tryz.f68):=⟨Tryz.func68,by kernel_rfl,by kernel_rfl⟩
theorem is_cmp64:FnIs Tryz.prog (142,Tryz.f142):=⟨Tryz.func142,by kernel_rfl,by kernel_rfl⟩
theorem is_nan64:FnIs Tryz.prog (161,Tryz.f161):=⟨Tryz.func161,by kernel_rfl,by kernel_rfl⟩
theorem is_lapart:FnIs Tryz.prog (122,Tryz.f122):=⟨Tryz.func122,by kernel_rfl,by kernel_rfl⟩
def Cpg (x y:Int):Int:=bif decide (x<y) then -1 else bif decide (x>y) then 1 else 0
def cdE (a:TCT Bag):Int:=Bte a.1.1 a.1.2.1 a.2.1
def sqD (a b:TCT Bag):Int:=W64 (W64 (W64 (b.1.1-a.1.1)*W64 (b.1.1-a.1.1))+W64 (W64 (b.1.2.1-a.1.2.1)*W64 (b.1.2.1-a.1.2.1)))
def srD (a b:TCT Bag):Int:=W64 (W64 (a.2.1+b.2.1)*W64 (a.2.1+b.2.1))
def Ccs (a b:TCT Bag):Int:=bif cdE a==0&&cdE b==0 then Cpg (sqD a b) (srD a b) else 0
def Cxn (a b:TCT Bag):Int:=bif cdE a==0&&cdE b==0 then 0 else 2
abbrev C8v:PureT:=Bbe [Bag,Bag] [cI,cI] (fun _=>true) (fun x=>(Ccs x.1 x.2.1,Cxn x.1 x.2.1,()))
abbrev TTo:=Tree (TCTs [cI,cI])
def Cv5 (x y:Int):TTo:=bif x != x then bif y != y then .leaf (0,0,()) else .leaf (-1,0,()) else bif y != y then .leaf (1,0,()) else bif decide (x<y) then .leaf (-1,0,()) else bif decide (x>y) then .leaf (1,0,()) else .leaf (0,0,())
def Byf (a b:TCT Bag):TTo:=bif cdE a != 0 then .leaf (0,2,()) else bif cdE b != 0 then .leaf (0,2,()) else Cv5 (sqD a b) (srD a b)
theorem C5n (a b:TCT Bag):(Byf a b).sat (fun y=>y=(Ccs a b,Cxn a b,())):=by
 unfold Byf Ccs Cxn Cv5 Cpg
 rw [bne_self_eq_false,bne_self_eq_false]
 have e:∀ n:Int,(n != 0)=!(n==0):=fun _=>rfl
 rw [e,e]
 cases cdE a==0 <;> cases cdE b==0 <;> try exact rfl
 cases decide (sqD a b<srD a b) <;> cases decide (sqD a b>srD a b) <;> exact rfl
theorem Cph:Bai Tryz.prog 150 C8v:=Bbg (Baq Bao (puOk_cons is_tCD.plain Bqm puOk_nil) (fns_cons is_Touch (fns_cons is_tsq (fns_cons is_cmp64 (fns_cons is_nan64 V1))))) 5 (fun x=>Byf x.1 x.2.1) (fun x=>by kernel_rfl) fun x _ _=>C5n _ _
def plAp:List (Nat×PureT):=[(150,C8v),(105,s_inR)]
theorem puAp:Bc7 Tryz.prog plAp:=puOk_cons is_Touch.plain Cph (puOk_cons is_between2.plain q_between2 puOk_nil)
noncomputable def C8w:Code:=(Ban (bodyOf Tryz.f122)).getD 0 .skip
noncomputable def C8x:Code:=(Ban (bodyOf Tryz.f122)).getD 1 .skip
abbrev kD3:List SK:=[.d cI,.d cI,.d cI]
def d3 (d:SKTs kD3):TCT Bag:=((d.1,d.2.1,()),d.2.2.1,())
def D2c (d:TCT Bag):TCT Bag:=((d.1.1,d.1.2.1,()),d.2.1,())
def toD (d:TCT Bag):SKTs kD3:=(d.1.1,d.1.2.1,d.2.1,())
def Bvl:Lay:={ keys:=[1,2,6,11,12,13,46,47,48],ks:=[.d (.sl Bag),.p 0 0 0 0,.p 1000 0 0 0,.d (.sl Bag),.d cI,.d cI,.d (.sl Bag),.d cI,.d cI],bs:=[(0,36,kLw),(1000,33,kD3)],n:=62,nx:=2000,marks:=[] }
def D2d:Lay:={ keys:=[1,2,11,12,13],ks:=[.d (.sl Bag),.p 0 0 0 0,.d (.sl Bag),.d cI,.d cI],bs:=[(0,36,kLw)],n:=62,nx:=2000,marks:=[] }
def Cv6:Lay:={ keys:=[4],ks:=[.d .b],bs:=[],n:=62,nx:=2000,marks:=[] }
def Bs8:XE→Lay:=fun e=>match e with | .ret=>Cv6 | _=>D2d
def Bs9:Lay:={ keys:=[1,2,11,12,13],ks:=[.d (.sl Bag),.p 0 0 0 0,.d (.sl Bag),.d cI,.d cI],bs:=[(0,36,kLw)],n:=62,nx:=1000,marks:=[] }
def D5z:Lay:={ keys:=[],ks:=[],bs:=[],n:=62,nx:=2000,marks:=[] }
def C17:XE→Lay:=fun e=>match e with | .ret=>Cv6 | _=>D5z
def Bsa (x:SKTs kLw) (d:SKTs kD3) (p q:List (TCT Bag)) (n i:Int) (r:List (TCT Bag)) (m k:Int):Bvl.T:=((p,(),(),q,n,i,r,m,k,()),(x,d,()))
def Bqe:V2 Bs8:=⟨.ret,((false,()),())⟩
def Bqf (x:SKTs kLw) (p q:List (TCT Bag)) (n i:Int):V2 Bs8:=⟨.exit 2,((p,(),q,n,i,()),(x,()))⟩
def Bsb (g:Bvl.T):Tree (Bvl.T⊕V2 Bs8) :=
 bif decide (g.1.2.2.2.2.2.2.2.2.1<g.1.2.2.2.2.2.2.2.1) then bif decide (0≤g.1.2.2.2.2.2.2.2.2.1∧g.1.2.2.2.2.2.2.2.2.1<((g.1.2.2.2.2.2.2.1:List (TCT Bag)).length:Int)) then
  bif decide (Ccs (d3 g.2.2.1) (D2c (Bas g.1.2.2.2.2.2.2.1 (Int.toNat g.1.2.2.2.2.2.2.2.2.1) (Bap Bag)))<0) then .leaf (.inr Bqe) else .leaf (.inl (Bsa g.2.1 g.2.2.1 g.1.1 g.1.2.2.2.1 g.1.2.2.2.2.1 g.1.2.2.2.2.2.1 g.1.2.2.2.2.2.2.1 g.1.2.2.2.2.2.2.2.1 (W64 (g.1.2.2.2.2.2.2.2.2.1+1))))
 else .fail else .leaf (.inr (Bqf g.2.1 g.1.1 g.1.2.2.2.1 g.1.2.2.2.2.1 g.1.2.2.2.2.2.1))
def Chj (g:Bvl.T):Nat:=(g.1.2.2.2.2.2.2.1:List (TCT Bag)).length+1
noncomputable def C18:Ctx:=ctx Tryz.prog plAp []
theorem C19:CtxOk C18:=Baq Bao puAp V1
theorem D60:Bb0 Tryz.prog 122 C8x (Baz Bvl Bs8 (Bdg [.ret,.exit 2] Bsb Chj)):=Bbl C19 7 _ Bvl Bs8 (fun e=>by cases e <;> exact Nat.le_refl _) [.ret,.exit 2] Bsb Chj (fun g=>by kernel_rfl)
def Bfp {α:Type} (ok:Nat→α→Bool):Nat→List α→Bool
 | _,[]=>true
 | i,x::l=>ok i x&&Bfp ok (i+1) l
theorem Bsc {α E:Type} (ok:Nat→α→Bool) (r d:E):∀ (l:List α) (i:Nat),Bqb (fun i x (_:Unit)=>bif ok i x then some (.inl ()) else some (.inr r)) (fun _=>some d) i l ()=some (bif Bfp ok i l then d else r)
 | [],i=>rfl
 | x::l,i=>by
  simp only [Bqb,Bfp]
  cases ok i x with
  | true=>simp only [cond_true,Bool.true_and];exact Bsc ok r d l (i+1)
  | false=>rfl
def touB (d o:TCT Bag):Bool:=decide (Ccs d o<0)
theorem Cpi (x:SKTs kLw) (d:TCT Bag) (p q:List (TCT Bag)) (n i:Int) (r:List (TCT Bag)) (hr:(r.length:Int)≤Bb4 .i64) :
  iter Bsb (r.length+1) (Bsa x (toD d) p q n i r r.length 0)=some (bif r.any (touB d) then Bqe else Bqf x p q n i):=by
 have hr':(r.length:Int)≤9223372036854775807:=hr
 have key:=Bec (st:=Bsb) r (fun k (_:Unit)=>Bsa x (toD d) p q n i r r.length (k:Int)) (fun _ o _=>bif touB d o then some (.inr Bqe) else some (.inl ())) (fun _=>some (Bqf x p q n i)) (fun _ _=>True)
  (fun k s hk _=>by
   have hrun:(Bsb (Bsa x (toD d) p q n i r r.length (k:Int))).run=some (bif touB d r[k] then .inr Bqe else .inl (Bsa x (toD d) p q n i r r.length ((k+1:Nat):Int))):=by
    show (bif decide ((k:Int)<(r.length:Int)) then bif decide (0≤(k:Int)∧(k:Int)<(r.length:Int)) then bif touB d (D2c (Bas r (Int.toNat (k:Int)) (Bap Bag))) then Tree.leaf (Sum.inr Bqe) else .leaf (.inl (Bsa x (toD d) p q n i r r.length (W64 ((k:Int)+1)))) else .fail else .leaf (.inr (Bqf x p q n i)):Tree (Bvl.T⊕V2 Bs8)).run=_
    rw [decide_eq_true (show (k:Int)<(r.length:Int) by omega),decide_eq_true (show 0≤(k:Int)∧(k:Int)<(r.length:Int) by omega),show Int.toNat (k:Int)=k by omega,Bdc hk,Bbc (n:=(k:Int)+1) (by omega) (by omega)]
    show (bif touB d r[k] then _ else _:Tree (Bvl.T⊕V2 Bs8)).run=_
    cases touB d r[k] <;> rfl
   cases hb:touB d r[k] with
   | true=>rw [hb] at hrun;simp only [cond_true];exact hrun
   | false=>rw [hb] at hrun;simp only [cond_false];exact ⟨hrun,trivial⟩)
  (fun s e _ he=>by
   cases he
   show (bif decide ((r.length:Int)<(r.length:Int)) then _ else Tree.leaf (Sum.inr (Bqf x p q n i)):Tree (Bvl.T⊕V2 Bs8)).run=_
   rw [decide_eq_false (show ¬ (r.length:Int)<(r.length:Int) by omega)]
   rfl)
  r.length 0 () (bif r.any (touB d) then Bqe else Bqf x p q n i) (r.length+1) (by omega) (by omega) trivial (by rw [List.drop_zero];exact Bp8 (touB d) (fun _=>Bqe) (Bqf x p q n i) _ 0)
 exact key
end St
end V
end Go.Proofs.YtcfanlgpkefogaaGreat
namespace Go.Proofs.YtcfanlgpkefogaaGreat
open Go.RowKit
namespace V
namespace St
def Bwm (x:SKTs kLw) (p q:List (TCT Bag)) (n i:Int):Bs9.T:=((p,(),q,n,i,()),(x,()))
def Bnu (b:Bool):V2 C17:=⟨.ret,((b,()),())⟩
def Bqg:V2 C17:=⟨.exit 0,((),())⟩
abbrev TAo:=Tree (Bs9.T⊕V2 C17)
def D2e (x:SKTs kLw) (d:SKTs kD3) (p q:List (TCT Bag)) (n i:Int) (r:List (TCT Bag)):Option (V2 Bs8):=iter Bsb (r.length+1) (Bsa x d p q n i r r.length 0)
def D2f (r:D2d.T):Bs9.T:=Bwm r.2.1 r.1.1 r.1.2.2.1 r.1.2.2.2.1 (W64 (r.1.2.2.2.2.1+1))
def D2g (y:Option (V2 Bs8)):TAo:=bif isE .ret y then .leaf (.inr (Bnu (Bcg .ret y).1.1)) else bif isE (.exit 2) y then .leaf (.inl (D2f (Bcg (.exit 2) y))) else .fail
def Chk (x:SKTs kLw) (p q:List (TCT Bag)) (n i:Int) (d:TCT Bag):TAo :=
 bif !inR d.1.1 d.2.1 (W64 (x.2.1-d.2.1)) then .leaf (.inr (Bnu false)) else bif !inR d.1.2.1 d.2.1 (W64 (x.2.2.1-d.2.1)) then .leaf (.inr (Bnu false)) else
 bif decide (0≤i∧i≤(p.length:Int)) then D2g (D2e x (toD d) p q n i (p.take (Int.toNat i))) else .fail
def Bsd (g:Bs9.T):TAo :=
 bif decide (g.1.2.2.2.2.1<g.1.2.2.2.1) then bif decide (0≤g.1.2.2.2.2.1∧g.1.2.2.2.2.1<((g.1.2.2.1:List (TCT Bag)).length:Int)) then
  Chk g.2.1 g.1.1 g.1.2.2.1 g.1.2.2.2.1 g.1.2.2.2.2.1 (Bas g.1.2.2.1 (Int.toNat g.1.2.2.2.2.1) (Bap Bag)) else .fail else .leaf (.inr Bqg)
def Chl (g:Bs9.T):Nat:=(g.1.2.2.1:List (TCT Bag)).length+1
def Cv7:Bj2:=fun k=>bif Nat.beq k 7 then some (Baz Bvl Bs8 (Bdg [.ret,.exit 2] Bsb Chj)) else none
theorem D61 (g:Bs9.T):evC C18.P (Bcx C18 7) C18.pures 122 C18.u Cv7 C8w (Bs9.of g) (Bew Bs9 C17)=Bsd g:=by kernel_rfl
theorem Chm:Ban C8w=[C8x]:=by kernel_rfl
theorem Chn:keyOf C8x=7:=by kernel_rfl
theorem D62:Bb0 Tryz.prog 122 C8w (Baz Bs9 C17 (Bdg [.ret,.exit 0] Bsd Chl)) :=
 Bvd C19 7 _ Cv7 (fun d hd f hf=>by
  rw [Chm,List.mem_singleton] at hd
  subst hd
  rw [Chn] at hf
  cases hf
  exact D60) Bs9 C17 (fun e=>by cases e <;> exact (by decide:(1000:Nat)≤2000)) [.ret,.exit 0] Bsd Chl D61
theorem Cho {P:Program} {f:Nat} {fn:Func} {la:Code} {sum:St→Tree (XE×St)} {k:Nat} (h1:∀ d ∈ Ban (bodyOf fn),keyOf d=k→d=la) (h2:Bb0 P f la sum) :
  ∀ p ∈ [(f,fn)],∀ d ∈ Ban (bodyOf p.2),∀ g,Bc0 [((f,k),sum)] p.1 (keyOf d)=some g→Bb0 P p.1 d g:=by
 intro p hp d hd g hg
 simp only [List.mem_singleton] at hp
 subst hp
 simp only at hd hg
 by_cases hk:keyOf d=k
 ·rw [h1 d hd hk]
  rw [hk] at hg
  simp [Bc0] at hg
  subst hg
  exact h2
 ·have:Nat.beq k (keyOf d)=false:=by
   cases h:Nat.beq k (keyOf d) with
   | false=>rfl
   | true=>exact absurd (Nat.eq_of_beq_eq_true h).symm hk
  simp only [Bc0,this,Bool.and_false,cond_false] at hg
  cases hg
theorem Chp:Ban (bodyOf Tryz.f122)=[C8w,C8x]:=by kernel_rfl
noncomputable def D63:Ctx:=Bh4 Tryz.prog plAp [(122,Tryz.f122)] [((122,2),Baz Bs9 C17 (Bdg [.ret,.exit 0] Bsd Chl))]
theorem Cpj:CtxOk D63:=Bca Bao puAp (fns_cons is_lapart V1) (Cho (fun d hd hk=>by
 rw [Chp,List.mem_cons,List.mem_singleton] at hd
 rcases hd with rfl | rfl
 ·rfl
 ·rw [Chn] at hk;cases hk) D62)
def Bmq (w l:Int) (d:TCT Bag):Bool:=inR d.1.1 d.2.1 (W64 (w-d.2.1))&&inR d.1.2.1 d.2.1 (W64 (l-d.2.1))
def apF (w l:Int) (p:List (TCT Bag)):Bool:=Bfp (fun i d=>Bmq w l d&&!(p.take i).any (touB d)) 0 p
def Chq (l:TCT Bal) (p:List (TCT Bag)):Option (V2 C17):=iter Bsd (p.length+1) (Bwm (Bd2 l) p p p.length 0)
def Cxo (l:TCT Bal) (p:List (TCT Bag)):TBo:=bif isE .ret (Chq l p) then .leaf ((Bcg .ret (Chq l p)).1.1,()) else bif isE (.exit 0) (Chq l p) then .leaf (true,()) else .fail
theorem Cpk (l:TCT Bal) (p:List (TCT Bag)) (hp:(p.length:Int)≤Bb4 .i64):Chq l p=some (bif apF l.2.1 l.2.2.1 p then Bqg else Bnu false):=by
 have hp':(p.length:Int)≤9223372036854775807:=hp
 unfold Chq
 have key:=Bec (st:=Bsd) p (fun i (_:Unit)=>Bwm (Bd2 l) p p p.length (i:Int)) (fun i d _=>bif Bmq l.2.1 l.2.2.1 d&&!(p.take i).any (touB d) then some (.inl ()) else some (.inr (Bnu false))) (fun _=>some Bqg) (fun _ _=>True)
  (fun i s hi _=>by
   have hrun:(Bsd (Bwm (Bd2 l) p p p.length (i:Int))).run=some (bif Bmq l.2.1 l.2.2.1 p[i]&&!(p.take i).any (touB p[i]) then .inl (Bwm (Bd2 l) p p p.length ((i+1:Nat):Int)) else .inr (Bnu false)):=by
    show (bif decide ((i:Int)<(p.length:Int)) then bif decide (0≤(i:Int)∧(i:Int)<(p.length:Int)) then Chk (Bd2 l) p p p.length (i:Int) (Bas p (Int.toNat (i:Int)) (Bap Bag)) else .fail else .leaf (.inr Bqg):TAo).run=_
    rw [decide_eq_true (show (i:Int)<(p.length:Int) by omega),decide_eq_true (show 0≤(i:Int)∧(i:Int)<(p.length:Int) by omega),show Int.toNat (i:Int)=i by omega,Bdc hi]
    simp only [cond_true]
    unfold Chk Bmq
    have hw:(Bd2 l).2.1=l.2.1:=rfl
    have hl:(Bd2 l).2.2.1=l.2.2.1:=rfl
    rw [hw,hl]
    cases inR p[i].1.1 p[i].2.1 (W64 (l.2.1-p[i].2.1)) with
    | false=>rfl
    | true =>
     cases inR p[i].1.2.1 p[i].2.1 (W64 (l.2.2.1-p[i].2.1)) with
     | false=>rfl
     | true =>
      simp only [Bool.not_true,cond_false,Bool.true_and]
      have ht:(p.take i).length=i:=by rw [List.length_take];omega
      have hy:D2e (Bd2 l) (toD p[i]) p p p.length (i:Int) (p.take i)=some (bif (p.take i).any (touB p[i]) then Bqe else Bqf (Bd2 l) p p p.length (i:Int)) :=
       Cpi (Bd2 l) p[i] p p p.length (i:Int) (p.take i) (by rw [ht];show (i:Int)≤9223372036854775807;omega)
      rw [decide_eq_true (show 0≤(i:Int)∧(i:Int)≤(p.length:Int) by omega),cond_true,show Int.toNat (i:Int)=i by omega,hy]
      cases (p.take i).any (touB p[i]) with
      | true=>rfl
      | false =>
       show (Tree.leaf (Sum.inl (Bwm (Bd2 l) p p p.length (W64 ((i:Int)+1)))):TAo).run=_
       rw [Bbc (n:=(i:Int)+1) (by omega) (by omega)]
       rfl
   cases hb:Bmq l.2.1 l.2.2.1 p[i]&&!(p.take i).any (touB p[i]) with
   | true=>rw [hb] at hrun;simp only [cond_true];exact ⟨hrun,trivial⟩
   | false=>rw [hb] at hrun;simp only [cond_false];exact hrun)
  (fun s e _ he=>by
   cases he
   show (bif decide ((p.length:Int)<(p.length:Int)) then _ else Tree.leaf (Sum.inr Bqg):TAo).run=_
   rw [decide_eq_false (show ¬ (p.length:Int)<(p.length:Int) by omega)]
   rfl)
  p.length 0 () (bif apF l.2.1 l.2.2.1 p then Bqg else Bnu false) (p.length+1) (by omega) (by omega) trivial (by
   rw [List.drop_zero]
   exact Bsc (fun i d=>Bmq l.2.1 l.2.2.1 d&&!(p.take i).any (touB d)) (Bnu false) Bqg p 0)
 exact key
abbrev C8y:PureT:=Bbe [Bal,.sl Bag] [.b] (fun _=>true) (fun x=>(apF x.1.2.1 x.1.2.2.1 x.2.1,()))
theorem Cpl:Bai Tryz.prog 122 C8y:=Bbg Cpj 7 (fun x=>Cxo x.1 x.2.1) (fun x=>by kernel_rfl) fun x _ hw=>by
 show (Cxo x.1 x.2.1).sat _
 unfold Cxo
 rw [Cpk x.1 x.2.1 (Bex hw.2.1)]
 show ((bif isE .ret (some (bif apF x.1.2.1 x.1.2.2.1 x.2.1 then Bqg else Bnu false)) then _ else _:TBo)).sat (fun y=>y=(apF x.1.2.1 x.1.2.2.1 x.2.1,()))
 cases apF x.1.2.1 x.1.2.2.1 x.2.1 <;> exact rfl
end St
end V
end Go.Proofs.YtcfanlgpkefogaaGreat
namespace Go.Proofs.YtcfanlgpkefogaaGreat
open Go.RowKit
namespace V
namespace St
theorem is_lCheck:FnIs Tryz.prog (75,Tryz.f75):=⟨Tryz.func75,by kernel_rfl,by kernel_rfl⟩
def nxL (l:TCT Bal):Int:=l.2.2.2.2.2.2.1
def nyL (l:TCT Bal):Int:=l.2.2.2.2.2.2.2.1
def Bc4 (l:TCT Bal):List (TCT Bc1):=l.2.2.2.2.2.2.2.2.1
def Bk1 (l:TCT Bal):Bool:=decide (((Bay l).length:Int)<1)||(decide (((Bay l).length:Int)>12)||decide (((Bc4 l).length:Int)>256))
def C5o (l:TCT Bal):Bool:=Bhh l.1&&(inR l.2.1 65536 4194304&&(inR l.2.2.1 65536 4194304&&inR l.2.2.2.1 0 (W64 (Int.tdiv (min l.2.1 l.2.2.1) 4))))
def C5p (l:TCT Bal):Bool:=!decide (nxL l<1)&&(!decide (nxL l>16)&&(!decide (nyL l<1)&&(!decide (nyL l>16)&&!(((Bc4 l).length:Int)!=W64 (nxL l*nyL l)))))
def okL (l:TCT Bal):Bool:=C5o l&&(inR (Bis l).2.1 1 8192&&(C5p l&&((Bay l).all Bej&&((Bc4 l).all Bf9&&apF l.2.1 l.2.2.1 (Bbn l)))))
def Bc3 (l:TCT Bal):Int:=bif Bk1 l then 6 else bif okL l then 0 else 2
abbrev Bqh:PureT:=Bbe [Bal] [cI] (fun x=>decide ((x.1.1.size:Int)≤Bb4 .i64)) (fun x=>(Bc3 x.1,()))
def plLc:List (Nat×PureT):=[(115,Bye),(105,s_inR),(74,Bjc),(122,C8y),(116,C0m),(119,C0r)]
theorem puLc:Bc7 Tryz.prog plLc:=puOk_cons is_vname.plain Cpb (puOk_cons is_between2.plain q_between2 (puOk_cons is_lposts.plain Bya (puOk_cons is_lapart.plain Cpl (puOk_cons is_cfHoop.plain Cgq (puOk_cons is_cfCell.plain Cgv puOk_nil)))))
abbrev TEr:=Tree (TCTs [cI])
def er (c:Bool) (e:Int) (k:TEr):TEr:=bif c then .leaf (e,()) else k
theorem Bk3 {a b:Bool} {e:Int} {k:TEr}:er (a||b) e k=er a e (er b e k):=by cases a <;> cases b <;> rfl
def Cxp (l:TCT Bal):TEr :=
 er (decide (((Bay l).length:Int)<1)) 6 (er (decide (((Bay l).length:Int)>12)) 6 (er (decide (((Bc4 l).length:Int)>256)) 6 (
 bif decide ((l.1.size:Int)≤Bb4 .i64) then er (!Bhh l.1) 2 (er (!inR l.2.1 65536 4194304) 2 (er (!inR l.2.2.1 65536 4194304) 2 (er (!inR l.2.2.2.1 0 (W64 (Int.tdiv (min l.2.1 l.2.2.1) 4))) 2 (er (!inR (Bis l).2.1 1 8192) 2 (
  er (decide (nxL l<1)) 2 (er (decide (nxL l>16)) 2 (er (decide (nyL l<1)) 2 (er (decide (nyL l>16)) 2 (er (((Bc4 l).length:Int)!=W64 (nxL l*nyL l)) 2 (
  er ((Bay l).any (Bcz ())) 2 (er ((Bc4 l).any (Bd0 ())) 2 (
  bif decide ((Bay l).length≤1000) then er (!apF l.2.1 l.2.2.1 (Bbn l)) 2 (.leaf (0,())) else .fail))))))))))))
 else .fail)))
theorem Bi1 {α:Type} (p:α→Bool) (l:List α):l.any (fun x=>!p x)=!l.all p:=by
 induction l with
 | nil=>rfl
 | cons x l ih=>simp only [List.any_cons,List.all_cons,ih,Bool.not_and]
theorem Cpm {l:TCT Bal} (hs:(l.1.size:Int)≤Bb4 .i64):(Cxp l).sat (fun y=>y=(Bc3 l,())):=by
 unfold Cxp Bc3
 rw [← Bk3,← Bk3,Bool.or_assoc]
 show (er (Bk1 l) 6 _).sat _
 cases hm:Bk1 l with
 | true=>exact rfl
 | false =>
  have h12:(Bay l).length≤1000:=by
   unfold Bk1 at hm
   simp only [Bool.or_eq_false_iff,decide_eq_false_iff_not] at hm
   omega
  rw [decide_eq_true hs,decide_eq_true h12]
  show (er (!Bhh l.1) 2 _).sat (fun y=>y=((bif okL l then 0 else 2),()))
  have hh:(Bay l).any (Bcz ())=!(Bay l).all Bej:=Bi1 Bej _
  have hc:(Bc4 l).any (Bd0 ())=!(Bc4 l).all Bf9:=Bi1 Bf9 _
  rw [hh,hc]
  unfold okL C5o C5p
  simp only [cond_true]
  generalize Bhh l.1=b1
  generalize inR l.2.1 65536 4194304=b2
  generalize inR l.2.2.1 65536 4194304=b3
  generalize inR l.2.2.2.1 0 (W64 (Int.tdiv (min l.2.1 l.2.2.1) 4))=b4
  generalize inR (Bis l).2.1 1 8192=b5
  generalize decide (nxL l<1)=b6
  generalize decide (nxL l>16)=b7
  generalize decide (nyL l<1)=b8
  generalize decide (nyL l>16)=b9
  generalize (((Bc4 l).length:Int)!=W64 (nxL l*nyL l))=b10
  generalize (Bay l).all Bej=b11
  generalize (Bc4 l).all Bf9=b12
  generalize apF l.2.1 l.2.2.1 (Bbn l)=b13
  cases b1 <;> try exact rfl
  cases b2 <;> try exact rfl
  cases b3 <;> try exact rfl
  cases b4 <;> try exact rfl
  cases b5 <;> try exact rfl
  cases b6 <;> try exact rfl
  cases b7 <;> try exact rfl
  cases b8 <;> try exact rfl
  cases b9 <;> try exact rfl
  cases b10 <;> try exact rfl
  cases b11 <;> try exact rfl
  cases b12 <;> try exact rfl
  cases b13 <;> exact rfl
theorem Bnv:Bai Tryz.prog 75 Bqh:=Bbg (Baq Bao puLc (fns_cons is_lCheck V1)) 7 (fun x=>Cxp x.1) (fun x=>by kernel_rfl) fun x hok _=>Cpm (of_decide_eq_true hok)
end St
end V
end Go.Proofs.YtcfanlgpkefogaaGreat
namespace Go.Proofs.YtcfanlgpkefogaaGreat
open Go.RowKit
namespace V
namespace St
theorem Bki {G E α:Type} {st:G→Tree (G⊕E)} (l:List α) (d:α) (hd:Int→G) (bad:α→Bool) (rt ex:E) (hl:(l.length:Int)≤Bb4 .i64)
  (h:∀ i:Int,st (hd i)=bif decide (i<(l.length:Int)) then bif decide (0≤i∧i<(l.length:Int)) then bif bad (Bas l (Int.toNat i) d) then .leaf (.inr rt) else .leaf (.inl (hd (W64 (i+1)))) else .fail else .leaf (.inr ex)) :
  iter st (l.length+1) (hd 0)=some (bif l.any bad then rt else ex):=by
 have hl':(l.length:Int)≤9223372036854775807:=hl
 have key:=Bec (st:=st) l (fun i (_:Unit)=>hd (i:Int)) (fun _ x _=>bif bad x then some (.inr rt) else some (.inl ())) (fun _=>some ex) (fun _ _=>True)
  (fun i s hi _=>by
   have hrun:(st (hd (i:Int))).run=some (bif bad l[i] then .inr rt else .inl (hd ((i+1:Nat):Int))):=by
    rw [h,decide_eq_true (show (i:Int)<(l.length:Int) by omega),decide_eq_true (show 0≤(i:Int)∧(i:Int)<(l.length:Int) by omega),show Int.toNat (i:Int)=i by omega,Bdc hi,Bbc (n:=(i:Int)+1) (by omega) (by omega)]
    cases bad l[i] <;> rfl
   cases hb:bad l[i] with
   | true=>rw [hb] at hrun;simp only [cond_true];exact hrun
   | false=>rw [hb] at hrun;simp only [cond_false];exact ⟨hrun,trivial⟩)
  (fun s e _ he=>by
   cases he
   rw [h,decide_eq_false (show ¬ (l.length:Int)<(l.length:Int) by omega)]
   rfl)
  l.length 0 () (bif l.any bad then rt else ex) (l.length+1) (by omega) (by omega) trivial (by rw [List.drop_zero];exact Bp8 bad (fun _=>rt) ex _ 0)
 exact key
theorem Bse {G E α:Type} {st:G→Tree (G⊕E)} (l:List α) (d:α) (hd:Int→G) (ok:Nat→α→Bool) (body:Int→α→Tree (G⊕E)) (rt ex:E) (hl:(l.length:Int)≤Bb4 .i64)
  (h:∀ i:Int,st (hd i)=bif decide (i<(l.length:Int)) then bif decide (0≤i∧i<(l.length:Int)) then body i (Bas l (Int.toNat i) d) else .fail else .leaf (.inr ex))
  (hb:∀ (i:Nat) (hi:i<l.length),(body (i:Int) l[i]).run=some (bif ok i l[i] then .inl (hd ((i+1:Nat):Int)) else .inr rt)) :
  iter st (l.length+1) (hd 0)=some (bif Bfp ok 0 l then ex else rt):=by
 have hl':(l.length:Int)≤9223372036854775807:=hl
 have key:=Bec (st:=st) l (fun i (_:Unit)=>hd (i:Int)) (fun i x _=>bif ok i x then some (.inl ()) else some (.inr rt)) (fun _=>some ex) (fun _ _=>True)
  (fun i s hi _=>by
   have hrun:(st (hd (i:Int))).run=some (bif ok i l[i] then .inl (hd ((i+1:Nat):Int)) else .inr rt):=by
    rw [h,decide_eq_true (show (i:Int)<(l.length:Int) by omega),decide_eq_true (show 0≤(i:Int)∧(i:Int)<(l.length:Int) by omega),show Int.toNat (i:Int)=i by omega,Bdc hi]
    exact hb i hi
   cases hk:ok i l[i] with
   | true=>rw [hk] at hrun;simp only [cond_true];exact ⟨hrun,trivial⟩
   | false=>rw [hk] at hrun;simp only [cond_false];exact hrun)
  (fun s e _ he=>by
   cases he
   rw [h,decide_eq_false (show ¬ (l.length:Int)<(l.length:Int) by omega)]
   rfl)
  l.length 0 () (bif Bfp ok 0 l then ex else rt) (l.length+1) (by omega) (by omega) trivial (by rw [List.drop_zero];exact Bsc ok rt ex _ 0)
 exact key
def plRc:List (Nat×PureT):=[]
theorem puRc:Bc7 Tryz.prog plRc:=puOk_nil
abbrev bL:BK:=(0,36,kLw)
def C5q:Lay:={ keys:=[1,3],ks:=[.p 0 0 0 0,.d cI],bs:=[bL],n:=224,nx:=1000,marks:=[] }
def C1c:Lay:={ keys:=[1],ks:=[.p 0 0 0 0],bs:=[bL],n:=224,nx:=1000,marks:=[] }
def D64:Lay:={ keys:=[2],ks:=[.d cI],bs:=[],n:=224,nx:=1000,marks:=[] }
def Bpf:XE→Lay:=fun e=>match e with | .ret=>D64 | _=>C1c
def Cht (x:SKTs kLw) (i:Int):C5q.T:=(((),i,()),(x,()))
def Bwn:V2 Bpf:=⟨.ret,((2,()),())⟩
def Chu (x:SKTs kLw):V2 Bpf:=⟨.exit 0,(((),()),(x,()))⟩
def D65 (h:TCT Bbm):TCT Bbm:=(h.1,h.2.1,h.2.2.1,h.2.2.2.1,h.2.2.2.2.1,())
def hsX (x:SKTs kLw):List (TCT Bbm):=x.2.2.2.2.1
def csX (x:SKTs kLw):List (TCT Bc1):=x.2.2.2.2.2.2.2.2.2.2.1
def C90 (g:C5q.T):Tree (C5q.T⊕V2 Bpf):=bif decide (g.1.2.1<((hsX g.2.1).length:Int)) then bif decide (0≤g.1.2.1∧g.1.2.1<((hsX g.2.1).length:Int)) then
 bif !Bej (D65 (Bas (hsX g.2.1) (Int.toNat g.1.2.1) (Bap Bbm))) then .leaf (.inr Bwn) else .leaf (.inl (Cht g.2.1 (W64 (g.1.2.1+1)))) else .fail else .leaf (.inr (Chu g.2.1))
def Chv (g:C5q.T):Nat:=(hsX g.2.1).length+1
def C5r:Lay:={ keys:=[1,4],ks:=[.p 0 0 0 0,.d cI],bs:=[bL],n:=224,nx:=1000,marks:=[] }
def Chw (x:SKTs kLw) (i:Int):C5r.T:=(((),i,()),(x,()))
def Chx (x:SKTs kLw):V2 Bpf:=⟨.exit 2,(((),()),(x,()))⟩
def C91 (g:C5r.T):Tree (C5r.T⊕V2 Bpf):=bif decide (g.1.2.1<((csX g.2.1).length:Int)) then bif decide (0≤g.1.2.1∧g.1.2.1<((csX g.2.1).length:Int)) then
 bif !Bf9 (Bas (csX g.2.1) (Int.toNat g.1.2.1) (Bap Bc1)) then .leaf (.inr Bwn) else .leaf (.inl (Chw g.2.1 (W64 (g.1.2.1+1)))) else .fail else .leaf (.inr (Chx g.2.1))
def Chy (g:C5r.T):Nat:=(csX g.2.1).length+1
end St
end V
end Go.Proofs.YtcfanlgpkefogaaGreat
namespace Go.Proofs.YtcfanlgpkefogaaGreat
open Go.RowKit
namespace V
namespace St
def C1d:Lay:={ keys:=[1,5,6,7],ks:=[.p 0 0 0 0,.d (.sl Bag),.d cI,.d cI],bs:=[bL],n:=224,nx:=2000,marks:=[] }
def D2h:Lay:={ keys:=[1,5,6],ks:=[.p 0 0 0 0,.d (.sl Bag),.d cI],bs:=[bL],n:=224,nx:=2000,marks:=[] }
def Cv8:Lay:={ keys:=[2],ks:=[.d cI],bs:=[],n:=224,nx:=2000,marks:=[] }
def Byg:XE→Lay:=fun e=>match e with | .ret=>Cv8 | _=>D2h
def Bsf:Lay:={ keys:=[1,5,6],ks:=[.p 0 0 0 0,.d (.sl Bag),.d cI],bs:=[bL],n:=224,nx:=1000,marks:=[] }
def D68:Lay:={ keys:=[],ks:=[],bs:=[],n:=224,nx:=2000,marks:=[] }
def C1e:XE→Lay:=fun e=>match e with | .ret=>Cv8 | _=>D68
def sqR (a b:TCT Bag):Int:=W64 (W64 (W64 (a.1.1-b.1.1)*W64 (a.1.1-b.1.1))+W64 (W64 (a.1.2.1-b.1.2.1)*W64 (a.1.2.1-b.1.2.1)))
def Bvm (d o:TCT Bag):Bool:=decide (sqR d o<srD d o)
def inP {β:Type} (p:List (TCT Bag)) (i:Int) (k:Tree β):Tree β:=bif decide (0≤i∧i<(p.length:Int)) then k else .fail
theorem Bfa {β:Type} {p:List (TCT Bag)} {i:Int} {k:Tree β} (h:0≤i∧i<(p.length:Int)):inP p i k=k:=by unfold inP;rw [decide_eq_true h];rfl
def gD (p:List (TCT Bag)) (i:Int):TCT Bag:=Bas p (Int.toNat i) (Bap Bag)
def C92 (x:SKTs kLw) (p:List (TCT Bag)) (i k:Int):C1d.T:=(((),p,i,k,()),(x,()))
def C93:V2 Byg:=⟨.ret,((2,()),())⟩
def C94 (x:SKTs kLw) (p:List (TCT Bag)) (i:Int):V2 Byg:=⟨.exit 6,(((),p,i,()),(x,()))⟩
def C5s (x:SKTs kLw) (p:List (TCT Bag)) (i k:Int):Tree (C1d.T⊕V2 Byg):=bif decide (k<i) then
 inP p i (inP p k (inP p i (inP p k (inP p i (inP p k (inP p i (inP p k (bif Bvm (gD p i) (gD p k) then .leaf (.inr C93) else .leaf (.inl (C92 x p i (W64 (k+1)))))))))))) else .leaf (.inr (C94 x p i))
def C1f (g:C1d.T):Tree (C1d.T⊕V2 Byg):=C5s g.2.1 g.1.2.1 g.1.2.2.1 g.1.2.2.2.1
def Chz (g:C1d.T):Nat:=(List.take (Int.toNat g.1.2.2.1) (g.1.2.1:List (TCT Bag))).length+1
theorem Cpn (x:SKTs kLw) (p:List (TCT Bag)) (i:Nat) (hi:i<p.length) (hp:(p.length:Int)≤Bb4 .i64) :
  iter C1f ((p.take i).length+1) (C92 x p i 0)=some (bif (p.take i).any (Bvm p[i]) then C93 else C94 x p i):=by
 have ht:(p.take i).length=i:=by rw [List.length_take];omega
 have hp':(p.length:Int)≤9223372036854775807:=hp
 refine Bki (p.take i) (Bap Bag) (fun k=>C92 x p i k) (Bvm p[i]) C93 (C94 x p i) (by rw [ht];show (i:Int)≤9223372036854775807;omega) fun k=>?_
 show C5s x p i k=_
 unfold C5s
 rw [ht]
 by_cases hk:k<(i:Int)
 ·rw [decide_eq_true hk,cond_true,cond_true]
  by_cases h0:0≤k
  ·have hki:0≤k∧k<(p.length:Int):=by omega
   have hii:0≤(i:Int)∧(i:Int)<(p.length:Int):=by omega
   have e1:gD p (i:Int)=p[i]:=by unfold gD;rw [show Int.toNat (i:Int)=i by omega,Bdc hi]
   have e2:gD p k=Bas (p.take i) (Int.toNat k) (Bap Bag):=by
    unfold gD
    have h1:Int.toNat k<p.length:=by omega
    have h2:Int.toNat k<(p.take i).length:=by omega
    rw [Bdc h1,Bdc h2,List.getElem_take]
   rw [Bfa hii,Bfa hki,Bfa hii,Bfa hki,Bfa hii,Bfa hki,Bfa hii,Bfa hki,e1,e2,decide_eq_true (show 0≤k∧k<(i:Int) by omega)]
   rfl
  ·have hii:0≤(i:Int)∧(i:Int)<(p.length:Int):=by omega
   rw [Bfa hii,decide_eq_false (show ¬ (0≤k∧k<(i:Int)) by omega)]
   unfold inP
   rw [decide_eq_false (show ¬ (0≤k∧k<(p.length:Int)) by omega)]
   rfl
 ·rw [decide_eq_false hk];rfl
def C95 (x:SKTs kLw) (p:List (TCT Bag)) (i:Int):Bsf.T:=(((),p,i,()),(x,()))
def Bwo (e:Int):V2 C1e:=⟨.ret,((e,()),())⟩
def C96:V2 C1e:=⟨.exit 4,((),())⟩
abbrev TC3:=Tree (Bsf.T⊕V2 C1e)
def Cxq (x:SKTs kLw) (p:List (TCT Bag)) (i:Int):Option (V2 Byg):=iter C1f ((p.take (Int.toNat i)).length+1) (C92 x p i 0)
def D2i (r:D2h.T):Bsf.T:=C95 r.2.1 r.1.2.1 (W64 (r.1.2.2.1+1))
def D2j (y:Option (V2 Byg)):TC3:=bif isE .ret y then .leaf (.inr (Bwo (Bcg .ret y).1.1)) else bif isE (.exit 6) y then .leaf (.inl (D2i (Bcg (.exit 6) y))) else .fail
def Ci0 (x:SKTs kLw) (p:List (TCT Bag)) (i:Int) (d:TCT Bag):TC3 :=
 inP p i (inP p i (bif !inR d.1.1 d.2.1 (W64 (x.2.1-d.2.1)) then .leaf (.inr (Bwo 2)) else inP p i (inP p i (inP p i (bif !inR d.1.2.1 d.2.1 (W64 (x.2.2.1-d.2.1)) then .leaf (.inr (Bwo 2)) else D2j (Cxq x p i))))))
def C1g (g:Bsf.T):TC3:=bif decide (g.1.2.2.1<((g.1.2.1:List (TCT Bag)).length:Int)) then bif decide (0≤g.1.2.2.1∧g.1.2.2.1<((g.1.2.1:List (TCT Bag)).length:Int)) then Ci0 g.2.1 g.1.2.1 g.1.2.2.1 (gD g.1.2.1 g.1.2.2.1) else .fail else .leaf (.inr C96)
def Ci1 (g:Bsf.T):Nat:=(g.1.2.1:List (TCT Bag)).length+1
def Cv9:Bj2:=fun k=>bif Nat.beq k 24 then some (Baz C1d Byg (Bdg [.ret,.exit 6] C1f Chz)) else none
end St
end V
end Go.Proofs.YtcfanlgpkefogaaGreat
namespace Go.Proofs.YtcfanlgpkefogaaGreat
open Go.RowKit
namespace V
namespace St
def Ci6 (x:SKTs kLw):Option (V2 Bpf):=iter C90 ((hsX x).length+1) (Cht x 0)
def Ci7 (x:SKTs kLw):Option (V2 Bpf):=iter C91 ((csX x).length+1) (Chw x 0)
def Ci8 (x:SKTs kLw) (p:List (TCT Bag)):Option (V2 C1e):=iter C1g (p.length+1) (C95 x p 0)
def Ci9 (r:C1c.T):TEr:=bif decide ((hsX r.2.1).length≤1000) then
 bif isE .ret (Ci8 r.2.1 (Bbn (Bk9 r.2.1))) then .leaf ((Bcg .ret (Ci8 r.2.1 (Bbn (Bk9 r.2.1)))).1.1,()) else bif isE (.exit 4) (Ci8 r.2.1 (Bbn (Bk9 r.2.1))) then .leaf (0,()) else .fail else .fail
def Cia (r:C1c.T):TEr:=er (!inR (Bis (Bk9 r.2.1)).2.1 1 8192) 2 (er (!inR (Bis (Bk9 r.2.1)).1.1 0 4194304) 2 (er (!inR (Bis (Bk9 r.2.1)).1.2.1 0 4194304) 2 (
 er (decide (nxL (Bk9 r.2.1)<1)) 2 (er (decide (nxL (Bk9 r.2.1)>16)) 2 (er (decide (nyL (Bk9 r.2.1)<1)) 2 (er (decide (nyL (Bk9 r.2.1)>16)) 2 (er (((csX r.2.1).length:Int)!=W64 (nxL (Bk9 r.2.1)*nyL (Bk9 r.2.1))) 2 (
 bif isE .ret (Ci7 r.2.1) then .leaf ((Bcg .ret (Ci7 r.2.1)).1.1,()) else bif isE (.exit 2) (Ci7 r.2.1) then Ci9 (Bcg (.exit 2) (Ci7 r.2.1)) else .fail))))))))
def Cpp (l:TCT Bal):TEr :=
 er (decide (((Bay l).length:Int)<1)) 6 (er (decide (((Bay l).length:Int)>12)) 6 (er (decide (((Bc4 l).length:Int)>256)) 6 (
 bif decide ((l.1.size:Int)≤Bb4 .i64) then er (!Bhh l.1) 2 (er (!inR l.2.1 65536 4194304) 2 (er (!inR l.2.2.1 65536 4194304) 2 (er (!inR l.2.2.2.1 0 (W64 (Int.tdiv (min l.2.1 l.2.2.1) 4))) 2 (
  bif isE .ret (Ci6 (Bd2 l)) then .leaf ((Bcg .ret (Ci6 (Bd2 l))).1.1,()) else bif isE (.exit 0) (Ci6 (Bd2 l)) then Cia (Bcg (.exit 0) (Ci6 (Bd2 l))) else .fail))))
 else .fail)))
end St
end V
end Go.Proofs.YtcfanlgpkefogaaGreat
namespace Go.Proofs.YtcfanlgpkefogaaGreat
open Go.RowKit
namespace V
namespace St
def apR (w l:Int) (p:List (TCT Bag)):Bool:=Bfp (fun i d=>Bmq w l d&&!(p.take i).any (Bvm d)) 0 p
theorem Cpr (x:SKTs kLw) (hl:((hsX x).length:Int)≤Bb4 .i64):Ci6 x=some (bif (hsX x).any (fun h=>!Bej h) then Bwn else Chu x) :=
 Bki (hsX x) (Bap Bbm) (Cht x) (fun h=>!Bej h) Bwn (Chu x) hl (fun _=>rfl)
theorem Cps (x:SKTs kLw) (hl:((csX x).length:Int)≤Bb4 .i64):Ci7 x=some (bif (csX x).any (fun h=>!Bf9 h) then Bwn else Chx x) :=
 Bki (csX x) (Bap Bc1) (Chw x) (fun h=>!Bf9 h) Bwn (Chx x) hl (fun _=>rfl)
theorem Cpt (x:SKTs kLw) (p:List (TCT Bag)) (hp:(p.length:Int)≤Bb4 .i64):Ci8 x p=some (bif apR x.2.1 x.2.2.1 p then C96 else Bwo 2):=by
 have hp':(p.length:Int)≤9223372036854775807:=hp
 refine Bse p (Bap Bag) (C95 x p) (fun i d=>Bmq x.2.1 x.2.2.1 d&&!(p.take i).any (Bvm d)) (Ci0 x p) (Bwo 2) C96 hp (fun _=>rfl) fun i hi=>?_
 have hii:0≤(i:Int)∧(i:Int)<(p.length:Int):=by omega
 unfold Ci0 Bmq
 rw [Bfa hii,Bfa hii,Bfa hii,Bfa hii,Bfa hii]
 cases inR p[i].1.1 p[i].2.1 (W64 (x.2.1-p[i].2.1)) with
 | false=>rfl
 | true =>
  cases inR p[i].1.2.1 p[i].2.1 (W64 (x.2.2.1-p[i].2.1)) with
  | false=>rfl
  | true =>
   have hy:Cxq x p (i:Int)=some (bif (p.take i).any (Bvm p[i]) then C93 else C94 x p i):=by
    unfold Cxq
    rw [show Int.toNat (i:Int)=i by omega]
    exact Cpn x p i hi hp
   simp only [Bool.not_true,cond_false,Bool.true_and]
   rw [hy]
   cases (p.take i).any (Bvm p[i]) with
   | true=>rfl
   | false =>
    show (Tree.leaf (Sum.inl (C95 x p (W64 ((i:Int)+1)))):TC3).run=_
    rw [Bbc (n:=(i:Int)+1) (by omega) (by omega)]
    rfl
def Cpu (l:TCT Bal):Bool:=inR (Bis l).2.1 1 8192&&(inR (Bis l).1.1 0 4194304&&inR (Bis l).1.2.1 0 4194304)
def okR (l:TCT Bal):Bool:=C5o l&&((Bay l).all Bej&&(Cpu l&&(C5p l&&((Bc4 l).all Bf9&&apR l.2.1 l.2.2.1 (Bbn l)))))
def Cpv (l:TCT Bal):Int:=bif Bk1 l then 6 else bif okR l then 0 else 2
theorem Bwp {l:TCT Bal}:(Bbn l).length=2*(Bay l).length+1:=by
 unfold Bbn
 rw [List.length_append,Bnt]
 rfl
theorem D2l {l:TCT Bal} (h12:(Bay l).length≤1000):(Ci9 (((),()),(Bd2 l,()))).sat (fun y=>y=((bif apR l.2.1 l.2.2.1 (Bbn l) then (0:Int) else 2),())):=by
 unfold Ci9
 have e:Bk9 (((((),()),(Bd2 l,())):C1c.T).2.1)=l:=rfl
 have e2:hsX (((((),()),(Bd2 l,())):C1c.T).2.1)=Bay l:=rfl
 have hy:Ci8 (((((),()),(Bd2 l,())):C1c.T).2.1) (Bbn l)=some (bif apR l.2.1 l.2.2.1 (Bbn l) then C96 else Bwo 2):=Cpt (Bd2 l) (Bbn l) (by rw [Bwp];simp only [Bb4];omega)
 rw [e,e2,decide_eq_true h12,hy]
 cases apR l.2.1 l.2.2.1 (Bbn l) <;> exact rfl
theorem Bjd {a b:Bool} {k:TEr} (h:k.sat (fun y=>y=((bif b then (0:Int) else 2),()))):(er (!a) 2 k).sat (fun y=>y=((bif a&&b then (0:Int) else 2),())):=by
 cases a with
 | true=>exact h
 | false=>exact rfl
theorem Bkj {a b:Bool} {k:TEr} (h:k.sat (fun y=>y=((bif b then (0:Int) else 2),()))):(er a 2 k).sat (fun y=>y=((bif !a&&b then (0:Int) else 2),())):=by
 cases a with
 | true=>exact rfl
 | false=>exact h
theorem D2m {l:TCT Bal} (h12:(Bay l).length≤1000) (hc:((Bc4 l).length:Int)≤Bb4 .i64):(Cia (((),()),(Bd2 l,()))).sat (fun y=>y=((bif Cpu l&&(C5p l&&((Bc4 l).all Bf9&&apR l.2.1 l.2.2.1 (Bbn l))) then (0:Int) else 2),())):=by
 unfold Cia Cpu C5p
 have e:Bk9 (((((),()),(Bd2 l,())):C1c.T).2.1)=l:=rfl
 have e2:csX (((((),()),(Bd2 l,())):C1c.T).2.1)=Bc4 l:=rfl
 rw [e,e2]
 simp only [Bool.and_assoc]
 refine Bjd (Bjd (Bjd (Bkj (Bkj (Bkj (Bkj (Bkj ?_)))))))
 rw [Cps (Bd2 l) hc]
 have hq:(csX (Bd2 l)).any (fun h=>!Bf9 h)=!(Bc4 l).all Bf9:=Bi1 Bf9 _
 rw [hq]
 cases (Bc4 l).all Bf9 with
 | false=>exact rfl
 | true=>exact D2l h12
theorem Cpw {l:TCT Bal} (hs:(l.1.size:Int)≤Bb4 .i64) (hh:((Bay l).length:Int)≤Bb4 .i64) (hc:((Bc4 l).length:Int)≤Bb4 .i64):(Cpp l).sat (fun y=>y=(Cpv l,())):=by
 unfold Cpp Cpv
 rw [← Bk3,← Bk3,Bool.or_assoc]
 show (er (Bk1 l) 6 _).sat _
 cases hm:Bk1 l with
 | true=>exact rfl
 | false =>
  have h12:(Bay l).length≤1000:=by
   unfold Bk1 at hm
   simp only [Bool.or_eq_false_iff,decide_eq_false_iff_not] at hm
   omega
  rw [decide_eq_true hs]
  show (er (!Bhh l.1) 2 _).sat (fun y=>y=((bif okR l then (0:Int) else 2),()))
  unfold okR C5o
  simp only [Bool.and_assoc]
  refine Bjd (Bjd (Bjd (Bjd ?_)))
  rw [Cpr (Bd2 l) hh]
  have hq:(hsX (Bd2 l)).any (fun h=>!Bej h)=!(Bay l).all Bej:=Bi1 Bej _
  rw [hq]
  cases (Bay l).all Bej with
  | false=>exact rfl
  | true=>exact D2m h12 hc
end St
end V
end Go.Proofs.YtcfanlgpkefogaaGreat
namespace Go.Proofs.YtcfanlgpkefogaaGreat
open Go.RowKit
namespace V
namespace St
theorem Bh1 {x lo hi:Int}:inR x lo hi=true ↔ lo≤x∧x≤hi:=by unfold inR;simp only [Bool.and_eq_true,decide_eq_true_eq]
theorem C97 {α:Type} {p:List α} {ok1 ok2:Nat→α→Bool} (ins:α→Bool) (h:∀ (i:Nat) (hi:i<p.length),(∀ o ∈ p.take i,ins o=true)→ok1 i p[i]=ok2 i p[i]) (h1:∀ i x,ok1 i x=true→ins x=true) :
  ∀ (k i:Nat),i+k=p.length→(∀ o ∈ p.take i,ins o=true)→Bfp ok1 i (p.drop i)=Bfp ok2 i (p.drop i)
 | 0,i,hk,_=>by
  rw [List.drop_eq_nil_of_le (by omega)];rfl
 | k+1,i,hk,hp=>by
  have hi:i<p.length:=by omega
  rw [List.drop_eq_getElem_cons hi]
  simp only [Bfp]
  rw [← h i hi hp]
  cases ho:ok1 i p[i] with
  | false=>rfl
  | true =>
   rw [Bool.true_and,Bool.true_and]
   refine C97 ins h h1 k (i+1) (by omega) fun o hm=>?_
   rw [List.take_succ_eq_append_getElem hi,List.mem_append,List.mem_singleton] at hm
   rcases hm with hm | rfl
   ·exact hp o hm
   ·exact h1 i _ ho
theorem C1h {α:Type} {ok:Nat→α→Bool}:∀ (l:List α) (i:Nat),Bfp ok i l=true→∀ x ∈ l,∃ j,ok j x=true
 | y::l,i,h,x,hx=>by
  simp only [Bfp,Bool.and_eq_true] at h
  rcases List.mem_cons.1 hx with rfl | hx
  ·exact ⟨i,h.1⟩
  ·exact C1h l (i+1) h.2 x hx
structure On (d:TCT Bag):Prop where
 x:0≤d.1.1∧d.1.1≤4194304
 y:0≤d.1.2.1∧d.1.2.1≤4194304
 r:1≤d.2.1∧d.2.1≤8192
theorem Cpx {x y r w l:Int} (hw:0≤w∧w≤4194304) (hl:0≤l∧l≤4194304) (hr:1≤r∧r≤8192) (h:(r≤x∧x≤W64 (w-r))∧r≤y∧y≤W64 (l-r)):(0≤x∧x≤4194304)∧0≤y∧y≤4194304:=by
 rw [Bbc (n:=w-r) (by omega) (by omega),Bbc (n:=l-r) (by omega) (by omega)] at h
 omega
theorem Cib {w l:Int} (hw:0≤w∧w≤4194304) (hl:0≤l∧l≤4194304) {d:TCT Bag} (hr:1≤d.2.1∧d.2.1≤8192) (h:Bmq w l d=true):On d:=by
 unfold Bmq at h
 simp only [Bool.and_eq_true,Bh1] at h
 obtain ⟨h1,h2⟩:=Cpx hw hl hr h
 exact ⟨h1,h2,hr⟩
theorem Cic {x y r:Int} (hx:0≤x∧x≤4194304) (hy:0≤y∧y≤4194304) (hr:1≤r∧r≤8192):Bte x y r=0:=by
 unfold Bte Bgp fpt Bb6
 rw [decide_eq_true (show -4194304≤x∧x≤4194304 ∧ -4194304≤y∧y≤4194304 by omega),decide_eq_false (show ¬ r<1 by omega),decide_eq_false (show ¬ 65536<r by omega)]
 rfl
theorem Cid {a b:Int} (ha:0≤a∧a≤4194304) (hb:0≤b∧b≤4194304):W64 (b-a)*W64 (b-a)=W64 (a-b)*W64 (a-b):=by
 rw [Bbc (n:=b-a) (by omega) (by omega),Bbc (n:=a-b) (by omega) (by omega)]
 grind
theorem Cxu {d o:TCT Bag} (hd:On d) (ho:On o):touB d o=Bvm d o:=by
 have e:sqD d o=sqR d o:=by
  unfold sqD sqR
  rw [Cid hd.x ho.x,Cid hd.y ho.y]
 have c1:cdE d=0:=Cic hd.x hd.y hd.r
 have c2:cdE o=0:=Cic ho.x ho.y ho.r
 unfold touB Bvm Ccs
 rw [c1,c2,e]
 show decide (Cpg (sqR d o) (srD d o)<0)=_
 unfold Cpg
 by_cases h:sqR d o<srD d o
 ·rw [decide_eq_true h];rfl
 ·rw [decide_eq_false h,cond_false]
  cases decide (sqR d o>srD d o) <;> rfl
theorem Bll {α:Type} {p q:α→Bool}:∀ {l:List α},(∀ x ∈ l,p x=q x)→l.any p=l.any q
 | [],_=>rfl
 | x::l,h=>by rw [List.any_cons,List.any_cons,h x (List.mem_cons_self ..),Bll fun y hy=>h y (List.mem_cons_of_mem _ hy)]
theorem D2n {w l:Int} (hw:0≤w∧w≤4194304) (hl:0≤l∧l≤4194304) {p:List (TCT Bag)} (hr:∀ d ∈ p,1≤d.2.1∧d.2.1≤8192):apF w l p=apR w l p:=by
 have key:=C97 (p:=p) (ok1:=fun i d=>Bmq w l d&&!(p.take i).any (touB d)) (ok2:=fun i d=>Bmq w l d&&!(p.take i).any (Bvm d)) (Bmq w l)
  (fun i hi hp=>by
   cases hi':Bmq w l p[i] with
   | false=>rfl
   | true =>
    have hd:=Cib hw hl (hr _ (List.getElem_mem hi)) hi'
    rw [Bll fun o ho=>Cxu hd (Cib hw hl (hr o (List.mem_of_mem_take ho)) (hp o ho))])
  (fun i x h=>by simp only [Bool.and_eq_true] at h;exact h.1) p.length 0 (by omega) (fun o ho=>by rw [List.take_zero] at ho;cases ho)
 rw [List.drop_zero] at key
 exact key
theorem D6c {h:TCT Bbm} {d:TCT Bag} (hd:d ∈ w2 h):d.2.1=h.2.2.2.1:=by
 unfold w2 at hd
 cases hb:h.2.2.2.2.1 with
 | true =>
  rw [hb] at hd
  have hd:d ∈ [Bm8 h.1 (W64 (h.2.1-dW h)) h.2.2.2.1,Bm8 h.1 (W64 (h.2.1+dW h)) h.2.2.2.1]:=hd
  rcases List.mem_cons.1 hd with rfl | hd
  ·rfl
  ·rw [List.mem_singleton] at hd;subst hd;rfl
 | false =>
  rw [hb] at hd
  have hd:d ∈ [Bm8 (W64 (h.1-dW h)) h.2.1 h.2.2.2.1,Bm8 (W64 (h.1+dW h)) h.2.1 h.2.2.2.1]:=hd
  rcases List.mem_cons.1 hd with rfl | hd
  ·rfl
  ·rw [List.mem_singleton] at hd;subst hd;rfl
theorem Cpy {l:TCT Bal} (hh:(Bay l).all Bej=true) (hp:inR (Bis l).2.1 1 8192=true):∀ d ∈ Bbn l,1≤d.2.1∧d.2.1≤8192:=by
 intro d hd
 unfold Bbn at hd
 rw [List.mem_append,List.mem_singleton,List.mem_flatMap] at hd
 rcases hd with ⟨h,hm,hd⟩ | rfl
 ·have:=List.all_eq_true.1 hh h hm
  unfold Bej at this
  simp only [Bool.and_eq_true,Bh1] at this
  rw [D6c hd]
  exact this.2.2.2.2
 ·exact Bh1.1 hp
theorem Cie (l:TCT Bal):Cpv l=Bc3 l:=by
 unfold Cpv Bc3
 congr 2
 unfold okR okL
 cases hd:C5o l with
 | false=>rfl
 | true =>
  have hd':=hd
  unfold C5o at hd'
  simp only [Bool.and_eq_true,Bh1] at hd'
  obtain ⟨_,⟨w1,w2'⟩,⟨l1,l2⟩,_⟩:=hd'
  have hw:0≤l.2.1∧l.2.1≤4194304:=⟨Int.le_trans (by decide) w1,w2'⟩
  have hl:0≤l.2.2.1∧l.2.2.1≤4194304:=⟨Int.le_trans (by decide) l1,l2⟩
  unfold Cpu
  cases hh:(Bay l).all Bej with
  | false=>cases inR (Bis l).2.1 1 8192 <;> cases C5p l <;> rfl
  | true =>
   cases hp:inR (Bis l).2.1 1 8192 with
   | false=>rfl
   | true =>
    have hr:=Cpy hh hp
    rw [← D2n hw hl hr]
    cases ha:apF l.2.1 l.2.2.1 (Bbn l) with
    | false=>simp
    | true =>
     obtain ⟨j,hj⟩:=C1h (Bbn l) 0 ha (Bis l) (by unfold Bbn;simp)
     simp only [Bool.and_eq_true] at hj
     have on:=Cib hw hl (Bh1.1 hp) hj.1
     have e1:inR (Bis l).1.1 0 4194304=true:=Bh1.2 on.x
     have e2:inR (Bis l).1.2.1 0 4194304=true:=Bh1.2 on.y
     rw [e1,e2]
     simp
end St
end V
end Go.Proofs.YtcfanlgpkefogaaGreat
namespace Go.Proofs.YtcfanlgpkefogaaGreat
open Go.RowKit
namespace V
namespace St
theorem is_Posts:FnIs Tryz.prog (25,Tryz.f25):=⟨Tryz.func25,by kernel_rfl,by kernel_rfl⟩
def plPs:List (Nat×PureT):=[(75,Bqh),(74,Bjc)]
theorem puPs:Bc7 Tryz.prog plPs:=puOk_cons is_lCheck.plain Bnv (puOk_cons is_lposts.plain Bya (puOk_nil))
def Bgm (l:TCT Bal):List (TCT Bag):=bif Bc3 l==0 then Bbn l else []
abbrev Byh:PureT:=Bbe [Bal] [.sl Bag,cI] (fun x=>decide ((x.1.1.size:Int)≤Bb4 .i64)) (fun x=>(Bgm x.1,Bc3 x.1,()))
abbrev TPs:=Tree (TCTs [.sl Bag,cI])
def szT {β:Type} (l:TCT Bal) (k:Tree β):Tree β:=bif decide ((l.1.size:Int)≤Bb4 .i64) then k else .fail
theorem Bdm {β:Type} {l:TCT Bal} {k:Tree β} (h:(l.1.size:Int)≤Bb4 .i64):szT l k=k:=by unfold szT;rw [decide_eq_true h];rfl
def C98 (l:TCT Bal):TPs:=bif decide ((Bay l).length≤1000) then .leaf (Bbn l,0,()) else .fail
def Cxv (l:TCT Bal):TPs:=szT l (bif Bc3 l != 0 then .leaf ([],Bc3 l,()) else C98 l)
theorem Bnx {l:TCT Bal} (h:Bc3 l=0):(Bay l).length≤12∧1≤(Bay l).length:=by
 unfold Bc3 at h
 cases hm:Bk1 l with
 | true=>rw [hm] at h;cases h
 | false =>
  unfold Bk1 at hm
  simp only [Bool.or_eq_false_iff,decide_eq_false_iff_not] at hm
  omega
theorem Cig {l:TCT Bal} (h:Bc3 l=0):(C98 l).sat (fun y=>y=(Bgm l,Bc3 l,())):=by
 have:=Bnx h
 unfold C98 Bgm
 rw [decide_eq_true (show (Bay l).length≤1000 by omega),h]
 exact rfl
theorem D2o {l:TCT Bal}:(bif Bc3 l != 0 then .leaf ([],Bc3 l,()) else C98 l:TPs).sat (fun y=>y=(Bgm l,Bc3 l,())):=by
 cases h:Bc3 l==0 with
 | true =>
  have h':Bc3 l=0:=by simpa using h
  rw [show (Bc3 l != 0)=false by simp [h']]
  exact Cig h'
 | false =>
  rw [show (Bc3 l != 0)=true by simpa using h]
  unfold Bgm
  rw [h]
  exact rfl
theorem C99:Bai Tryz.prog 25 Byh:=Bbg (Baq Bao puPs (fns_cons is_Posts V1)) 7 (fun x=>Cxv x.1) (fun x=>by kernel_rfl) fun x hok _=>by
 show (Cxv x.1).sat _
 unfold Cxv
 rw [Bdm (of_decide_eq_true hok)]
 exact D2o
end St
end V
end Go.Proofs.YtcfanlgpkefogaaGreat
namespace Go.Proofs.YtcfanlgpkefogaaGreat
open Go.RowKit
namespace V
namespace St
theorem is_CellAt:FnIs Tryz.prog (18,Tryz.f18):=⟨Tryz.func18,by kernel_rfl,by kernel_rfl⟩
theorem is_lchk:FnIs Tryz.prog (57,Tryz.f57):=⟨Tryz.func57,by kernel_rfl,by kernel_rfl⟩
theorem is_lon:FnIs Tryz.prog (58,Tryz.f58):=⟨Tryz.func58,by kernel_rfl,by kernel_rfl⟩
def onB (l:TCT Bal) (p:TCT cPt):Bool:=inR p.1 0 l.2.1&&inR p.2.1 0 l.2.2.1
def Bny (l:TCT Bal) (p:TCT cPt):Int:=W64 (W64 (min (W64 (Int.tdiv (W64 (p.2.1*nyL l)) l.2.2.1)) (W64 (nyL l-1))*nxL l)+min (W64 (Int.tdiv (W64 (p.1*nxL l)) l.2.1)) (W64 (nxL l-1)))
def Cpz (c:TCT Bc1):TCT Bc1:=(c.1,c.2.1,c.2.2.1,())
def zCe:TCT Bc1:=(0,0,0,())
def Byi (l:TCT Bal) (p:TCT cPt):Int:=bif Bc3 l != 0 then Bc3 l else bif fpt p.1 p.2.1 then 0 else 2
def Be0 (l:TCT Bal) (p:TCT cPt):Int:=bif Byi l p != 0 then Byi l p else bif onB l p then 0 else 5
def Bgf (l:TCT Bal) (p:TCT cPt):TCT Bc1:=bif Be0 l p==0 then Cpz (Bas (Bc4 l) (Int.toNat (Bny l p)) (Bap Bc1)) else zCe
abbrev C1i:PureT:=Bbe [Bal,cPt] [Bc1,cI] (fun x=>decide ((x.1.1.size:Int)≤Bb4 .i64)) (fun x=>(((Bgf x.1 x.2.1).1,(Bgf x.1 x.2.1).2.1,(Bgf x.1 x.2.1).2.2.1,()),Be0 x.1 x.2.1,()))
abbrev TCe:=Tree (TCTs [Bc1,cI])
def Bpg (e:Int):TCe:=.leaf (zCe,e,())
def Cih (l:TCT Bal) (p:TCT cPt):TCe:=bif l.2.1 != 0 then bif l.2.2.1 != 0 then bif decide (0≤Bny l p∧Bny l p<((Bc4 l).length:Int)) then .leaf (Cpz (Bas (Bc4 l) (Int.toNat (Bny l p)) (Bap Bc1)),0,()) else .fail else .fail else .fail
def Bwq (l:TCT Bal) (p:TCT cPt):TCe:=bif inR p.1 0 l.2.1 then bif !inR p.2.1 0 l.2.2.1 then Bpg 5 else Cih l p else Bpg 5
def Cq0 (l:TCT Bal) (p:TCT cPt):TCe:=szT l (bif Bc3 l != 0 then bif Bc3 l != 0 then Bpg (Bc3 l) else Bwq l p else bif Bfs p.1 p.2.1 != 0 then Bpg 2 else Bwq l p)
theorem Cq1 (x:TCTs [Bal,cPt]):Bcx (Cez 2 Tryz.prog ((43,Bi3)::(105,s_inR)::plPs) [(18,Tryz.f18),(57,Tryz.f57),(58,Tryz.f58)]) 7 (.fn 18) (Bdi [Bal,cPt] x) Bbx 0 (Bgt Tryz.prog [Bc1,cI])=Cq0 x.1 x.2.1:=by kernel_rfl
theorem C9a {a b c d:Int} (h0:0≤a) (h1:a≤c) (h2:0≤b) (h3:b≤d):a*b≤c*d:=Int.mul_le_mul h1 h3 h2 (by omega)
theorem C1j {y ny l:Int} (hl:1≤l∧l≤4194304) (hy:0≤y∧y≤l) (hn:1≤ny∧ny≤16):0≤min (W64 (Int.tdiv (W64 (y*ny)) l)) (W64 (ny-1))∧min (W64 (Int.tdiv (W64 (y*ny)) l)) (W64 (ny-1))≤ny-1:=by
 have h1:0≤y*ny:=Int.mul_nonneg hy.1 (by omega)
 have h2:y*ny≤4194304*16:=C9a hy.1 (by omega) (by omega) hn.2
 rw [Bbc (n:=y*ny) (by omega) (by omega),Int.tdiv_eq_ediv_of_nonneg h1]
 have h3:=Int.ediv_nonneg h1 (show 0≤l by omega)
 have h4:=Int.ediv_le_self l h1
 rw [Bbc (n:=y*ny / l) (by omega) (by omega),Bbc (n:=ny-1) (by omega) (by omega)]
 omega
theorem Cii {i k nx ny:Int} (hx:1≤nx∧nx≤16) (hy:1≤ny∧ny≤16) (hi:0≤i∧i≤nx-1) (hk:0≤k∧k≤ny-1):0≤W64 (W64 (k*nx)+i)∧W64 (W64 (k*nx)+i)<W64 (nx*ny):=by
 have h1:0≤k*nx:=Int.mul_nonneg hk.1 (by omega)
 have h2:k*nx≤(ny-1)*nx:=Int.mul_le_mul_of_nonneg_right hk.2 (by omega)
 have h3:nx*ny≤16*16:=C9a (by omega) hx.2 (by omega) hy.2
 have h4:(ny-1)*nx=nx*ny-nx:=by grind
 rw [Bbc (n:=k*nx) (by omega) (by omega),Bbc (n:=k*nx+i) (by omega) (by omega),Bbc (n:=nx*ny) (by omega) (by omega)]
 omega
structure LawOk (l:TCT Bal):Prop where
 w:65536≤l.2.1∧l.2.1≤4194304
 lg:65536≤l.2.2.1∧l.2.2.1≤4194304
 nx:1≤nxL l∧nxL l≤16
 ny:1≤nyL l∧nyL l≤16
 n:((Bc4 l).length:Int)=W64 (nxL l*nyL l)
 hs:(Bay l).all Bej=true
 cs:(Bc4 l).all Bf9=true
 ap:apF l.2.1 l.2.2.1 (Bbn l)=true
 hn:1≤(Bay l).length∧(Bay l).length≤12
theorem C5t {l:TCT Bal} (h:Bc3 l=0):LawOk l:=by
 have hn:=Bnx h
 unfold Bc3 at h
 cases hm:Bk1 l with
 | true=>rw [hm] at h;cases h
 | false =>
  rw [hm,cond_false] at h
  cases ho:okL l with
  | false=>rw [ho] at h;cases h
  | true =>
   unfold okL C5o C5p at ho
   simp only [Bool.and_eq_true,Bh1,Bool.not_eq_true',decide_eq_false_iff_not,bne_eq_false_iff_eq] at ho
   obtain ⟨⟨_,hw,hl,_⟩,hp,⟨n1,n2,n3,n4,n5⟩,h1,h2,h3⟩:=ho
   exact ⟨hw,hl,⟨Int.not_lt.1 n1,Int.not_lt.1 n2⟩,⟨Int.not_lt.1 n3,Int.not_lt.1 n4⟩,n5,h1,h2,h3,hn.2,hn.1⟩
theorem Cij {l:TCT Bal} {p:TCT cPt} (h:Bc3 l=0) (ho:onB l p=true):Cih l p=.leaf (Cpz (Bas (Bc4 l) (Int.toNat (Bny l p)) (Bap Bc1)),0,()):=by
 have k:=C5t h
 unfold onB at ho
 simp only [Bool.and_eq_true,Bh1] at ho
 have hw:1≤l.2.1∧l.2.1≤4194304:=⟨Int.le_trans (by decide) k.w.1,k.w.2⟩
 have hl:1≤l.2.2.1∧l.2.2.1≤4194304:=⟨Int.le_trans (by decide) k.lg.1,k.lg.2⟩
 have hc:=Cii k.nx k.ny (C1j hw ho.1 k.nx) (C1j hl ho.2 k.ny)
 rw [← k.n] at hc
 have e1:(l.2.1 != 0)=true:=by
  rw [bne_iff_ne];intro e;rw [e] at hw;exact absurd hw.1 (by decide)
 have e2:(l.2.2.1 != 0)=true:=by
  rw [bne_iff_ne];intro e;rw [e] at hl;exact absurd hl.1 (by decide)
 unfold Cih
 rw [e1,e2,decide_eq_true (show 0≤Bny l p∧Bny l p<((Bc4 l).length:Int) from hc)]
 rfl
theorem Cik {l:TCT Bal} {p:TCT cPt} (h:Bc3 l=0):Bwq l p=bif onB l p then .leaf (Cpz (Bas (Bc4 l) (Int.toNat (Bny l p)) (Bap Bc1)),0,()) else Bpg 5:=by
 cases ho:onB l p with
 | true =>
  have:=Cij h ho
  unfold Bwq
  unfold onB at ho
  simp only [Bool.and_eq_true] at ho
  rw [ho.1,ho.2,this]
  rfl
 | false =>
  unfold Bwq
  unfold onB at ho
  cases h1:inR p.1 0 l.2.1 with
  | false=>rfl
  | true =>
   rw [h1,Bool.true_and] at ho
   rw [ho]
   rfl
def C5u (l:TCT Bal) (p:TCT cPt):TCTs [Bc1,cI]:=(((Bgf l p).1,(Bgf l p).2.1,(Bgf l p).2.2.1,()),Be0 l p,())
theorem Cxw {l:TCT Bal} {p:TCT cPt}:(bif Byi l p != 0 then Bpg (Byi l p) else Bwq l p:TCe).sat (fun y=>y=C5u l p):=by
 unfold C5u Bgf Be0
 cases h1:Byi l p != 0 with
 | true =>
  have hne:(Byi l p==0)=false:=by
   rw [bne_iff_ne] at h1
   exact beq_eq_false_iff_ne.2 h1
  simp only [cond_true]
  rw [hne]
  exact rfl
 | false =>
  have hl:Bc3 l=0:=by
   unfold Byi at h1
   cases h2:Bc3 l != 0 with
   | true=>rw [h2,cond_true] at h1;rw [h2] at h1;cases h1
   | false=>exact bne_eq_false_iff_eq.1 h2
  simp only [cond_false]
  rw [Cik hl]
  cases onB l p <;> exact rfl
theorem C9b (x y:Int):(Bfs x y != 0)=!fpt x y:=by unfold Bfs;cases fpt x y <;> rfl
def plCe:List (Nat×PureT):=(43,Bi3)::(105,s_inR)::plPs
theorem puCe:Bc7 Tryz.prog plCe:=puOk_cons is_tChk.plain Bjh (puOk_cons is_between2.plain q_between2 puPs)
theorem Cq2 {l:TCT Bal} {p:TCT cPt} (hs:(l.1.size:Int)≤Bb4 .i64):(Cq0 l p).sat (fun y=>y=C5u l p):=by
 have key:=Cxw (l:=l) (p:=p)
 unfold Cq0
 rw [Bdm hs,C9b]
 unfold Byi at key
 cases h:Bc3 l != 0 with
 | true =>
  rw [h] at key
  simp only [cond_true] at key ⊢
  rw [h] at key
  exact key
 | false =>
  rw [h] at key
  simp only [cond_false] at key ⊢
  cases hf:fpt p.1 p.2.1 with
  | true=>rw [hf] at key;exact key
  | false=>rw [hf] at key;exact key
theorem Cil:Bai Tryz.prog 18 C1i:=Bbg (Bp7 (u:=2) Bao puCe (fns_cons is_CellAt (fns_cons is_lchk (fns_cons is_lon V1)))) 7 (fun x=>Cq0 x.1 x.2.1) Cq1 fun x hok _=>Cq2 (of_decide_eq_true hok)
end St
end V
end Go.Proofs.YtcfanlgpkefogaaGreat
namespace Go.Proofs.YtcfanlgpkefogaaGreat
open Go.RowKit
namespace V
namespace St
theorem is_cGround:FnIs Tryz.prog (78,Tryz.f78):=⟨Tryz.func78,by kernel_rfl,by kernel_rfl⟩
def No (g:TCT cGr):List (TCT Fq):=g.2.1
def okG (g:TCT cGr):Bool:=(No g).all Bfo&&Bdo g.2.2.1.1 g.2.2.1.2.1
def groE (g:TCT cGr):Int:=bif Bc3 g.1 != 0 then Bc3 g.1 else bif decide (((No g).length:Int)<1)||decide (((No g).length:Int)>8) then 6 else bif okG g then 0 else 2
abbrev Cq3:PureT:=Bbe [cGr] [cI] (fun x=>decide ((x.1.1.1.size:Int)≤Bb4 .i64)) (fun x=>(groE x.1,()))
def plG:List (Nat×PureT):=[(75,Bqh),(126,Bdv),(123,C0w)]
theorem puG:Bc7 Tryz.prog plG:=puOk_cons is_lCheck.plain Bnv (puOk_cons is_CheckBounce.plain Bin (puOk_cons is_cfBall.plain Ch0 (puOk_nil)))
def Cim (g:TCT cGr):TEr:=bif okE (Bdo g.2.2.1.1 g.2.2.1.2.1)!=0 then .leaf (2,()) else .leaf (0,())
def T_G (g:TCT cGr):TEr:=szT g.1 (bif Bc3 g.1 != 0 then .leaf (Bc3 g.1,()) else er (decide (((No g).length:Int)<1)) 6 (er (decide (((No g).length:Int)>8)) 6 (er ((No g).any (Bd1 ())) 2 (Cim g))))
theorem Cxx (x:TCTs [cGr]):Bcx (ctx Tryz.prog plG [(78,Tryz.f78)]) 7 (.fn 78) (Bdi [cGr] x) Bbx 0 (Bgt Tryz.prog [cI])=T_G x.1:=by kernel_rfl
theorem Cxy {g:TCT cGr} (hs:(g.1.1.size:Int)≤Bb4 .i64):(T_G g).sat (fun y=>y=(groE g,())):=by
 unfold T_G groE okG Cim
 have hq:(No g).any (Bd1 ())=!(No g).all Bfo:=Bi1 Bfo _
 rw [Bdm hs,hq,Bs5,← Bk3]
 cases Bc3 g.1 != 0 with
 | true=>exact rfl
 | false =>
  simp only [cond_false]
  cases decide (((No g).length:Int)<1)||decide (((No g).length:Int)>8) with
  | true=>exact rfl
  | false=>cases (No g).all Bfo <;> cases Bdo g.2.2.1.1 g.2.2.1.2.1 <;> exact rfl
theorem D6d:Bai Tryz.prog 78 Cq3:=Bbg (Baq Bao puG (fns_cons is_cGround V1)) 7 (fun x=>T_G x.1) Cxx fun x hok _=>Cxy (of_decide_eq_true hok)
abbrev kGr:List SK:=[.d .s,.d cI,.d cI,.d cI,.d (.sl Bbm),.d cI,.d cI,.d cI,.d cI,.d cI,.d (.sl Bc1),.d (.sl Fq),.d cI,.d cI]
def Cq4 (x:SKTs kGr):TCT cGr:=((x.1,x.2.1,x.2.2.1,x.2.2.2.1,x.2.2.2.2.1,((x.2.2.2.2.2.1,x.2.2.2.2.2.2.1,()),x.2.2.2.2.2.2.2.1,()),x.2.2.2.2.2.2.2.2.1,x.2.2.2.2.2.2.2.2.2.1,x.2.2.2.2.2.2.2.2.2.2.1,()),x.2.2.2.2.2.2.2.2.2.2.2.1,(x.2.2.2.2.2.2.2.2.2.2.2.2.1,x.2.2.2.2.2.2.2.2.2.2.2.2.2.1,()),())
def Bds (g:TCT cGr):SKTs kGr:=(g.1.1,g.1.2.1,g.1.2.2.1,g.1.2.2.2.1,g.1.2.2.2.2.1,g.1.2.2.2.2.2.1.1.1,g.1.2.2.2.2.2.1.1.2.1,g.1.2.2.2.2.2.1.2.1,g.1.2.2.2.2.2.2.1,g.1.2.2.2.2.2.2.2.1,g.1.2.2.2.2.2.2.2.2.1,g.2.1,g.2.2.1.1,g.2.2.1.2.1,())
def C5v:Lay:={ keys:=[1,3],ks:=[.p 0 0 0 0,.d cI],bs:=[(0,41,kGr)],n:=39,nx:=1000,marks:=[] }
def D6e:Lay:={ keys:=[1],ks:=[.p 0 0 0 0],bs:=[(0,41,kGr)],n:=39,nx:=1000,marks:=[] }
def D2q:Lay:={ keys:=[2],ks:=[.d cI],bs:=[],n:=39,nx:=1000,marks:=[] }
def C5w:XE→Lay:=fun e=>match e with | .ret=>D2q | _=>D6e
def Cin (x:SKTs kGr) (i:Int):C5v.T:=(((),i,()),(x,()))
def Cio:V2 C5w:=⟨.ret,((2,()),())⟩
def Cip (x:SKTs kGr):V2 C5w:=⟨.exit 0,(((),()),(x,()))⟩
def blX (x:SKTs kGr):List (TCT Fq):=x.2.2.2.2.2.2.2.2.2.2.2.1
def C9c (b:TCT Fq):Bool:=okE (Bgv b.1 b.2.1)!=0
def C9d (g:C5v.T):Tree (C5v.T⊕V2 C5w):=bif decide (g.1.2.1<((blX g.2.1).length:Int)) then bif decide (0≤g.1.2.1∧g.1.2.1<((blX g.2.1).length:Int)) then
 bif C9c (Bas (blX g.2.1) (Int.toNat g.1.2.1) (Bap Fq)) then .leaf (.inr Cio) else .leaf (.inl (Cin g.2.1 (W64 (g.1.2.1+1)))) else .fail else .leaf (.inr (Cip g.2.1))
def Ciq (g:C5v.T):Nat:=(blX g.2.1).length+1
def Cir (x:SKTs kGr):Option (V2 C5w):=iter C9d ((blX x).length+1) (Cin x 0)
def Cq6 (g:TCT cGr):TEr:=szT g.1 (bif Bc3 g.1 != 0 then szT g.1 (.leaf (Bc3 g.1,())) else er (decide (((No g).length:Int)<1)) 6 (er (decide (((No g).length:Int)>8)) 6 (
 bif isE .ret (Cir (Bds g)) then .leaf ((Bcg .ret (Cir (Bds g))).1.1,()) else bif isE (.exit 0) (Cir (Bds g)) then Cim (Cq4 (Bcg (.exit 0) (Cir (Bds g))).2.1) else .fail)))
theorem Cq8 {g:TCT cGr} (hs:(g.1.1.size:Int)≤Bb4 .i64) (hb:((No g).length:Int)≤Bb4 .i64):(Cq6 g).sat (fun y=>y=(groE g,())):=by
 have hy:Cir (Bds g)=some (bif (blX (Bds g)).any C9c then Cio else Cip (Bds g)):=Bki (blX (Bds g)) (Bap Fq) (Cin (Bds g)) C9c Cio (Cip (Bds g)) hb (fun _=>rfl)
 have hq:(blX (Bds g)).any C9c=!(No g).all Bfo:=by
  rw [← Bi1 Bfo]
  exact Bll fun b _=>Bs5 _
 rw [hq] at hy
 unfold Cq6 groE okG
 rw [Bdm hs,Bdm hs,hy,← Bk3]
 cases Bc3 g.1 != 0 with
 | true=>exact rfl
 | false =>
  simp only [cond_false]
  cases decide (((No g).length:Int)<1)||decide (((No g).length:Int)>8) with
  | true=>exact rfl
  | false =>
   cases (No g).all Bfo with
   | false=>exact rfl
   | true =>
    show (Cim g).sat _
    unfold Cim
    rw [Bs5]
    cases Bdo g.2.2.1.1 g.2.2.1.2.1 <;> exact rfl
end St
end V
end Go.Proofs.YtcfanlgpkefogaaGreat
namespace Go.Proofs.YtcfanlgpkefogaaGreat
open Go.RowKit
namespace V
namespace St
theorem is_sOn:FnIs Tryz.prog (79,Tryz.f79):=⟨Tryz.func79,by kernel_rfl,by kernel_rfl⟩
abbrev C1k:PureT:=Bbe [Bal,cPt] [.b] (fun _=>true) (fun x=>(onB x.1 x.2.1,()))
def D2t (l:TCT Bal) (p:TCT cPt):TBo:=Bnm (decide (0≤p.1)) (Bnm (decide (p.1≤l.2.1)) (Bnm (decide (0≤p.2.1)) (.leaf (decide (p.2.1≤l.2.2.1),()))))
theorem Cxz (l:TCT Bal) (p:TCT cPt):onB l p=(decide (0≤p.1)&&(decide (p.1≤l.2.1)&&(decide (0≤p.2.1)&&decide (p.2.1≤l.2.2.1)))):=by
 unfold onB inR
 simp only [Bool.and_assoc]
theorem Cva:Bai Tryz.prog 79 C1k:=Bbg (Baq Bao puOk_nil (fns_cons is_sOn V1)) 4 (fun x=>D2t x.1 x.2.1) (fun x=>by kernel_rfl) fun x _ _=>by
 show (D2t x.1 x.2.1).sat (fun y=>y=(onB x.1 x.2.1,()))
 rw [Cxz]
 exact Bes (Bes (Bes (Bwa _)))
end St
end V
end Go.Proofs.YtcfanlgpkefogaaGreat
namespace Go.Proofs.YtcfanlgpkefogaaGreat
open Go.RowKit
namespace V
namespace St
theorem is_cState:FnIs Tryz.prog (42,Tryz.f42):=⟨Tryz.func42,by kernel_rfl,by kernel_rfl⟩
abbrev kSt:List SK:=[.d (.sl Baw),.d (.sl .b),.d cI,.d cI,.d cI]
abbrev bsS:List BK:=[(0,41,kGr),(1,45,kSt)]
def plS1:List (Nat×PureT):=[(78,Cq3),(55,Bel),(79,C1k)]
theorem puS1:Bc7 Tryz.prog plS1:=puOk_cons is_cGround.plain D6d (puOk_cons is_CheckMotion.plain Bmd (puOk_cons is_sOn.plain Cva (puOk_nil)))
def inN {β:Type} (n:Nat) (i:Int) (k:Tree β):Tree β:=bif decide (0≤i∧i<(n:Int)) then k else .fail
theorem Bde {β:Type} {n:Nat} {i:Int} {k:Tree β} (h:0≤i∧i<(n:Int)):inN n i k=k:=by unfold inN;rw [decide_eq_true h];rfl
def Bje (b:TCT Fq) (m:TCT Baw):Bool:=Bmz b.1 b.2.1 m.1.1 m.1.2.1 m.2.1.1 m.2.1.2.1 m.2.2.1.1 m.2.2.1.2.1
def atM (m:TCT Baw):TCT cPt:=(m.1.1,m.1.2.1,())
def C5x {β:Type} (no:Nat) (i:Int) (o:Bool) (m:TCT Baw) (rt nx:Tree β):Tree β:=inN no i (bif o then bif !(m.2.1.1==0&&(m.2.1.2.1==0&&true)) then rt else nx else nx)
def Bsg {β:Type} (nb no:Nat) (i:Int) (l:TCT Bal) (b:TCT Fq) (o:Bool) (m:TCT Baw) (rt nx:Tree β):Tree β :=
 inN nb i (bif okE (Bje b m)!=0 then rt else inN no i (bif !o then bif !onB l (atM m) then rt else C5x no i o m rt nx else C5x no i o m rt nx))
def lwG (x:SKTs kGr):TCT Bal:=(Cq4 x).1
noncomputable def D2v:Code:=(Ban (bodyOf Tryz.f42)).getD 0 .skip
def C1l:Lay:={ keys:=[2,3,30,31,32],ks:=[.p 0 0 0 0,.p 1 0 0 0,.d (.sl Baw),.d cI,.d cI],bs:=bsS,n:=106,nx:=1000,marks:=[] }
def D6g:Lay:={ keys:=[2,3],ks:=[.p 0 0 0 0,.p 1 0 0 0],bs:=bsS,n:=106,nx:=1000,marks:=[] }
def D2w:Lay:={ keys:=[4],ks:=[.d cI],bs:=[],n:=106,nx:=1000,marks:=[] }
def Byj:XE→Lay:=fun e=>match e with | .ret=>D2w | _=>D6g
def C9e (x:SKTs kGr) (s:SKTs kSt) (m:List (TCT Baw)) (n i:Int):C1l.T:=(((),(),m,n,i,()),(x,s,()))
def C9f:V2 Byj:=⟨.ret,((2,()),())⟩
def Cis (x:SKTs kGr) (s:SKTs kSt):V2 Byj:=⟨.exit 0,(((),(),()),(x,s,()))⟩
def otS (s:SKTs kSt):List Bool:=s.2.1
def C9g (g:C1l.T):Tree (C1l.T⊕V2 Byj):=bif decide (g.1.2.2.2.2.1<g.1.2.2.2.1) then bif decide (0≤g.1.2.2.2.2.1∧g.1.2.2.2.2.1<((g.1.2.2.1:List (TCT Baw)).length:Int)) then
 Bsg (blX g.2.1).length (otS g.2.2.1).length g.1.2.2.2.2.1 (lwG g.2.1) (Bas (blX g.2.1) (Int.toNat g.1.2.2.2.2.1) (Bap Fq)) (Bas (otS g.2.2.1) (Int.toNat g.1.2.2.2.2.1) (Bap .b)) (Bas g.1.2.2.1 (Int.toNat g.1.2.2.2.2.1) (Bap Baw))
  (.leaf (.inr C9f)) (.leaf (.inl (C9e g.2.1 g.2.2.1 g.1.2.2.1 g.1.2.2.2.1 (W64 (g.1.2.2.2.2.1+1))))) else .fail else .leaf (.inr (Cis g.2.1 g.2.2.1))
def Cit (g:C1l.T):Nat:=(g.1.2.2.1:List (TCT Baw)).length+1
theorem D6h:Bb0 Tryz.prog 42 D2v (Baz C1l Byj (Bdg [.ret,.exit 0] C9g Cit)):=Bbl (Baq Bao puS1 V1) 7 _ C1l Byj (fun e=>by cases e <;> exact Nat.le_refl _) [.ret,.exit 0] C9g Cit (fun g=>by kernel_rfl)
end St
end V
end Go.Proofs.YtcfanlgpkefogaaGreat
namespace Go.Proofs.YtcfanlgpkefogaaGreat
open Go.RowKit
namespace V
namespace St
def Byk:Lay:={ keys:=[2,3,5],ks:=[.p 0 0 0 0,.p 1 0 0 0,.d cI],bs:=bsS,n:=103,nx:=1000,marks:=[] }
def D6i:Lay:={ keys:=[2,3],ks:=[.p 0 0 0 0,.p 1 0 0 0],bs:=bsS,n:=103,nx:=1000,marks:=[] }
def D2y:Lay:={ keys:=[4],ks:=[.d cI],bs:=[],n:=103,nx:=1000,marks:=[] }
def Bvn:XE→Lay:=fun e=>match e with | .ret=>D2y | _=>D6i
def C1m (x:SKTs kGr) (s:SKTs kSt) (i:Int):Byk.T:=(((),(),i,()),(x,s,()))
def C1n:V2 Bvn:=⟨.ret,((2,()),())⟩
def C9h (x:SKTs kGr) (s:SKTs kSt):V2 Bvn:=⟨.exit 0,(((),(),()),(x,s,()))⟩
def msS (s:SKTs kSt):List (TCT Baw):=s.1
def C9i (g:Byk.T):Tree (Byk.T⊕V2 Bvn):=bif decide (g.1.2.2.1<((blX g.2.1).length:Int)) then inN (msS g.2.2.1).length g.1.2.2.1 (
 Bsg (blX g.2.1).length (otS g.2.2.1).length g.1.2.2.1 (lwG g.2.1) (Bas (blX g.2.1) (Int.toNat g.1.2.2.1) (Bap Fq)) (Bas (otS g.2.2.1) (Int.toNat g.1.2.2.1) (Bap .b)) (Bas (msS g.2.2.1) (Int.toNat g.1.2.2.1) (Bap Baw))
  (.leaf (.inr C1n)) (.leaf (.inl (C1m g.2.1 g.2.2.1 (W64 (g.1.2.2.1+1)))))) else .leaf (.inr (C9h g.2.1 g.2.2.1))
def Ciu (g:Byk.T):Nat:=(blX g.2.1).length+1
end St
end V
end Go.Proofs.YtcfanlgpkefogaaGreat
namespace Go.Proofs.YtcfanlgpkefogaaGreat
open Go.RowKit
namespace V
namespace St
def Bnz (s:TCT cSt):SKTs kSt:=(s.1,s.2.1,s.2.2.1,s.2.2.2.1,s.2.2.2.2.1,())
def C1o (s:SKTs kSt):TCT cSt:=(s.1,s.2.1,s.2.2.1,s.2.2.2.1,s.2.2.2.2.1,())
def msT (s:TCT cSt):List (TCT Baw):=s.1
def osT (s:TCT cSt):List Bool:=s.2.1
def okO (l:TCT Bal) (b:TCT Fq) (o:Bool) (m:TCT Baw):Bool:=Bje b m&&(bif o then m.2.1.1==0&&(m.2.1.2.1==0&&true) else onB l (atM m))
def okS (g:TCT cGr) (os:List Bool) (i:Nat) (m:TCT Baw):Bool:=okO g.1 (Bas (No g) i (Bap Fq)) (Bas os i (Bap .b)) m
theorem Bwr {G E:Type} {nb no:Nat} {i:Int} {l:TCT Bal} {b:TCT Fq} {o:Bool} {m:TCT Baw} {rt:E} {nx:G} (h1:0≤i∧i<(nb:Int)) (h2:0≤i∧i<(no:Int)) :
  (Bsg nb no i l b o m (.leaf (.inr rt)) (.leaf (.inl nx)):Tree (G⊕E)).run=some (bif okO l b o m then .inl nx else .inr rt):=by
 unfold Bsg C5x okO
 rw [Bde h1,Bs5,Bde h2,Bde h2]
 cases Bje b m with
 | false=>rfl
 | true =>
  cases o with
  | false=>cases onB l (atM m) <;> rfl
  | true=>cases m.2.1.1==0&&(m.2.1.2.1==0&&true) <;> rfl
def D2z (g:TCT cGr) (s:TCT cSt):Option (V2 Byj):=iter C9g ((msT s).length+1) (C9e (Bds g) (Bnz s) s.1 (msT s).length 0)
def Cy0 (g:TCT cGr) (s:TCT cSt):Option (V2 Bvn):=iter C9i ((No g).length+1) (C1m (Bds g) (Bnz s) 0)
theorem Cq9 {g:TCT cGr} {s:TCT cSt} (h1:(msT s).length=(No g).length) (h2:(osT s).length=(No g).length) (hm:((msT s).length:Int)≤Bb4 .i64) :
  D2z g s=some (bif Bfp (okS g (osT s)) 0 (msT s) then Cis (Bds g) (Bnz s) else C9f):=by
 refine Bse (msT s) (Bap Baw) (fun i=>C9e (Bds g) (Bnz s) s.1 (msT s).length i) (okS g (osT s))
  (fun i m=>Bsg (No g).length (osT s).length i g.1 (Bas (No g) (Int.toNat i) (Bap Fq)) (Bas (osT s) (Int.toNat i) (Bap .b)) m (.leaf (.inr C9f)) (.leaf (.inl (C9e (Bds g) (Bnz s) s.1 (msT s).length (W64 (i+1))))):Int→TCT Baw→Tree (C1l.T⊕V2 Byj)) C9f (Cis (Bds g) (Bnz s)) hm (fun i=>rfl) fun i hi=>?_
 rw [Bwr (by omega) (by omega),show Int.toNat (i:Int)=i from rfl,Bdd hi hm]
 rfl
theorem Cqa {g:TCT cGr} {s:TCT cSt} (h1:(msT s).length=(No g).length) (h2:(osT s).length=(No g).length) (hm:((msT s).length:Int)≤Bb4 .i64) :
  Cy0 g s=some (bif Bfp (okS g (osT s)) 0 (msT s) then C9h (Bds g) (Bnz s) else C1n):=by
 unfold Cy0
 rw [← h1]
 refine Bse (msT s) (Bap Baw) (fun i=>C1m (Bds g) (Bnz s) i) (okS g (osT s))
  (fun i m=>Bsg (No g).length (osT s).length i g.1 (Bas (No g) (Int.toNat i) (Bap Fq)) (Bas (osT s) (Int.toNat i) (Bap .b)) m (.leaf (.inr C1n)) (.leaf (.inl (C1m (Bds g) (Bnz s) (W64 (i+1))))):Int→TCT Baw→Tree (Byk.T⊕V2 Bvn)) C1n (C9h (Bds g) (Bnz s)) hm (fun i=>?_) fun i hi=>?_
 ·show (bif decide (i<((No g).length:Int)) then inN (msT s).length i (Bsg (No g).length (osT s).length i g.1 (Bas (No g) (Int.toNat i) (Bap Fq)) (Bas (osT s) (Int.toNat i) (Bap .b)) (Bas (msT s) (Int.toNat i) (Bap Baw)) (.leaf (.inr C1n)) (.leaf (.inl (C1m (Bds g) (Bnz s) (W64 (i+1)))))) else .leaf (.inr (C9h (Bds g) (Bnz s))):Tree (Byk.T⊕V2 Bvn))=_
  rw [← h1]
  rfl
 ·rw [Bwr (by omega) (by omega),show Int.toNat (i:Int)=i from rfl,Bdd hi hm]
  rfl
def Byl (n:Int) (s:TCT cSt):Bool:=decide (s.2.2.1<0)||(decide (s.2.2.1≥n)||(decide (s.2.2.2.1<0)||(decide (s.2.2.2.1>8)||(decide (s.2.2.2.2.1<0)||decide (s.2.2.2.2.1>4000)))))
def Bvo (g:TCT cGr) (s:TCT cSt):Bool:=(((msT s).length:Int)==((No g).length:Int))&&(((osT s).length:Int)==((No g).length:Int))
def vaE (g:TCT cGr) (s:TCT cSt):Int:=bif Bvo g s then bif Bfp (okS g (osT s)) 0 (msT s) then bif Byl (No g).length s then 2 else 0 else 2 else 17
def Bij (g:TCT cGr) (s:TCT cSt):Int:=bif groE g != 0 then groE g else vaE g s
abbrev D30:PureT:=Bbe [cGr,cSt] [cI] (fun _=>true) (fun x=>(vaE x.1 x.2.1,()))
abbrev C9j:PureT:=Bbe [cGr,cSt] [cI] (fun x=>decide ((x.1.1.1.size:Int)≤Bb4 .i64)) (fun x=>(Bij x.1 x.2.1,()))
end St
end V
end Go.Proofs.YtcfanlgpkefogaaGreat
namespace Go.Proofs.YtcfanlgpkefogaaGreat
open Go.RowKit
namespace V
namespace St
def Civ (n:Int) (s:TCT cSt):TEr:=er (decide (s.2.2.1<0)) 2 (er (decide (s.2.2.1≥n)) 2 (er (decide (s.2.2.2.1<0)) 2 (er (decide (s.2.2.2.1>8)) 2 (er (decide (s.2.2.2.2.1<0)) 2 (er (decide (s.2.2.2.2.1>4000)) 2 (.leaf (0,())))))))
theorem Cqb (n:Int) (s:TCT cSt):Civ n s=er (Byl n s) 2 (.leaf (0,())):=by
 unfold Civ Byl
 rw [Bk3,Bk3,Bk3,Bk3,Bk3]
def Ciw (g:TCT cGr) (s:TCT cSt) (k:TEr):TEr:=er (((msT s).length:Int)!=((No g).length:Int)) 17 (er (((osT s).length:Int)!=((No g).length:Int)) 17 k)
theorem Cqc (g:TCT cGr) (s:TCT cSt) (k:TEr):Ciw g s k=er (!Bvo g s) 17 k:=by
 unfold Ciw Bvo
 rw [← Bk3]
 congr 1
 cases h1:((msT s).length:Int)==((No g).length:Int) <;> cases h2:((osT s).length:Int)==((No g).length:Int) <;> simp [bne,h1,h2]
theorem Bsh {g:TCT cGr} {s:TCT cSt} (h:Bvo g s=true):(msT s).length=(No g).length∧(osT s).length=(No g).length:=by
 unfold Bvo at h
 simp only [Bool.and_eq_true,beq_iff_eq] at h
 omega
def D6k (g:TCT cGr) (y:Option (V2 Byj)):TEr:=bif isE .ret y then .leaf ((Bcg .ret y).1.1,()) else bif isE (.exit 0) y then Civ (blX (Bcg (.exit 0) y).2.1).length (C1o (Bcg (.exit 0) y).2.2.1) else .fail
def D6l (g:TCT cGr) (y:Option (V2 Bvn)):TEr:=bif isE .ret y then .leaf ((Bcg .ret y).1.1,()) else bif isE (.exit 0) y then Civ (blX (Bcg (.exit 0) y).2.1).length (C1o (Bcg (.exit 0) y).2.2.1) else .fail
def Cy1 (g:TCT cGr) (s:TCT cSt):TEr:=szT g.1 (bif groE g != 0 then .leaf (groE g,()) else Ciw g s (D6k g (D2z g s)))
def Cy2 (g:TCT cGr) (s:TCT cSt):TEr:=Ciw g s (D6l g (Cy0 g s))
theorem Cix {g:TCT cGr} {s:TCT cSt} {k:TEr} (h:Bvo g s=true→k=bif Bfp (okS g (osT s)) 0 (msT s) then Civ (No g).length s else .leaf (2,())):(Ciw g s k).sat (fun y=>y=(vaE g s,())):=by
 rw [Cqc]
 unfold vaE
 cases he:Bvo g s with
 | false=>exact rfl
 | true =>
  rw [h he]
  cases Bfp (okS g (osT s)) 0 (msT s) with
  | false=>exact rfl
  | true =>
   simp only [Bool.not_true,cond_true]
   rw [Cqb]
   cases Byl (No g).length s <;> exact rfl
theorem Cqd {g:TCT cGr} {s:TCT cSt} (hs:(g.1.1.size:Int)≤Bb4 .i64) (hm:((msT s).length:Int)≤Bb4 .i64):(Cy1 g s).sat (fun y=>y=(Bij g s,())):=by
 unfold Cy1 Bij
 rw [Bdm hs]
 cases groE g != 0 with
 | true=>exact rfl
 | false =>
  simp only [cond_false]
  refine Cix fun he=>?_
  obtain ⟨h1,h2⟩:=Bsh he
  rw [Cq9 h1 h2 hm]
  cases Bfp (okS g (osT s)) 0 (msT s) <;> rfl
theorem Cqe {g:TCT cGr} {s:TCT cSt} (hm:((msT s).length:Int)≤Bb4 .i64):(Cy2 g s).sat (fun y=>y=(vaE g s,())):=by
 unfold Cy2
 refine Cix fun he=>?_
 obtain ⟨h1,h2⟩:=Bsh he
 rw [Cqa h1 h2 hm]
 cases Bfp (okS g (osT s)) 0 (msT s) <;> rfl
noncomputable def D6m:Ctx:=Bh4 Tryz.prog plS1 [(42,Tryz.f42)] [((42,7),Baz C1l Byj (Bdg [.ret,.exit 0] C9g Cit))]
theorem Cqf:CtxOk D6m:=Bca Bao puS1 (fns_cons is_cState V1) (Bbv (by kernel_rfl) (by kernel_rfl) D6h)
theorem Cqg:Bai Tryz.prog 42 C9j:=Bbg Cqf 7 (fun x=>Cy1 x.1 x.2.1) (fun x=>by kernel_rfl) fun x hok hw=>Cqd (of_decide_eq_true hok) (Bex hw.2.1.1)
def plS2:List (Nat×PureT):=plS1
theorem puS2:Bc7 Tryz.prog plS2:=puS1
end St
end V
end Go.Proofs.YtcfanlgpkefogaaGreat
namespace Go.Proofs.YtcfanlgpkefogaaGreat
open Go.RowKit
namespace V
def Bat {S B:Type} (f:Nat→S→S⊕B):Nat→Nat→S→S⊕B
 | _,0,s=>.inl s
 | i,k+1,s=>match f i s with
  | .inl s'=>Bat f (i+1) k s'
  | .inr b=>.inr b
def Cj0 {G E S B:Type} (hd:Nat→S→G) (res:S⊕B→E) (i:Nat):S⊕B→G⊕E
 | .inl s=>.inl (hd (i+1) s)
 | .inr b=>.inr (res (.inr b))
theorem Bgn {G E S B:Type} {st:G→Tree (G⊕E)} (n:Nat) (hd:Nat→S→G) (f:Nat→S→S⊕B) (res:S⊕B→E) (Inv:Nat→S→Prop)
  (h1:∀ i s,i<n→Inv i s→(st (hd i s)).run=some (Cj0 hd res i (f i s)))
  (h2:∀ i s s',i<n→Inv i s→f i s=.inl s'→Inv (i+1) s')
  (h3:∀ s,Inv n s→(st (hd n s)).run=some (.inr (res (.inl s)))) :
  ∀ (k i:Nat) (s:S),i+k=n→Inv i s→iter st (k+1) (hd i s)=some (res (Bat f i k s))
 | 0,i,s,hk,hi=>by
  have e:i=n:=by omega
  subst e
  exact Bht (h3 s hi)
 | k+1,i,s,hk,hi=>by
  have hlt:i<n:=by omega
  have hr:=h1 i s hlt hi
  unfold Bat
  cases hf:f i s with
  | inl s' =>
   rw [hf] at hr
   rw [Brv hr]
   exact Bgn n hd f res Inv h1 h2 h3 k (i+1) s' (by omega) (h2 i s s' hlt hi hf)
  | inr b =>
   rw [hf] at hr
   exact Bht hr
theorem Bav {S B:Type} {f:Nat→S→S⊕B} {Inv:Nat→S→Prop} {n:Nat} (h2:∀ i s s',i<n→Inv i s→f i s=.inl s'→Inv (i+1) s'):∀ (k i:Nat) (s s':S),i+k=n→Inv i s→Bat f i k s=.inl s'→Inv n s'
 | 0,i,s,s',hk,hi,h=>by
  have e:i=n:=by omega
  subst e
  cases h
  exact hi
 | k+1,i,s,s',hk,hi,h=>by
  unfold Bat at h
  cases hf:f i s with
  | inl t=>rw [hf] at h;exact Bav h2 k (i+1) t s' (by omega) (h2 i s t (by omega) hi hf) h
  | inr b=>rw [hf] at h;cases h
theorem Bkk {β:Type} {h w:List β} {b:Nat} (k:h.length+w.length≤1000000) (hb:b≤48):Bd9 h w b=true:=by
 rw [Be2,decide_eq_true_iff]
 have h1:((h.length+w.length:Nat):Int)≤1000000:=by omega
 have h2:(b:Int)≤48:=by omega
 calc ((h.length+w.length:Nat):Int)*b≤1000000*48:=Int.mul_le_mul h1 h2 (by omega) (by decide)
  _≤140737488355328:=by decide
namespace St
theorem is_sLie:FnIs Tryz.prog (28,Tryz.f28):=⟨Tryz.func28,by kernel_rfl,by kernel_rfl⟩
theorem is_sstill:FnIs Tryz.prog (44,Tryz.f44):=⟨Tryz.func44,by kernel_rfl,by kernel_rfl⟩
abbrev kSo:List SK:=[.o 60 Baw,.o 4 .b,.d cI,.d cI,.d cI]
noncomputable def D31:Code:=(Ban (bodyOf Tryz.f28)).getD 0 .skip
abbrev D32:List BK:=[(0,41,kGr),(1,45,kSt),(3,45,kSo)]
def C5y:Lay:={ keys:=[2,4,7,27,28,29],ks:=[.p 0 0 0 0,.p 1 0 0 0,.p 3 0 0 0,.d (.sl cPt),.d cI,.d cI],bs:=D32,n:=48,nx:=1000,marks:=[] }
def D6o:Lay:={ keys:=[4,7],ks:=[.p 1 0 0 0,.p 3 0 0 0],bs:=[(1,45,kSt),(3,45,kSo)],n:=48,nx:=1000,marks:=[] }
def D33:Lay:={ keys:=[4,5],ks:=[.p 1 0 0 0,.d cI],bs:=[(1,45,kSt)],n:=48,nx:=1000,marks:=[] }
def Bym:XE→Lay:=fun e=>match e with | .ret=>D33 | _=>D6o
def Cct (p:TCT cPt):TCT Baw:=((p.1,p.2.1,()),(0,0,()),(0,0,()),())
def Cj1 (p:TCT cPt):TCT cPt:=(p.1,p.2.1,())
def Cvb {β:Type} (p:TCT cPt) (ms:List (TCT Baw)) (nx:List (TCT Baw)→Tree β):Tree β:=bif Bd9 ms [Cct p] 48 then nx (ms++[Cct p]) else .fail
def C9k (x:SKTs kGr) (r q:SKTs kSt) (p:List (TCT cPt)) (n i:Int) (ms:List (TCT Baw)):C5y.T:=(((),(),(),p,n,i,()),(x,r,(ms,q.2),()))
def Cvc:V2 Bym:=⟨.ret,(((),2,()),(([],[],0,0,0,()),()))⟩
def Cvd (r q:SKTs kSt) (ms:List (TCT Baw)):V2 Bym:=⟨.exit 0,(((),(),()),(r,(ms,q.2),()))⟩
abbrev TLi:=Tree (C5y.T⊕V2 Bym)
def Bsi (x:SKTs kGr) (r q:SKTs kSt) (p:List (TCT cPt)) (n i:Int) (ms:List (TCT Baw)):TLi:=bif decide (i<n) then inN p.length i (
 bif !onB (lwG x) (Cj1 (Bas p (Int.toNat i) (Bap cPt))) then .leaf (.inr Cvc) else Cvb (Bas p (Int.toNat i) (Bap cPt)) ms fun ms'=>.leaf (.inl (C9k x r q p n (W64 (i+1)) ms'))) else .leaf (.inr (Cvd r q ms))
def C1p (g:C5y.T):TLi:=Bsi g.2.1 g.2.2.1 g.2.2.2.1 g.1.2.2.2.1 g.1.2.2.2.2.1 g.1.2.2.2.2.2.1 g.2.2.2.1.1
def Cj2 (g:C5y.T):Nat:=(g.1.2.2.2.1:List (TCT cPt)).length+1
theorem D6p:Bb0 Tryz.prog 28 D31 (Baz C5y Bym (Bdg [.ret,.exit 0] C1p Cj2)):=Bbl (Baq Bao puS1 V1) 7 _ C5y Bym (fun e=>by cases e <;> exact Nat.le_refl _) [.ret,.exit 0] C1p Cj2 (fun g=>by kernel_rfl)
def Cqi (l:TCT Bal) (p:List (TCT cPt)) (i:Nat):Bool:=onB l (Cj1 (Bas p i (Bap cPt)))
def f_li (l:TCT Bal) (p:List (TCT cPt)) (i:Nat) (ms:List (TCT Baw)):List (TCT Baw)⊕Unit:=bif Cqi l p i then .inl (ms++[Cct (Bas p i (Bap cPt))]) else .inr ()
def C5z (r q:SKTs kSt):List (TCT Baw)⊕Unit→V2 Bym
 | .inl ms=>Cvd r q ms
 | .inr _=>Cvc
theorem Cy3 {l:TCT Bal} {p:List (TCT cPt)} (i:Nat) (s s':List (TCT Baw)) (_:i<p.length) (hi:s.length=i) (h:f_li l p i s=.inl s'):s'.length=i+1:=by
 unfold f_li at h
 cases ho:Cqi l p i with
 | true=>rw [ho] at h;cases h;simp [hi]
 | false=>rw [ho] at h;cases h
theorem D34 {x:SKTs kGr} {r q:SKTs kSt} {p:List (TCT cPt)} (hp:p.length≤100):iter C1p (p.length+1) (C9k x r q p p.length 0 [])=some (C5z r q (Bat (f_li (lwG x) p) 0 p.length [])):=by
 have hp':(p.length:Int)≤Bb4 .i64:=by show (p.length:Int)≤9223372036854775807;omega
 refine Bgn p.length (fun i ms=>C9k x r q p p.length i ms) (f_li (lwG x) p) (C5z r q) (fun i ms=>ms.length=i) (fun i ms hi hl=>?_) Cy3 (fun ms hl=>?_) p.length 0 [] (by omega) rfl
 ·show (Bsi x r q p p.length (i:Int) ms).run=_
  unfold Bsi f_li Cqi Cvb
  rw [decide_eq_true (show (i:Int)<(p.length:Int) by omega),Bde (by omega),show Int.toNat (i:Int)=i from rfl,Bkk (by simp;omega) (by decide),Bdd hi hp']
  cases onB (lwG x) (Cj1 (Bas p i (Bap cPt))) <;> rfl
 ·show (Bsi x r q p p.length (p.length:Int) ms).run=_
  unfold Bsi
  rw [decide_eq_false (show ¬ (p.length:Int)<(p.length:Int) by omega)]
  rfl
end St
end V
end Go.Proofs.YtcfanlgpkefogaaGreat
namespace Go.Proofs.YtcfanlgpkefogaaGreat
open Go.RowKit
namespace V
namespace St
abbrev plS3:List (Nat×PureT):=(42,C9j)::(93,C8u)::plS2
theorem puS3:Bc7 Tryz.prog plS3:=puOk_cons is_cState.plain Cqg (puOk_cons is_cfMot.plain Cp3 puS2)
def r0:SKTs kSt:=([],[],0,0,0,())
def q0 (p:List (TCT cPt)):SKTs kSt:=([],List.replicate (Int.toNat (p.length:Int)) false,0,0,0,())
def zS:TCT cSt:=([],[],0,0,0,())
abbrev TLs:=Tree (TCTs [cSt,cI])
def erS (c:Bool) (e:Int) (k:TLs):TLs:=bif c then .leaf (zS,e,()) else k
def D35 (g:TCT cGr) (p:List (TCT cPt)):Option (V2 Bym):=iter C1p (p.length+1) (C9k (Bds g) r0 (q0 p) p p.length 0 [])
def mkT {β:Type} (n:Int) (k:Tree β):Tree β:=bif decide (0≤n∧n≤n∧n≤65536∧((1:Nat):Int)*n≤281474976710656) then k else .fail
theorem Cy4 {β:Type} {n:Int} {k:Tree β} (h0:0≤n) (h:n≤65536):mkT n k=k:=by
 unfold mkT
 rw [decide_eq_true (by omega)];rfl
def stO (s:SKTs kSo):TCT cSt:=(s.1,s.2.1,s.2.2.1,s.2.2.2.1,s.2.2.2.2.1,())
def D6q (y:Option (V2 Bym)):TLs:=bif isE .ret y then .leaf (C1o (Bcg .ret y).2.1,(Bcg .ret y).1.2.1,()) else bif isE (.exit 0) y then .leaf (stO (Bcg (.exit 0) y).2.2.1,0,()) else .fail
def C1q (a b:Nat):Bool:=(a:Int)!=(b:Int)
def Cy5 (g:TCT cGr) (p:List (TCT cPt)):TLs:=szT g.1 (erS (groE g != 0) (groE g) (erS (C1q p.length (No g).length) 17 (mkT p.length (D6q (D35 g p)))))
def D36 (p:List (TCT cPt)):List (TCT Baw)⊕Unit→TCTs [cSt,cI]
 | .inl ms=>((ms,List.replicate p.length false,0,0,0,()),0,())
 | .inr _=>(zS,2,())
def Bf8 (g:TCT cGr) (p:List (TCT cPt)):TCTs [cSt,cI]:=bif groE g != 0 then (zS,groE g,()) else bif C1q p.length (No g).length then (zS,17,()) else D36 p (Bat (f_li g.1 p) 0 p.length [])
def etaS (s:TCT cSt):TCT cSt:=(s.1,s.2.1,s.2.2.1,s.2.2.2.1,s.2.2.2.2.1,())
abbrev Cve:PureT:=Bbe [cGr,.sl cPt] [cSt,cI] (fun x=>decide ((x.1.1.1.size:Int)≤Bb4 .i64)) (fun x=>(etaS (Bf8 x.1 x.2.1).1,(Bf8 x.1 x.2.1).2.1,()))
theorem C9l {g:TCT cGr} (h:groE g=0):1≤(No g).length∧(No g).length≤8:=by
 unfold groE at h
 cases h1:Bc3 g.1 != 0 with
 | true=>rw [h1,cond_true] at h;rw [h] at h1;cases h1
 | false =>
  rw [h1,cond_false] at h
  cases h2:decide (((No g).length:Int)<1)||decide (((No g).length:Int)>8) with
  | true=>rw [h2] at h;cases h
  | false =>
   rw [Bool.or_eq_false_iff,decide_eq_false_iff_not,decide_eq_false_iff_not] at h2
   omega
theorem Cy6 {a b:Nat} (h:C1q a b=false):a=b:=by
 unfold C1q at h
 have:=bne_eq_false_iff_eq.1 h
 omega
theorem Cqj {g:TCT cGr} {p:List (TCT cPt)} {k:TLs} (h:groE g=0→p.length=(No g).length→p.length≤8→k=.leaf (D36 p (Bat (f_li g.1 p) 0 p.length []))) :
  (bif groE g != 0 then .leaf (zS,groE g,()) else erS (C1q p.length (No g).length) 17 k:TLs).sat (fun y=>y=(etaS (Bf8 g p).1,(Bf8 g p).2.1,())):=by
 show Tree.sat (fun y=>y=Bf8 g p) _
 unfold Bf8
 cases h1:groE g != 0 with
 | true=>exact rfl
 | false =>
  simp only [cond_false]
  unfold erS
  cases h2:C1q p.length (No g).length with
  | true=>exact rfl
  | false =>
   have e:=Cy6 h2
   have h0:groE g=0:=bne_eq_false_iff_eq.1 h1
   have:=C9l h0
   rw [h h0 e (by omega)]
   exact rfl
theorem Cqk {g:TCT cGr} {p:List (TCT cPt)} (hs:(g.1.1.size:Int)≤Bb4 .i64):(Cy5 g p).sat (fun y=>y=(etaS (Bf8 g p).1,(Bf8 g p).2.1,())):=by
 unfold Cy5
 rw [Bdm hs]
 refine Cqj fun _ e hp=>?_
 have hy:D35 g p=some (C5z r0 (q0 p) (Bat (f_li g.1 p) 0 p.length [])):=D34 (by omega)
 rw [Cy4 (by omega) (by omega),hy]
 cases Bat (f_li g.1 p) 0 p.length [] <;> rfl
noncomputable def D6r:Ctx:=Bh4 Tryz.prog plS3 [(28,Tryz.f28)] [((28,8),Baz C5y Bym (Bdg [.ret,.exit 0] C1p Cj2))]
theorem Cql:CtxOk D6r:=Bca Bao puS3 (fns_cons is_sLie V1) (Bbv (by kernel_rfl) (by kernel_rfl) D6p)
theorem D37:Bai Tryz.prog 28 Cve:=Bbg Cql 7 (fun x=>Cy5 x.1 x.2.1) (fun x=>by kernel_rfl) fun x hok _=>Cqk (of_decide_eq_true hok)
def Bey (s:TCT cSt):Bool:=(msT s).all Bed
abbrev Byn:PureT:=Bbe [cSt] [.b] (fun _=>true) (fun x=>(Bey x.1,()))
theorem Ccu (s:TCT cSt):(!(msT s).any (Bdz ()))=Bey s:=by
 have:(msT s).any (Bdz ())=!(msT s).all Bed:=Bi1 Bed _
 rw [this,Bool.not_not]
 rfl
theorem Cj3:Bai Tryz.prog 44 Byn:=Bbg (Baq Bao puS3 (fns_cons is_sstill (fns_cons is_still1 V1))) 7 (fun x=>.leaf (!(msT x.1).any (Bdz ()),())) (fun x=>by kernel_rfl) fun x _ _=>by
 show _=_
 rw [Ccu]
def C60:Lay:={ keys:=[1,3],ks:=[.p 0 0 0 0,.d cI],bs:=[(0,45,kSt)],n:=19,nx:=1000,marks:=[] }
def D6s:Lay:={ keys:=[],ks:=[],bs:=[],n:=19,nx:=1000,marks:=[] }
def D39:Lay:={ keys:=[2],ks:=[.d .b],bs:=[],n:=19,nx:=1000,marks:=[] }
def C61:XE→Lay:=fun e=>match e with | .ret=>D39 | _=>D6s
def Cj4 (s:SKTs kSt) (i:Int):C60.T:=(((),i,()),(s,()))
def Cj5:V2 C61:=⟨.ret,((false,()),())⟩
def Cj6:V2 C61:=⟨.exit 0,((),())⟩
def C1r (m:TCT Baw):Bool:=!(m.2.1.1==0&&(m.2.1.2.1==0&&true))
theorem C9m (m:TCT Baw):C1r m=!Bed m:=by unfold C1r Bed;rw [Bool.and_true]
def C9n (g:C60.T):Tree (C60.T⊕V2 C61):=bif decide (g.1.2.1<((msS g.2.1).length:Int)) then bif decide (0≤g.1.2.1∧g.1.2.1<((msS g.2.1).length:Int)) then
 bif C1r (Bas (msS g.2.1) (Int.toNat g.1.2.1) (Bap Baw)) then .leaf (.inr Cj5) else .leaf (.inl (Cj4 g.2.1 (W64 (g.1.2.1+1)))) else .fail else .leaf (.inr Cj6)
def Cj7 (g:C60.T):Nat:=(msS g.2.1).length+1
def Cqn (s:TCT cSt):Option (V2 C61):=iter C9n ((msT s).length+1) (Cj4 (Bnz s) 0)
def Cy7 (s:TCT cSt):TBo:=bif isE .ret (Cqn s) then .leaf ((Bcg .ret (Cqn s)).1.1,()) else bif isE (.exit 0) (Cqn s) then .leaf (true,()) else .fail
def plS4:List (Nat×PureT):=(44,Byn)::plS3
theorem puS4:Bc7 Tryz.prog plS4:=puOk_cons is_sstill.plain Cj3 (puS3)
end St
end V
end Go.Proofs.YtcfanlgpkefogaaGreat
