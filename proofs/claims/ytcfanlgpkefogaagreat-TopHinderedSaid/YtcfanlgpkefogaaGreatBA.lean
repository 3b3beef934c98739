import Derived.Test.YtcfanlgpkefogaaGreatSd
import Derived.Test.YtcfanlgpkefogaaGreatTV
import Derived.Test.YtcfanlgpkefogaaGreatUj
import Derived.Test.YtcfanlgpkefogaaGreatBa
import Derived.Test.YtcfanlgpkefogaaGreatZe
namespace Go.Proofs.YtcfanlgpkefogaaGreat
open Go.RowKit
namespace V
abbrev By9:PureT:=Bbh [cPt,cPt,cI] [cPt,cI] (fun _=>true) (fun x=>(((TwR x.1.1 x.1.2.1 x.2.1.1 x.2.1.2.1 x.2.2.1).1.1,(TwR x.1.1 x.1.2.1 x.2.1.1 x.2.1.2.1 x.2.2.1).1.2,()),(TwR x.1.1 x.1.2.1 x.2.1.1 x.2.1.2.1 x.2.2.1).2,()))
theorem Bya:Bai Tryz.prog 23 By9:=Cau
end V
end Go.Proofs.YtcfanlgpkefogaaGreat
namespace Go.Proofs.YtcfanlgpkefogaaGreat
open Go.RowKit
namespace V
namespace St
abbrev Bbq:TC:=.st [cI,cI,cI,cI,.b]
abbrev Bc5:TC:=.st [cI,cI,cI]
abbrev Ban:TC:=.st [.s,cI,cI,cI,.sl Bbq,Baf,cI,cI,.sl Bc5]
abbrev cGr:TC:=.st [Ban,.sl No,Bbv]
abbrev cSt:TC:=.st [.sl Bat,.sl .b,cI,cI,cI]
abbrev cBl:TC:=.st [cI,cPt,cI,cI]
abbrev cKn:TC:=.st [cI,cI,cI,cI,cI]
theorem is_between2:FnIs Tryz.prog (105,Tryz.f105):=⟨Tryz.func105,by kernel_rfl,by kernel_rfl⟩
theorem is_validHoop:FnIs Tryz.prog (118,Tryz.f118):=⟨Tryz.func118,by kernel_rfl,by kernel_rfl⟩
theorem is_validCell:FnIs Tryz.prog (121,Tryz.f121):=⟨Tryz.func121,by kernel_rfl,by kernel_rfl⟩
theorem is_Check1:FnIs Tryz.prog (117,Tryz.f117):=⟨Tryz.func117,by kernel_rfl,by kernel_rfl⟩
theorem is_Check2:FnIs Tryz.prog (120,Tryz.f120):=⟨Tryz.func120,by kernel_rfl,by kernel_rfl⟩
theorem is_CG1:FnIs Tryz.prog (124,Tryz.f124):=⟨Tryz.func124,by kernel_rfl,by kernel_rfl⟩
theorem is_still1:FnIs Tryz.prog (94,Tryz.f94):=⟨Tryz.func94,by kernel_rfl,by kernel_rfl⟩
theorem is_Runs1:FnIs Tryz.prog (82,Tryz.f82):=⟨Tryz.func82,by kernel_rfl,by kernel_rfl⟩
theorem is_tChk:FnIs Tryz.prog (43,Tryz.f43):=⟨Tryz.func43,by kernel_rfl,by kernel_rfl⟩
def inR (x lo hi:Int):Bool:=decide (lo≤x)&&decide (x≤hi)
abbrev s_inR:PureT:=Bbh [cI,cI,cI] [.b] (fun _=>true) (fun x=>(inR x.1 x.2.1 x.2.2.1,()))
abbrev TBo:=Tree (TCTs [.b])
def Boq (a:Bool) (t:TBo):TBo:=bif a then t else .leaf (false,())
theorem Bfd {a b:Bool} {t:TBo} (h:t.sat (fun y=>y=(b,()))):(Boq a t).sat (fun y=>y=(a&&b,())):=by
 unfold Boq
 cases a with
 | true=>rw [Bool.true_and];exact h
 | false=>exact rfl
theorem Byb (b:Bool):(Tree.leaf (b,()):TBo).sat (fun y=>y=(b,())):=rfl
theorem q_between2:Bai Tryz.prog 105 s_inR:=Bbj (Bas Bar puOk_nil (fns_cons is_between2 V1)) 3 (fun x=>Boq (decide (x.2.1≤x.1)) (.leaf (decide (x.1≤x.2.2.1),()))) (fun x=>by kernel_rfl) fun _ _ _=>Bfd (Byb _)
def plBt:List (Nat×PureT):=[(105,s_inR)]
theorem puBt:Bcd Tryz.prog plBt:=puOk_cons is_between2.plain q_between2 (puOk_nil)
def Bf7 (h:TCT Bbq):Bool:=inR h.1 0 4194304&&(inR h.2.1 0 4194304&&(inR h.2.2.1 2 32768&&((Int.tmod h.2.2.1 2==0)&&inR h.2.2.2.1 1 8192)))
def Bfv (c:TCT Bc5):Bool:=inR c.1 0 65536&&(inR c.2.1 (-4096) 4096&&inR c.2.2.1 (-4096) 4096)
abbrev C0h:PureT:=Bbh [Bbq] [.b] (fun _=>true) (fun x=>(Bf7 x.1,()))
abbrev C0i:PureT:=Bbh [Bc5] [.b] (fun _=>true) (fun x=>(Bfv x.1,()))
def C0j (h:TCT Bbq):TBo:=Boq (inR h.1 0 4194304) (Boq (inR h.2.1 0 4194304) (Boq (inR h.2.2.1 2 32768) (Boq (Int.tmod h.2.2.1 2==0) (.leaf (inR h.2.2.2.1 1 8192,())))))
def C0k (c:TCT Bc5):TBo:=Boq (inR c.1 0 65536) (Boq (inR c.2.1 (-4096) 4096) (.leaf (inR c.2.2.1 (-4096) 4096,())))
theorem Btv (h:TCT Bbq):(C0j h).sat (fun y=>y=(Bf7 h,())):=Bfd (Bfd (Bfd (Bfd (Byb _))))
theorem Btx (c:TCT Bc5):(C0k c).sat (fun y=>y=(Bfv c,())):=Bfd (Bfd (Byb _))
theorem C3f:Bai Tryz.prog 118 C0h:=Bbj (Bas Bar puBt (fns_cons is_validHoop V1)) 3 (fun x=>C0j x.1) (fun x=>by kernel_rfl) fun x _ _=>Btv x.1
theorem C3g:Bai Tryz.prog 121 C0i:=Bbj (Bas Bar puBt (fns_cons is_validCell V1)) 3 (fun x=>C0k x.1) (fun x=>by kernel_rfl) fun x _ _=>Btx x.1
def Bf0 (m:TCT Bat):Bool:=m.2.1.1==0&&m.2.1.2.1==0
def Bge (b:TCT No):Bool:=Bhd b.1 b.2.1
abbrev D92:PureT:=Bbh [Bbq] [.b] (fun _=>true) (fun x=>(!Bf7 x.1,()))
abbrev D93:PureT:=Bbh [Bc5] [.b] (fun _=>true) (fun x=>(!Bfv x.1,()))
abbrev D1n:PureT:=Bbh [No] [.b] (fun _=>true) (fun x=>(!Bge x.1,()))
abbrev D1o:PureT:=Bbh [Bat] [.b] (fun _=>true) (fun x=>(!Bf0 x.1,()))
abbrev D1p:PureT:=Bbh [cPt] [.b] (fun _=>true) (fun x=>(!fpt x.1.1 x.1.2.1,()))
theorem Dd9:Bai Tryz.prog 117 D92:=Bbj (Bas Bar (puOk_cons is_validHoop.plain C3f puOk_nil) (fns_cons is_Check1 V1)) 3 (fun x=>.leaf (!Bf7 x.1,())) (fun x=>by kernel_rfl) fun _ _ _=>rfl
theorem Dda:Bai Tryz.prog 120 D93:=Bbj (Bas Bar (puOk_cons is_validCell.plain C3g puOk_nil) (fns_cons is_Check2 V1)) 3 (fun x=>.leaf (!Bfv x.1,())) (fun x=>by kernel_rfl) fun _ _ _=>rfl
theorem Bty (b:Bool):(okE b != 0)=!b:=by unfold okE;cases b <;> rfl
theorem D94:Bai Tryz.prog 124 D1n:=Bbj (Bas Bar (puOk_cons is_CheckBall.plain Bs3 puOk_nil) (fns_cons is_CG1 V1)) 3 (fun x=>.leaf (okE (Bhd x.1.1 x.1.2.1)!=0,())) (fun x=>by kernel_rfl) fun x _ _=>by
 show (okE (Bhd x.1.1 x.1.2.1)!=0,())=(!Bge x.1,())
 rw [Bty];rfl
theorem D95:Bai Tryz.prog 94 D1o:=Bbj (Bas Bar puOk_nil (fns_cons is_still1 V1)) 3 (fun x=>.leaf (!(x.1.2.1.1==0&&(x.1.2.1.2.1==0&&true)),())) (fun x=>by kernel_rfl) fun x _ _=>by
 show (!(x.1.2.1.1==0&&(x.1.2.1.2.1==0&&true)),())=(!Bf0 x.1,())
 rw [Bool.and_true];rfl
theorem D96:Bai Tryz.prog 82 D1p:=Bbj (Bas Bar (puOk_cons is_tChk.plain Bk9 puOk_nil) (fns_cons is_Runs1 V1)) 3 (fun x=>.leaf (Bgi x.1.1 x.1.2.1 != 0,())) (fun x=>by kernel_rfl) fun x _ _=>by
 show (Bgi x.1.1 x.1.2.1 != 0,())=(!fpt x.1.1 x.1.2.1,())
 unfold Bgi
 cases fpt x.1.1 x.1.2.1 <;> rfl
def plCl:List (Nat×PureT):=[(117,D92),(120,D93),(124,D1n),(94,D1o),(82,D1p)]
theorem puCl:Bcd Tryz.prog plCl:=puOk_cons is_Check1.plain Dd9 (puOk_cons is_Check2.plain Dda (puOk_cons is_CG1.plain D94 (puOk_cons is_still1.plain D95 (puOk_cons is_Runs1.plain D96 puOk_nil))))
theorem is_ixHoop:FnIs Tryz.prog (148,Tryz.f148):=⟨Tryz.func148,by kernel_rfl,by kernel_rfl⟩
theorem is_cfHoop:FnIs Tryz.prog (116,Tryz.f116):=⟨Tryz.func116,by kernel_rfl,by kernel_rfl⟩
abbrev Bgr:List SK:=[]
def Bdf (k:SKTs Bgr) (x:TCT (Bbq)):Bool:=!Bf7 x
noncomputable def Byc:Code:=(Bak (bodyOf Tryz.f148)).getD 0 .skip
def Bi3:Lay:={ keys:=[0,1,7,8],ks:=[.d (.sl (Bbq)),.f 117 [] Bgr,.d cI,.d cI],bs:=[],n:=19,nx:=1000,marks:=[] }
def Cgv:Lay:={ keys:=[4],ks:=[.d cI],bs:=[],n:=19,nx:=1000,marks:=[] }
def Cgw:Lay:={ keys:=[],ks:=[],bs:=[],n:=19,nx:=1000,marks:=[] }
def Bgx:XE→Lay
 | .ret=>Cgv
 | _=>Cgw
def Byd (k:SKTs Bgr) (l:List (TCT (Bbq))) (n i:Int):Bi3.T:=((l,((),k),n,i,()),())
def Bor (i:Int):Fq Bgx:=⟨.ret,((i,()),())⟩
def Bos:Fq Bgx:=⟨.exit 0,((),())⟩
def Bio (k:SKTs Bgr) (l:List (TCT (Bbq))) (n:Int) (x:TCT (Bbq)) (i:Int):Tree (Bi3.T⊕Fq Bgx):=bif Bdf k x then .leaf (.inr (Bor i)) else .leaf (.inl (Byd k l n (W64 (i+1))))
def Cgx (k:SKTs Bgr) (l:List (TCT (Bbq))) (n i:Int):Tree (Bi3.T⊕Fq Bgx) :=
 bif decide (i<n) then bif decide (0≤i∧i<(l.length:Int)) then Bio k l n (Bam l i.toNat (Baj (Bbq))) i else .fail else .leaf (.inr Bos)
def Bnq (g:Bi3.T):Tree (Fq Bgx) :=
 .br (Bjj g.1.2.2.1 g.1.2.2.2.1 g.1.1) (.br (g.1.1.any (Bdf g.1.2.1.2)) (.leaf (Bor (g.1.1.findIdx (Bdf g.1.2.1.2)))) (.leaf Bos)) .fail
theorem Clf:Baw Tryz.prog 148 Byc (Bav Bi3 Bgx Bnq):=by
 refine Beu (X:=ctx Tryz.prog plCl []) (Bas Bar puCl V1) 7 148 (fun _=>none) (fun _ _ f h=>by simp at h) Bi3 Bgx (fun e=>by cases e <;> exact Nat.le_refl _) Bnq (fun g=>Cgx g.1.2.1.2 g.1.1 g.1.2.2.1 g.1.2.2.2.1) (fun g=>by kernel_rfl) ?_
 rintro ⟨⟨l,⟨⟨⟩,k⟩,n,i,⟨⟩⟩,⟨⟩⟩ R hw hf
 obtain ⟨hf,h0⟩:=hf
 by_cases hc:n=(l.length:Int)∧i=0
 ·obtain ⟨rfl,rfl⟩:=hc
  have hf:=hf (decide_eq_true ⟨rfl,rfl⟩)
  refine Ctg l (Baj (Bbq)) (Bez hw.1.1) (fun n i _=>Byd k l n i) (fun x i (_:Unit)=>bif Bdf k x then .inr (Bor i) else .inl ()) (fun _=>Bos) (fun _=>True) (fun x i _=>Bio k l l.length x i) (fun i _=>rfl) ?_ () trivial ?_
  ·intro i _ hi Q _ _ hw1 hQ
   show (Bio k l l.length l[i] i).sat Q
   unfold Bio
   rw [hw1]
   cases hp:Bdf k l[i] with
   | true=>rw [hp] at hQ;exact hQ
   | false=>rw [hp] at hQ;exact hQ trivial
  ·rw [Bn2 (Bdf k) (fun i=>Bor i) Bos l 0,Nat.zero_add]
   cases ha:l.any (Bdf k) with
   | true=>exact hf.1 ha
   | false=>exact hf.2 ha
 ·exact (h0 (decide_eq_false hc)).elim
abbrev Clg:PureT:=Bj3 [.d (.sl (Bbq)),.f 117 [] Bgr] [cI] (fun _=>true) (fun x=>(bif x.1.any (Bdf x.2.1.2) then (x.1.findIdx (Bdf x.2.1.2):Int) else -1,()))
noncomputable def Clh:Ctx:=Bh4 Tryz.prog plCl [(148,Tryz.f148)] [((148,keyOf Byc),Bav Bi3 Bgx Bnq)]
theorem C3h:CtxOk Clh:=Bca Bar puCl (fns_cons is_ixHoop V1) (Bc0 rfl (by kernel_rfl) Clf)
def C3i (k:SKTs Bgr) (l:List (TCT (Bbq))):Tree (Int×Unit):=bif Bjj (l.length:Int) 0 l then bif l.any (Bdf k) then .leaf ((l.findIdx (Bdf k):Int),()) else .leaf (-1,()) else .fail
theorem C3j (k:SKTs Bgr) (l:List (TCT (Bbq))):(C3i k l).sat (fun y=>y=(bif l.any (Bdf k) then (l.findIdx (Bdf k):Int) else -1,())):=by
 refine Bmb (decide_eq_true ⟨rfl,rfl⟩) ?_
 cases l.any (Bdf k) <;> exact rfl
theorem Cli:Bai Tryz.prog 148 Clg:=Bnm C3h 8 (fun x=>C3i x.2.1.2 x.1) (fun x=>by kernel_rfl) fun x _ _=>C3j _ _
abbrev C3k:PureT:=Bj3 [.d (.sl (Bbq)),.f 117 [] Bgr] [.b] (fun _=>true) (fun x=>(x.1.any (Bdf x.2.1.2),()))
theorem C3l (k:SKTs Bgr) (l:List (TCT (Bbq))):(Tree.leaf (decide ((bif l.any (Bdf k) then (l.findIdx (Bdf k):Int) else -1)≥0),()):Tree (Bool×Unit)).sat (fun y=>y=(l.any (Bdf k),())):=by
 rw [Bq8];exact rfl
theorem Clj:Bai Tryz.prog 116 C3k:=Bnm (Bas Bar (puOk_cons is_ixHoop.plain Cli puOk_nil) (fns_cons is_cfHoop V1)) 8 (fun x=>.leaf (decide ((bif x.1.any (Bdf x.2.1.2) then (x.1.findIdx (Bdf x.2.1.2):Int) else -1)≥0),())) (fun x=>by kernel_rfl) fun x _ _=>C3l _ _
theorem is_ixCell:FnIs Tryz.prog (149,Tryz.f149):=⟨Tryz.func149,by kernel_rfl,by kernel_rfl⟩
theorem is_cfCell:FnIs Tryz.prog (119,Tryz.f119):=⟨Tryz.func119,by kernel_rfl,by kernel_rfl⟩
abbrev Bgs:List SK:=[]
def Bdg (k:SKTs Bgs) (x:TCT (Bc5)):Bool:=!Bfv x
noncomputable def Bye:Code:=(Bak (bodyOf Tryz.f149)).getD 0 .skip
def Bi4:Lay:={ keys:=[0,1,7,8],ks:=[.d (.sl (Bc5)),.f 120 [] Bgs,.d cI,.d cI],bs:=[],n:=19,nx:=1000,marks:=[] }
def Cgy:Lay:={ keys:=[4],ks:=[.d cI],bs:=[],n:=19,nx:=1000,marks:=[] }
def Cgz:Lay:={ keys:=[],ks:=[],bs:=[],n:=19,nx:=1000,marks:=[] }
def Bgy:XE→Lay
 | .ret=>Cgy
 | _=>Cgz
def Byf (k:SKTs Bgs) (l:List (TCT (Bc5))) (n i:Int):Bi4.T:=((l,((),k),n,i,()),())
def Bot (i:Int):Fq Bgy:=⟨.ret,((i,()),())⟩
def Bou:Fq Bgy:=⟨.exit 0,((),())⟩
def Bip (k:SKTs Bgs) (l:List (TCT (Bc5))) (n:Int) (x:TCT (Bc5)) (i:Int):Tree (Bi4.T⊕Fq Bgy):=bif Bdg k x then .leaf (.inr (Bot i)) else .leaf (.inl (Byf k l n (W64 (i+1))))
def Ch0 (k:SKTs Bgs) (l:List (TCT (Bc5))) (n i:Int):Tree (Bi4.T⊕Fq Bgy) :=
 bif decide (i<n) then bif decide (0≤i∧i<(l.length:Int)) then Bip k l n (Bam l i.toNat (Baj (Bc5))) i else .fail else .leaf (.inr Bou)
def Bnr (g:Bi4.T):Tree (Fq Bgy) :=
 .br (Bjj g.1.2.2.1 g.1.2.2.2.1 g.1.1) (.br (g.1.1.any (Bdg g.1.2.1.2)) (.leaf (Bot (g.1.1.findIdx (Bdg g.1.2.1.2)))) (.leaf Bou)) .fail
theorem Clk:Baw Tryz.prog 149 Bye (Bav Bi4 Bgy Bnr):=by
 refine Beu (X:=ctx Tryz.prog plCl []) (Bas Bar puCl V1) 7 149 (fun _=>none) (fun _ _ f h=>by simp at h) Bi4 Bgy (fun e=>by cases e <;> exact Nat.le_refl _) Bnr (fun g=>Ch0 g.1.2.1.2 g.1.1 g.1.2.2.1 g.1.2.2.2.1) (fun g=>by kernel_rfl) ?_
 rintro ⟨⟨l,⟨⟨⟩,k⟩,n,i,⟨⟩⟩,⟨⟩⟩ R hw hf
 obtain ⟨hf,h0⟩:=hf
 by_cases hc:n=(l.length:Int)∧i=0
 ·obtain ⟨rfl,rfl⟩:=hc
  have hf:=hf (decide_eq_true ⟨rfl,rfl⟩)
  refine Ctg l (Baj (Bc5)) (Bez hw.1.1) (fun n i _=>Byf k l n i) (fun x i (_:Unit)=>bif Bdg k x then .inr (Bot i) else .inl ()) (fun _=>Bou) (fun _=>True) (fun x i _=>Bip k l l.length x i) (fun i _=>rfl) ?_ () trivial ?_
  ·intro i _ hi Q _ _ hw1 hQ
   show (Bip k l l.length l[i] i).sat Q
   unfold Bip
   rw [hw1]
   cases hp:Bdg k l[i] with
   | true=>rw [hp] at hQ;exact hQ
   | false=>rw [hp] at hQ;exact hQ trivial
  ·rw [Bn2 (Bdg k) (fun i=>Bot i) Bou l 0,Nat.zero_add]
   cases ha:l.any (Bdg k) with
   | true=>exact hf.1 ha
   | false=>exact hf.2 ha
 ·exact (h0 (decide_eq_false hc)).elim
abbrev Cll:PureT:=Bj3 [.d (.sl (Bc5)),.f 120 [] Bgs] [cI] (fun _=>true) (fun x=>(bif x.1.any (Bdg x.2.1.2) then (x.1.findIdx (Bdg x.2.1.2):Int) else -1,()))
noncomputable def Clm:Ctx:=Bh4 Tryz.prog plCl [(149,Tryz.f149)] [((149,keyOf Bye),Bav Bi4 Bgy Bnr)]
theorem C3m:CtxOk Clm:=Bca Bar puCl (fns_cons is_ixCell V1) (Bc0 rfl (by kernel_rfl) Clk)
def C3n (k:SKTs Bgs) (l:List (TCT (Bc5))):Tree (Int×Unit):=bif Bjj (l.length:Int) 0 l then bif l.any (Bdg k) then .leaf ((l.findIdx (Bdg k):Int),()) else .leaf (-1,()) else .fail
theorem C3o (k:SKTs Bgs) (l:List (TCT (Bc5))):(C3n k l).sat (fun y=>y=(bif l.any (Bdg k) then (l.findIdx (Bdg k):Int) else -1,())):=by
 refine Bmb (decide_eq_true ⟨rfl,rfl⟩) ?_
 cases l.any (Bdg k) <;> exact rfl
theorem Cln:Bai Tryz.prog 149 Cll:=Bnm C3m 8 (fun x=>C3n x.2.1.2 x.1) (fun x=>by kernel_rfl) fun x _ _=>C3o _ _
abbrev C3p:PureT:=Bj3 [.d (.sl (Bc5)),.f 120 [] Bgs] [.b] (fun _=>true) (fun x=>(x.1.any (Bdg x.2.1.2),()))
theorem C3q (k:SKTs Bgs) (l:List (TCT (Bc5))):(Tree.leaf (decide ((bif l.any (Bdg k) then (l.findIdx (Bdg k):Int) else -1)≥0),()):Tree (Bool×Unit)).sat (fun y=>y=(l.any (Bdg k),())):=by
 rw [Bq8];exact rfl
theorem Clo:Bai Tryz.prog 119 C3p:=Bnm (Bas Bar (puOk_cons is_ixCell.plain Cln puOk_nil) (fns_cons is_cfCell V1)) 8 (fun x=>.leaf (decide ((bif x.1.any (Bdg x.2.1.2) then (x.1.findIdx (Bdg x.2.1.2):Int) else -1)≥0),())) (fun x=>by kernel_rfl) fun x _ _=>C3q _ _
theorem is_ixBall:FnIs Tryz.prog (151,Tryz.f151):=⟨Tryz.func151,by kernel_rfl,by kernel_rfl⟩
theorem is_cfBall:FnIs Tryz.prog (123,Tryz.f123):=⟨Tryz.func123,by kernel_rfl,by kernel_rfl⟩
abbrev Bgt:List SK:=[]
def Bdh (k:SKTs Bgt) (x:TCT (No)):Bool:=!Bge x
noncomputable def Byg:Code:=(Bak (bodyOf Tryz.f151)).getD 0 .skip
def Bi5:Lay:={ keys:=[0,1,7,8],ks:=[.d (.sl (No)),.f 124 [] Bgt,.d cI,.d cI],bs:=[],n:=19,nx:=1000,marks:=[] }
def Ch1:Lay:={ keys:=[4],ks:=[.d cI],bs:=[],n:=19,nx:=1000,marks:=[] }
def Ch2:Lay:={ keys:=[],ks:=[],bs:=[],n:=19,nx:=1000,marks:=[] }
def Bgz:XE→Lay
 | .ret=>Ch1
 | _=>Ch2
def Byh (k:SKTs Bgt) (l:List (TCT (No))) (n i:Int):Bi5.T:=((l,((),k),n,i,()),())
def Bov (i:Int):Fq Bgz:=⟨.ret,((i,()),())⟩
def Bow:Fq Bgz:=⟨.exit 0,((),())⟩
def Biq (k:SKTs Bgt) (l:List (TCT (No))) (n:Int) (x:TCT (No)) (i:Int):Tree (Bi5.T⊕Fq Bgz):=bif Bdh k x then .leaf (.inr (Bov i)) else .leaf (.inl (Byh k l n (W64 (i+1))))
def Ch3 (k:SKTs Bgt) (l:List (TCT (No))) (n i:Int):Tree (Bi5.T⊕Fq Bgz) :=
 bif decide (i<n) then bif decide (0≤i∧i<(l.length:Int)) then Biq k l n (Bam l i.toNat (Baj (No))) i else .fail else .leaf (.inr Bow)
def Bns (g:Bi5.T):Tree (Fq Bgz) :=
 .br (Bjj g.1.2.2.1 g.1.2.2.2.1 g.1.1) (.br (g.1.1.any (Bdh g.1.2.1.2)) (.leaf (Bov (g.1.1.findIdx (Bdh g.1.2.1.2)))) (.leaf Bow)) .fail
theorem Clp:Baw Tryz.prog 151 Byg (Bav Bi5 Bgz Bns):=by
 refine Beu (X:=ctx Tryz.prog plCl []) (Bas Bar puCl V1) 7 151 (fun _=>none) (fun _ _ f h=>by simp at h) Bi5 Bgz (fun e=>by cases e <;> exact Nat.le_refl _) Bns (fun g=>Ch3 g.1.2.1.2 g.1.1 g.1.2.2.1 g.1.2.2.2.1) (fun g=>by kernel_rfl) ?_
 rintro ⟨⟨l,⟨⟨⟩,k⟩,n,i,⟨⟩⟩,⟨⟩⟩ R hw hf
 obtain ⟨hf,h0⟩:=hf
 by_cases hc:n=(l.length:Int)∧i=0
 ·obtain ⟨rfl,rfl⟩:=hc
  have hf:=hf (decide_eq_true ⟨rfl,rfl⟩)
  refine Ctg l (Baj (No)) (Bez hw.1.1) (fun n i _=>Byh k l n i) (fun x i (_:Unit)=>bif Bdh k x then .inr (Bov i) else .inl ()) (fun _=>Bow) (fun _=>True) (fun x i _=>Biq k l l.length x i) (fun i _=>rfl) ?_ () trivial ?_
  ·intro i _ hi Q _ _ hw1 hQ
   show (Biq k l l.length l[i] i).sat Q
   unfold Biq
   rw [hw1]
   cases hp:Bdh k l[i] with
   | true=>rw [hp] at hQ;exact hQ
   | false=>rw [hp] at hQ;exact hQ trivial
  ·rw [Bn2 (Bdh k) (fun i=>Bov i) Bow l 0,Nat.zero_add]
   cases ha:l.any (Bdh k) with
   | true=>exact hf.1 ha
   | false=>exact hf.2 ha
 ·exact (h0 (decide_eq_false hc)).elim
abbrev Clq:PureT:=Bj3 [.d (.sl (No)),.f 124 [] Bgt] [cI] (fun _=>true) (fun x=>(bif x.1.any (Bdh x.2.1.2) then (x.1.findIdx (Bdh x.2.1.2):Int) else -1,()))
noncomputable def Clr:Ctx:=Bh4 Tryz.prog plCl [(151,Tryz.f151)] [((151,keyOf Byg),Bav Bi5 Bgz Bns)]
theorem C3r:CtxOk Clr:=Bca Bar puCl (fns_cons is_ixBall V1) (Bc0 rfl (by kernel_rfl) Clp)
def C3s (k:SKTs Bgt) (l:List (TCT (No))):Tree (Int×Unit):=bif Bjj (l.length:Int) 0 l then bif l.any (Bdh k) then .leaf ((l.findIdx (Bdh k):Int),()) else .leaf (-1,()) else .fail
theorem C3t (k:SKTs Bgt) (l:List (TCT (No))):(C3s k l).sat (fun y=>y=(bif l.any (Bdh k) then (l.findIdx (Bdh k):Int) else -1,())):=by
 refine Bmb (decide_eq_true ⟨rfl,rfl⟩) ?_
 cases l.any (Bdh k) <;> exact rfl
theorem Cls:Bai Tryz.prog 151 Clq:=Bnm C3r 8 (fun x=>C3s x.2.1.2 x.1) (fun x=>by kernel_rfl) fun x _ _=>C3t _ _
abbrev C3u:PureT:=Bj3 [.d (.sl (No)),.f 124 [] Bgt] [.b] (fun _=>true) (fun x=>(x.1.any (Bdh x.2.1.2),()))
theorem C3v (k:SKTs Bgt) (l:List (TCT (No))):(Tree.leaf (decide ((bif l.any (Bdh k) then (l.findIdx (Bdh k):Int) else -1)≥0),()):Tree (Bool×Unit)).sat (fun y=>y=(l.any (Bdh k),())):=by
 rw [Bq8];exact rfl
theorem Clt:Bai Tryz.prog 123 C3u:=Bnm (Bas Bar (puOk_cons is_ixBall.plain Cls puOk_nil) (fns_cons is_cfBall V1)) 8 (fun x=>.leaf (decide ((bif x.1.any (Bdh x.2.1.2) then (x.1.findIdx (Bdh x.2.1.2):Int) else -1)≥0),())) (fun x=>by kernel_rfl) fun x _ _=>C3v _ _
theorem is_ixMot:FnIs Tryz.prog (133,Tryz.f133):=⟨Tryz.func133,by kernel_rfl,by kernel_rfl⟩
theorem is_cfMot:FnIs Tryz.prog (93,Tryz.f93):=⟨Tryz.func93,by kernel_rfl,by kernel_rfl⟩
abbrev Bj8:List SK:=[]
def Bei (k:SKTs Bj8) (x:TCT (Bat)):Bool:=!Bf0 x
noncomputable def C3w:Code:=(Bak (bodyOf Tryz.f133)).getD 0 .skip
def Bk3:Lay:={ keys:=[0,1,7,8],ks:=[.d (.sl (Bat)),.f 94 [] Bj8,.d cI,.d cI],bs:=[],n:=19,nx:=1000,marks:=[] }
def Clu:Lay:={ keys:=[4],ks:=[.d cI],bs:=[],n:=19,nx:=1000,marks:=[] }
def Clv:Lay:={ keys:=[],ks:=[],bs:=[],n:=19,nx:=1000,marks:=[] }
def Bir:XE→Lay
 | .ret=>Clu
 | _=>Clv
def C3x (k:SKTs Bj8) (l:List (TCT (Bat))) (n i:Int):Bk3.T:=((l,((),k),n,i,()),())
def Bt0 (i:Int):Fq Bir:=⟨.ret,((i,()),())⟩
def Bt1:Fq Bir:=⟨.exit 0,((),())⟩
def Bk4 (k:SKTs Bj8) (l:List (TCT (Bat))) (n:Int) (x:TCT (Bat)) (i:Int):Tree (Bk3.T⊕Fq Bir):=bif Bei k x then .leaf (.inr (Bt0 i)) else .leaf (.inl (C3x k l n (W64 (i+1))))
def Clw (k:SKTs Bj8) (l:List (TCT (Bat))) (n i:Int):Tree (Bk3.T⊕Fq Bir) :=
 bif decide (i<n) then bif decide (0≤i∧i<(l.length:Int)) then Bk4 k l n (Bam l i.toNat (Baj (Bat))) i else .fail else .leaf (.inr Bt1)
def Bqi (g:Bk3.T):Tree (Fq Bir) :=
 .br (Bjj g.1.2.2.1 g.1.2.2.2.1 g.1.1) (.br (g.1.1.any (Bei g.1.2.1.2)) (.leaf (Bt0 (g.1.1.findIdx (Bei g.1.2.1.2)))) (.leaf Bt1)) .fail
theorem Cuo:Baw Tryz.prog 133 C3w (Bav Bk3 Bir Bqi):=by
 refine Beu (X:=ctx Tryz.prog plCl []) (Bas Bar puCl V1) 7 133 (fun _=>none) (fun _ _ f h=>by simp at h) Bk3 Bir (fun e=>by cases e <;> exact Nat.le_refl _) Bqi (fun g=>Clw g.1.2.1.2 g.1.1 g.1.2.2.1 g.1.2.2.2.1) (fun g=>by kernel_rfl) ?_
 rintro ⟨⟨l,⟨⟨⟩,k⟩,n,i,⟨⟩⟩,⟨⟩⟩ R hw hf
 obtain ⟨hf,h0⟩:=hf
 by_cases hc:n=(l.length:Int)∧i=0
 ·obtain ⟨rfl,rfl⟩:=hc
  have hf:=hf (decide_eq_true ⟨rfl,rfl⟩)
  refine Ctg l (Baj (Bat)) (Bez hw.1.1) (fun n i _=>C3x k l n i) (fun x i (_:Unit)=>bif Bei k x then .inr (Bt0 i) else .inl ()) (fun _=>Bt1) (fun _=>True) (fun x i _=>Bk4 k l l.length x i) (fun i _=>rfl) ?_ () trivial ?_
  ·intro i _ hi Q _ _ hw1 hQ
   show (Bk4 k l l.length l[i] i).sat Q
   unfold Bk4
   rw [hw1]
   cases hp:Bei k l[i] with
   | true=>rw [hp] at hQ;exact hQ
   | false=>rw [hp] at hQ;exact hQ trivial
  ·rw [Bn2 (Bei k) (fun i=>Bt0 i) Bt1 l 0,Nat.zero_add]
   cases ha:l.any (Bei k) with
   | true=>exact hf.1 ha
   | false=>exact hf.2 ha
 ·exact (h0 (decide_eq_false hc)).elim
abbrev Cup:PureT:=Bj3 [.d (.sl (Bat)),.f 94 [] Bj8] [cI] (fun _=>true) (fun x=>(bif x.1.any (Bei x.2.1.2) then (x.1.findIdx (Bei x.2.1.2):Int) else -1,()))
noncomputable def Cuq:Ctx:=Bh4 Tryz.prog plCl [(133,Tryz.f133)] [((133,keyOf C3w),Bav Bk3 Bir Bqi)]
theorem C8q:CtxOk Cuq:=Bca Bar puCl (fns_cons is_ixMot V1) (Bc0 rfl (by kernel_rfl) Cuo)
def Ccl (k:SKTs Bj8) (l:List (TCT (Bat))):Tree (Int×Unit):=bif Bjj (l.length:Int) 0 l then bif l.any (Bei k) then .leaf ((l.findIdx (Bei k):Int),()) else .leaf (-1,()) else .fail
theorem C8r (k:SKTs Bj8) (l:List (TCT (Bat))):(Ccl k l).sat (fun y=>y=(bif l.any (Bei k) then (l.findIdx (Bei k):Int) else -1,())):=by
 refine Bmb (decide_eq_true ⟨rfl,rfl⟩) ?_
 cases l.any (Bei k) <;> exact rfl
theorem Cur:Bai Tryz.prog 133 Cup:=Bnm C8q 8 (fun x=>Ccl x.2.1.2 x.1) (fun x=>by kernel_rfl) fun x _ _=>C8r _ _
abbrev Ccm:PureT:=Bj3 [.d (.sl (Bat)),.f 94 [] Bj8] [.b] (fun _=>true) (fun x=>(x.1.any (Bei x.2.1.2),()))
theorem C8s (k:SKTs Bj8) (l:List (TCT (Bat))):(Tree.leaf (decide ((bif l.any (Bei k) then (l.findIdx (Bei k):Int) else -1)≥0),()):Tree (Bool×Unit)).sat (fun y=>y=(l.any (Bei k),())):=by
 rw [Bq8];exact rfl
theorem Cus:Bai Tryz.prog 93 Ccm:=Bnm (Bas Bar (puOk_cons is_ixMot.plain Cur puOk_nil) (fns_cons is_cfMot V1)) 8 (fun x=>.leaf (decide ((bif x.1.any (Bei x.2.1.2) then (x.1.findIdx (Bei x.2.1.2):Int) else -1)≥0),())) (fun x=>by kernel_rfl) fun x _ _=>C8s _ _
end St
end V
end Go.Proofs.YtcfanlgpkefogaaGreat
namespace Go.Proofs.YtcfanlgpkefogaaGreat
open Go.RowKit
namespace V
namespace St
theorem is_lposts:FnIs Tryz.prog (74,Tryz.f74):=⟨Tryz.func74,by kernel_rfl,by kernel_rfl⟩
theorem is_lwires:FnIs Tryz.prog (114,Tryz.f114):=⟨Tryz.func114,by kernel_rfl,by kernel_rfl⟩
theorem is_turned:FnIs Tryz.prog (84,Tryz.f84):=⟨Tryz.func84,by kernel_rfl,by kernel_rfl⟩
abbrev kLw:List SK:=[.d .s,.d cI,.d cI,.d cI,.d (.sl Bbq),.d cI,.d cI,.d cI,.d cI,.d cI,.d (.sl Bc5)]
def Bl2 (x:SKTs kLw):TCT Ban:=(x.1,x.2.1,x.2.2.1,x.2.2.2.1,x.2.2.2.2.1,((x.2.2.2.2.2.1,x.2.2.2.2.2.2.1,()),x.2.2.2.2.2.2.2.1,()),x.2.2.2.2.2.2.2.2.1,x.2.2.2.2.2.2.2.2.2.1,x.2.2.2.2.2.2.2.2.2.2.1,())
def Bdi (l:TCT Ban):SKTs kLw:=(l.1,l.2.1,l.2.2.1,l.2.2.2.1,l.2.2.2.2.1,l.2.2.2.2.2.1.1.1,l.2.2.2.2.2.1.1.2.1,l.2.2.2.2.2.1.2.1,l.2.2.2.2.2.2.1,l.2.2.2.2.2.2.2.1,l.2.2.2.2.2.2.2.2.1,())
def Bb0 (l:TCT Ban):List (TCT Bbq):=l.2.2.2.2.1
def Bjk (l:TCT Ban):TCT Baf:=l.2.2.2.2.2.1
def dW (h:TCT Bbq):Int:=W64 (W64 (Int.tdiv h.2.2.1 2)+h.2.2.2.1)
def Bn7 (x y r:Int):TCT Baf:=((x,y,()),r,())
def w2 (h:TCT Bbq):List (TCT Baf):=bif h.2.2.2.2.1 then [Bn7 h.1 (W64 (h.2.1-dW h)) h.2.2.2.1,Bn7 h.1 (W64 (h.2.1+dW h)) h.2.2.2.1] else [Bn7 (W64 (h.1-dW h)) h.2.1 h.2.2.2.1,Bn7 (W64 (h.1+dW h)) h.2.1 h.2.2.2.1]
def Bb7 (l:TCT Ban):List (TCT Baf):=(Bb0 l).flatMap w2++[Bjk l]
noncomputable def D97:Code:=(Bak (bodyOf Tryz.f74)).getD 0 .skip
def Bxl:Lay:={ keys:=[1,2,7,8,9],ks:=[.p 0 0 0 0,.o 33 Baf,.d (.sl Bbq),.d cI,.d cI],bs:=[(0,36,kLw)],n:=24,nx:=1000,marks:=[] }
def D98:Lay:={ keys:=[1,2],ks:=[.p 0 0 0 0,.o 33 Baf],bs:=[(0,36,kLw)],n:=24,nx:=1000,marks:=[] }
def C0l:XE→Lay:=fun _=>D98
def Clx (x:SKTs kLw) (hs:List (TCT Bbq)) (n:Int) (i:Int) (o:List (TCT Baf)):Bxl.T:=(((),o,hs,n,i,()),(x,()))
def Byi (x:SKTs kLw) (o:List (TCT Baf)):Fq C0l:=⟨.exit 0,(((),o,()),(x,()))⟩
def C8t (x:SKTs kLw) (hs:List (TCT Bbq)) (n i:Int) (o w:List (TCT Baf)):Tree (Bxl.T⊕Fq C0l):=bif Bcs o w 24 then .leaf (.inl (Clx x hs n (W64 (i+1)) (o++w))) else .fail
def C0m (x:SKTs kLw) (hs:List (TCT Bbq)) (n i:Int) (o:List (TCT Baf)) (h:TCT Bbq):Tree (Bxl.T⊕Fq C0l) :=
 bif h.2.2.2.2.1 then C8t x hs n i o [Bn7 (W64 (h.1-0)) (W64 (h.2.1-dW h)) h.2.2.2.1,Bn7 (W64 (h.1+0)) (W64 (h.2.1+dW h)) h.2.2.2.1]
 else C8t x hs n i o [Bn7 (W64 (h.1-dW h)) (W64 (h.2.1-0)) h.2.2.2.1,Bn7 (W64 (h.1+dW h)) (W64 (h.2.1+0)) h.2.2.2.1]
def C3y (g:Bxl.T):Tree (Bxl.T⊕Fq C0l) :=
 bif decide (g.1.2.2.2.2.1<g.1.2.2.2.1) then bif decide (0≤g.1.2.2.2.2.1∧g.1.2.2.2.2.1<((g.1.2.2.1:List (TCT Bbq)).length:Int)) then C0m g.2.1 g.1.2.2.1 g.1.2.2.2.1 g.1.2.2.2.2.1 g.1.2.1 (Bam g.1.2.2.1 (Int.toNat g.1.2.2.2.2.1) (Baj Bbq)) else .fail else .leaf (.inr (Byi g.2.1 g.1.2.1))
def Cly (g:Bxl.T):Nat:=(g.1.2.2.1:List (TCT Bbq)).length+1
noncomputable def D99:Ctx:=ctx Tryz.prog [] [(114,Tryz.f114),(84,Tryz.f84)]
theorem Clz:CtxOk D99:=Bas Bar puOk_nil (fns_cons is_lwires (fns_cons is_turned V1))
theorem Ddb:Baw Tryz.prog 74 D97 (Bav Bxl C0l (Bcm [.exit 0] C3y Cly)):=Bb9 Clz 7 _ Bxl C0l (fun _=>Nat.le_refl _) [.exit 0] C3y Cly (fun g=>by kernel_rfl)
noncomputable def Ddc:Ctx:=Bh4 Tryz.prog [] [(74,Tryz.f74)] [((74,2),Bav Bxl C0l (Bcm [.exit 0] C3y Cly))]
theorem Cut:CtxOk Ddc:=Bca Bar puOk_nil (fns_cons is_lposts V1) (Bc0 (by kernel_rfl) (by kernel_rfl) Ddb)
def Cuu (l:TCT Ban):Option (Fq C0l):=iter C3y ((Bb0 l).length+1) (Clx (Bdi l) (Bb0 l) (Bb0 l).length 0 [])
abbrev TPo:=Tree (TCTs [.sl Baf])
def C8u (r:D98.T):TPo:=bif Bcs r.1.2.1 [Bjk (Bl2 r.2.1)] 24 then .leaf (r.1.2.1++[Bjk (Bl2 r.2.1)],()) else .fail
def D3y (l:TCT Ban):TPo:=bif isE (.exit 0) (Cuu l) then C8u (Bc2 (.exit 0) (Cuu l)) else .fail
abbrev Bk5:PureT:=Bbh [Ban] [.sl Baf] (fun x=>decide ((Bb0 x.1).length≤1000)) (fun x=>(Bb7 x.1,()))
theorem Bqj {α β E:Type} (w:α→List β) (ex:List β→E):∀ (l:List α) (i:Nat) (s:List β),Boi (fun _ x s=>some (.inl (s++w x))) (fun s=>some (ex s)) i l s=some (ex (s++l.flatMap w))
 | [],_,s=>by simp [Boi]
 | x::l,i,s=>by simp only [Boi];rw [Bqj w ex l (i+1)];simp [List.append_assoc]
theorem C8v (h:TCT Bbq):(w2 h).length=2:=by unfold w2;cases h.2.2.2.2.1 <;> rfl
theorem Box (l:List (TCT Bbq)):(l.flatMap w2).length=2*l.length:=by
 induction l with
 | nil=>rfl
 | cons h l ih =>
  have e:((h::l).flatMap w2).length=(w2 h).length+(l.flatMap w2).length:=by rw [List.flatMap_cons,List.length_append]
  rw [e,ih,C8v,List.length_cons];omega
theorem Byj {o w:List (TCT Baf)} (h:o.length+w.length≤4000):Bcs o w 24=true:=by
 rw [Bel];exact decide_eq_true (by omega)
theorem D3z {h:TCT Bbq} (hw:WFD Bbq h):W64 (h.1-0)=h.1∧W64 (h.1+0)=h.1∧W64 (h.2.1-0)=h.2.1∧W64 (h.2.1+0)=h.2.1:=by
 obtain ⟨x,y,g,w,a,⟨⟩⟩:=h
 obtain ⟨h1,h2,_⟩:=hw
 have h1 : -9223372036854775808≤x∧x≤9223372036854775807:=h1
 have h2 : -9223372036854775808≤y∧y≤9223372036854775807:=h2
 exact ⟨by rw [Int.sub_zero];exact Bb4 h1.1 h1.2,by rw [Int.add_zero];exact Bb4 h1.1 h1.2,by rw [Int.sub_zero];exact Bb4 h2.1 h2.2,by rw [Int.add_zero];exact Bb4 h2.1 h2.2⟩
theorem Cuv {l:TCT Ban} (hw:∀ h ∈ Bb0 l,WFD Bbq h) (hl:(Bb0 l).length≤1000):Cuu l=some (Byi (Bdi l) ((Bb0 l).flatMap w2)):=by
 unfold Cuu
 have key:=Bec (st:=C3y) (Bb0 l) (fun i o=>Clx (Bdi l) (Bb0 l) (Bb0 l).length (i:Int) o) (fun _ h o=>some (.inl (o++w2 h))) (fun o=>some (Byi (Bdi l) o)) (fun i o=>o.length=2*i)
  (fun i o hi hI=>by
   simp only
   refine ⟨?_,by rw [List.length_append,hI,C8v];omega⟩
   show (bif decide ((i:Int)<((Bb0 l).length:Int)) then bif decide (0≤(i:Int)∧(i:Int)<((Bb0 l).length:Int)) then C0m (Bdi l) (Bb0 l) (Bb0 l).length (i:Int) o (Bam (Bb0 l) (Int.toNat (i:Int)) (Baj Bbq)) else .fail else .leaf (.inr (Byi (Bdi l) o))).run=_
   rw [decide_eq_true (show (i:Int)<((Bb0 l).length:Int) by omega),decide_eq_true (show 0≤(i:Int)∧(i:Int)<((Bb0 l).length:Int) by omega),show Int.toNat (i:Int)=i by omega,Bby hi]
   obtain ⟨e1,e2,e3,e4⟩:=D3z (hw _ (List.getElem_mem hi))
   simp only [cond_true]
   unfold C0m w2 C8t
   rw [e1,e2,e3,e4,Bb4 (n:=(i:Int)+1) (by omega) (by omega)]
   cases (Bb0 l)[i].2.2.2.2.1 with
   | true =>
    simp only [cond_true]
    rw [Byj (by simp only [List.length_cons,List.length_nil,hI];omega)]
    rfl
   | false =>
    simp only [cond_false]
    rw [Byj (by simp only [List.length_cons,List.length_nil,hI];omega)]
    rfl)
  (fun o e hI he=>by
   cases he
   show (bif decide (((Bb0 l).length:Int)<((Bb0 l).length:Int)) then _ else Tree.leaf (Sum.inr (Byi (Bdi l) o)):Tree (Bxl.T⊕Fq C0l)).run=_
   rw [decide_eq_false (show ¬ ((Bb0 l).length:Int)<((Bb0 l).length:Int) by omega)]
   rfl)
  (Bb0 l).length 0 [] (Byi (Bdi l) ((Bb0 l).flatMap w2)) ((Bb0 l).length+1) (by omega) (by omega) rfl (by rw [List.drop_zero,Bqj,List.nil_append])
 exact key
theorem C0n:Bai Tryz.prog 74 Bk5:=Bbj Cut 7 (fun x=>D3y x.1) (fun x=>by kernel_rfl) fun x hok hw=>by
 have hl:(Bb0 x.1).length≤1000:=of_decide_eq_true hok
 show (D3y x.1).sat _
 unfold D3y
 rw [Cuv (D0y hw.1.2.2.2.2.1) hl]
 show (C8u (((),(Bb0 x.1).flatMap w2,()),(Bdi x.1,()))).sat _
 unfold C8u
 simp only
 rw [Byj (by rw [Box];simp only [List.length_cons,List.length_nil];omega)]
 exact rfl
end St
end V
end Go.Proofs.YtcfanlgpkefogaaGreat
namespace Go.Proofs.YtcfanlgpkefogaaGreat
open Go.RowKit
namespace V
namespace St
def Bxm:Lay:={ keys:=[1,3,4],ks:=[.p 0 0 0 0,.o 33 Baf,.d cI],bs:=[(0,36,kLw)],n:=73,nx:=1000,marks:=[] }
def D9b:Lay:={ keys:=[1,3],ks:=[.p 0 0 0 0,.o 33 Baf],bs:=[(0,36,kLw)],n:=73,nx:=1000,marks:=[] }
def C0o:XE→Lay:=fun _=>D9b
def Cm0 (x:SKTs kLw) (i:Int) (o:List (TCT Baf)):Bxm.T:=(((),o,i,()),(x,()))
def Byk (x:SKTs kLw) (o:List (TCT Baf)):Fq C0o:=⟨.exit 0,(((),o,()),(x,()))⟩
def C8w (x:SKTs kLw) (i:Int) (o w:List (TCT Baf)):Tree (Bxm.T⊕Fq C0o):=bif Bcs o w 24 then .leaf (.inl (Cm0 x (W64 (i+1)) (o++w))) else .fail
def C0p (x:SKTs kLw) (i:Int) (o:List (TCT Baf)) (h:TCT Bbq):Tree (Bxm.T⊕Fq C0o) :=
 bif h.2.2.2.2.1 then C8w x i o [Bn7 h.1 (W64 (h.2.1-dW h)) h.2.2.2.1,Bn7 h.1 (W64 (h.2.1+dW h)) h.2.2.2.1]
 else C8w x i o [Bn7 (W64 (h.1-dW h)) h.2.1 h.2.2.2.1,Bn7 (W64 (h.1+dW h)) h.2.1 h.2.2.2.1]
def C3z (g:Bxm.T):Tree (Bxm.T⊕Fq C0o) :=
 bif decide (g.1.2.2.1<((g.2.1.2.2.2.2.1:List (TCT Bbq)).length:Int)) then bif decide (0≤g.1.2.2.1∧g.1.2.2.1<((g.2.1.2.2.2.2.1:List (TCT Bbq)).length:Int)) then C0p g.2.1 g.1.2.2.1 g.1.2.1 (Bam g.2.1.2.2.2.2.1 (Int.toNat g.1.2.2.1) (Baj Bbq)) else .fail else .leaf (.inr (Byk g.2.1 g.1.2.1))
def Cm1 (g:Bxm.T):Nat:=(g.2.1.2.2.2.2.1:List (TCT Bbq)).length+1
noncomputable def D9c:Ctx:=ctx Tryz.prog [] []
theorem Cm2:CtxOk D9c:=Bas Bar puOk_nil V1
def Cux (l:TCT Ban):Option (Fq C0o):=iter C3z ((Bb0 l).length+1) (Cm0 (Bdi l) 0 [])
def C8x (r:D9b.T):TPo:=bif Bcs r.1.2.1 [Bjk (Bl2 r.2.1)] 24 then .leaf (r.1.2.1++[Bjk (Bl2 r.2.1)],()) else .fail
def D40 (l:TCT Ban):TPo:=bif isE (.exit 0) (Cux l) then C8x (Bc2 (.exit 0) (Cux l)) else .fail
theorem Cuy {l:TCT Ban} (hl:(Bb0 l).length≤1000):Cux l=some (Byk (Bdi l) ((Bb0 l).flatMap w2)):=by
 unfold Cux
 have key:=Bec (st:=C3z) (Bb0 l) (fun i o=>Cm0 (Bdi l) (i:Int) o) (fun _ h o=>some (.inl (o++w2 h))) (fun o=>some (Byk (Bdi l) o)) (fun i o=>o.length=2*i)
  (fun i o hi hI=>by
   simp only
   refine ⟨?_,by rw [List.length_append,hI,C8v];omega⟩
   show (bif decide ((i:Int)<((Bb0 l).length:Int)) then bif decide (0≤(i:Int)∧(i:Int)<((Bb0 l).length:Int)) then C0p (Bdi l) (i:Int) o (Bam (Bb0 l) (Int.toNat (i:Int)) (Baj Bbq)) else .fail else .leaf (.inr (Byk (Bdi l) o))).run=_
   rw [decide_eq_true (show (i:Int)<((Bb0 l).length:Int) by omega),decide_eq_true (show 0≤(i:Int)∧(i:Int)<((Bb0 l).length:Int) by omega),show Int.toNat (i:Int)=i by omega,Bby hi]
   simp only [cond_true]
   unfold C0p w2 C8w
   rw [Bb4 (n:=(i:Int)+1) (by omega) (by omega)]
   cases (Bb0 l)[i].2.2.2.2.1 with
   | true =>
    simp only [cond_true]
    rw [Byj (by simp only [List.length_cons,List.length_nil,hI];omega)]
    rfl
   | false =>
    simp only [cond_false]
    rw [Byj (by simp only [List.length_cons,List.length_nil,hI];omega)]
    rfl)
  (fun o e hI he=>by
   cases he
   show (bif decide (((Bb0 l).length:Int)<((Bb0 l).length:Int)) then _ else Tree.leaf (Sum.inr (Byk (Bdi l) o)):Tree (Bxm.T⊕Fq C0o)).run=_
   rw [decide_eq_false (show ¬ ((Bb0 l).length:Int)<((Bb0 l).length:Int) by omega)]
   rfl)
  (Bb0 l).length 0 [] (Byk (Bdi l) ((Bb0 l).flatMap w2)) ((Bb0 l).length+1) (by omega) (by omega) rfl (by rw [List.drop_zero,Bqj,List.nil_append])
 exact key
end St
end V
end Go.Proofs.YtcfanlgpkefogaaGreat
namespace Go.Proofs.YtcfanlgpkefogaaGreat
open Go.RowKit
namespace V
namespace St
theorem is_vname:FnIs Tryz.prog (115,Tryz.f115):=⟨Tryz.func115,by kernel_rfl,by kernel_rfl⟩
theorem is_vname1:FnIs Tryz.prog (147,Tryz.f147):=⟨Tryz.func147,by kernel_rfl,by kernel_rfl⟩
theorem is_sCont:FnIs Tryz.prog (146,Tryz.f146):=⟨Tryz.func146,by kernel_rfl,by kernel_rfl⟩
theorem is_sIdx:FnIs Tryz.prog (165,Tryz.f165):=⟨Tryz.func165,by kernel_rfl,by kernel_rfl⟩
theorem is_sidx:FnIs Tryz.prog (170,Tryz.f170):=⟨Tryz.func170,by kernel_rfl,by kernel_rfl⟩
def C41 (r:Int):Bool:=(decide (r<97)||decide (r>122))&&(decide (r<48)||decide (r>57))
def Cm3 (r:Int):TBo:=bif decide (r<97) then bif decide (r<48) then .leaf (true,()) else .leaf (decide (r>57),()) else bif decide (r>122) then bif decide (r<48) then .leaf (true,()) else .leaf (decide (r>57),()) else .leaf (false,())
abbrev Cm4:PureT:=Bbh [.i .i32] [.b] (fun _=>true) (fun x=>(C41 x.1,()))
theorem Cm5 (r:Int):(Cm3 r).sat (fun y=>y=(C41 r,())):=by
 unfold Cm3 C41
 cases decide (r<97) <;> cases decide (r>122) <;> cases decide (r<48) <;> exact rfl
theorem Cm6:Bai Tryz.prog 147 Cm4:=Bbj (Bas Bar puOk_nil (fns_cons is_vname1 V1)) 3 (fun x=>Cm3 x.1) (fun x=>by kernel_rfl) fun x _ _=>Cm5 x.1
def plNm:List (Nat×PureT):=[(147,Cm4)]
theorem puNm:Bcd Tryz.prog plNm:=puOk_cons is_vname1.plain Cm6 puOk_nil
def nmT (t:ByteArray):Nat→Nat→TBo
 | 0,_=>.fail
 | n+1,pos=>bif Nat.ble (pos+1) t.size then
   bif Bgj .i64 (pos:Int)&&Bgj .i32 ((Utf8.decode t pos).1:Int) then
    bif C41 ((Utf8.decode t pos).1:Int)==true then .leaf (!decide ((pos:Int)≥0),()) else nmT t n (pos+(Utf8.decode t pos).2)
   else .fail
  else .leaf (!decide ((-1:Int)≥0),())
def C0q (t:ByteArray):TBo:=bif Bgj .i64 (t.size:Int) then bif decide ((t.size:Int)≥1) then bif Bgj .i64 (t.size:Int) then bif decide ((t.size:Int)≤20) then nmT t 21 0 else .leaf (false,()) else .fail else .leaf (false,()) else .fail
noncomputable def D9d:Ctx:=Cjl 21 Tryz.prog plNm [(115,Tryz.f115),(146,Tryz.f146),(165,Tryz.f165),(170,Tryz.f170)]
theorem Cuz:CtxOk D9d:=Bn3 Bar puNm (fns_cons is_vname (fns_cons is_sCont (fns_cons is_sIdx (fns_cons is_sidx V1))))
theorem Ch4 (t:ByteArray):Bcr D9d 12 (.fn 115) [.val (.string t)] Bbz 0 (Bh7 Tryz.prog [.b])=C0q t:=by kernel_rfl
end St
end V
end Go.Proofs.YtcfanlgpkefogaaGreat
namespace Go.Proofs.YtcfanlgpkefogaaGreat
open Go.RowKit
namespace V
namespace St
def Bcz (t:ByteArray):List UInt8:=t.data.toList
def Bqk (b:UInt8):Bool:=C41 ((b.toNat:Nat):Int)
def Bi6 (t:ByteArray):Bool:=decide (1≤t.size∧t.size≤20)&&!(Bcz t).any Bqk
theorem Bmh (t:ByteArray):(Bcz t).length=t.size:=Array.length_toList
theorem Ch5 {n:Int} (h:0≤n) (h2:n≤9223372036854775807):Bgj .i64 n=true:=by
 unfold Bgj
 rw [decide_eq_true (show Bh0 .i64≤n by simp only [Bh0];omega),decide_eq_true (show n≤Bb2 .i64 by simp only [Bb2];omega)];rfl
theorem D9e {n:Int} (h:0≤n) (h2:n≤2147483647):Bgj .i32 n=true:=by
 unfold Bgj
 rw [decide_eq_true (show Bh0 .i32≤n by simp only [Bh0];omega),decide_eq_true (show n≤Bb2 .i32 by simp only [Bb2];omega)];rfl
theorem D41 {t:ByteArray} {i:Nat} (h:i<t.size):t.get! i=(Bcz t)[i]'(by rw [Bmh];exact h):=by
 have h':i<t.data.size:=h
 show t.data[i]! = _
 rw [getElem!_pos t.data i h']
 simp [Bcz]
theorem D42 {t:ByteArray} {i:Nat} (h:(t.get! i).toNat<128):Utf8.decode t i=((t.get! i).toNat,1):=by
 unfold Utf8.decode
 simp only [Nat.add_zero]
 rw [if_pos h]
theorem D43 {t:ByteArray} {i:Nat} (h:¬ (t.get! i).toNat<128):128≤(Utf8.decode t i).1∧(Utf8.decode t i).1≤2100000:=by
 have hb:(t.get! i).toNat<256:=(t.get! i).toNat_lt
 unfold Utf8.decode
 simp only [Nat.add_zero]
 rw [if_neg h]
 have m1:=Nat.mod_lt (t.get! (i+1)).toNat (show 0<64 by omega)
 have m2:=Nat.mod_lt (t.get! (i+2)).toNat (show 0<64 by omega)
 have m3:=Nat.mod_lt (t.get! (i+3)).toNat (show 0<64 by omega)
 have r:128≤Utf8.runeError∧Utf8.runeError≤2100000:=by decide
 split
 ·split
  ·rename_i hc
   simp only
   omega
  ·exact r
 ·split
  ·split
   ·rename_i hc
    simp only [ge_iff_le,Bool.and_eq_true,decide_eq_true_eq] at hc
    simp only
    omega
   ·exact r
  ·split
   ·split
    ·rename_i hc
     simp only [ge_iff_le,Bool.and_eq_true,decide_eq_true_eq] at hc
     simp only
     omega
    ·exact r
   ·exact r
theorem Cm7 {r:Nat} (h:128≤r):C41 (r:Int)=true:=by
 unfold C41
 rw [decide_eq_true (show (r:Int)>122 by omega),decide_eq_true (show (r:Int)>57 by omega)]
 simp
theorem Cm8 {t:ByteArray} (hs:t.size≤20):∀ (n pos:Nat),pos≤t.size→t.size-pos<n→nmT t n pos=.leaf (!((Bcz t).drop pos).any Bqk,())
 | 0,_,_,h=>absurd h (Nat.not_lt_zero _)
 | n+1,pos,hp,hn=>by
  unfold nmT
  by_cases hlt:pos<t.size
  ·have hb:Nat.ble (pos+1) t.size=true:=by rw [Nat.ble_eq];omega
   have hd:(Bcz t).drop pos=(Bcz t)[pos]'(by rw [Bmh];exact hlt)::(Bcz t).drop (pos+1):=List.drop_eq_getElem_cons _
   rw [hb,cond_true,hd,List.any_cons,← D41 hlt]
   by_cases h8:(t.get! pos).toNat<128
   ·rw [D42 h8]
    simp only
    have hk:(Bgj .i64 (pos:Int)&&Bgj .i32 (((t.get! pos).toNat:Nat):Int))=true:=by
     rw [Ch5 (by omega) (by omega),D9e (by omega) (by omega)];rfl
    rw [hk,cond_true]
    show (bif Bqk (t.get! pos)==true then _ else _:TBo)=_
    cases hbd:Bqk (t.get! pos) with
    | true =>
     rw [decide_eq_true (show (pos:Int)≥0 by omega)]
     rfl
    | false =>
     show nmT t n (pos+1)=_
     rw [Cm8 hs n (pos+1) (by omega) (by omega),Bool.false_or]
   ·obtain ⟨h1,h2⟩:=D43 h8
    have hk:(Bgj .i64 (pos:Int)&&Bgj .i32 (((Utf8.decode t pos).1:Nat):Int))=true:=by
     rw [Ch5 (by omega) (by omega),D9e (by omega) (by omega)];rfl
    have hbu:Bqk (t.get! pos)=true:=Cm7 (by omega)
    rw [hk,cond_true,Cm7 h1,hbu,decide_eq_true (show (pos:Int)≥0 by omega)]
    rfl
  ·have hb:Nat.ble (pos+1) t.size=false:=by
    cases h:Nat.ble (pos+1) t.size with
    | false=>rfl
    | true=>rw [Nat.ble_eq] at h;omega
   rw [hb,cond_false,List.drop_eq_nil_of_le (by rw [Bmh];omega)]
   rfl
theorem Ch6 {t:ByteArray} (h64:(t.size:Int)≤Bb2 .i64):(C0q t).sat (fun y=>y=(Bi6 t,())):=by
 unfold C0q Bi6
 have hk:Bgj .i64 (t.size:Int)=true:=Ch5 (by omega) (by simp only [Bb2] at h64;exact h64)
 rw [hk]
 simp only [cond_true]
 by_cases h1:1≤t.size
 ·rw [decide_eq_true (show (t.size:Int)≥1 by omega)]
  by_cases h2:t.size≤20
  ·rw [decide_eq_true (show (t.size:Int)≤20 by omega),decide_eq_true (show 1≤t.size∧t.size≤20 from ⟨h1,h2⟩),cond_true,cond_true,Cm8 h2 21 0 (by omega) (by omega)]
   exact rfl
  ·rw [decide_eq_false (show ¬ (t.size:Int)≤20 by omega),decide_eq_false (show ¬ (1≤t.size∧t.size≤20) from fun h=>h2 h.2)]
   exact rfl
 ·rw [decide_eq_false (show ¬ (t.size:Int)≥1 by omega),decide_eq_false (show ¬ (1≤t.size∧t.size≤20) from fun h=>h1 h.1)]
  exact rfl
end St
end V
end Go.Proofs.YtcfanlgpkefogaaGreat
namespace Go.Proofs.YtcfanlgpkefogaaGreat
open Go.RowKit
namespace V
namespace St
abbrev C0r:PureT:=Bbh [.s] [.b] (fun x=>decide ((x.1.size:Int)≤Bb2 .i64)) (fun x=>(Bi6 x.1,()))
theorem Cv0:Bai Tryz.prog 115 C0r:=Bbj Cuz 12 (fun x=>C0q x.1) (fun x=>Ch4 x.1) fun x hok _=>Ch6 (of_decide_eq_true hok)
def C8y:Lay:={ keys:=[0,3],ks:=[.d .s,.d cI],bs:=[],n:=41,nx:=1000,marks:=[] }
def Ddf:Lay:={ keys:=[],ks:=[],bs:=[],n:=41,nx:=1000,marks:=[] }
def D9g:Lay:={ keys:=[2],ks:=[.d .b],bs:=[],n:=41,nx:=1000,marks:=[] }
def C8z:XE→Lay:=fun e=>match e with | .ret=>D9g | _=>Ddf
def Byl (t:ByteArray) (i:Int):C8y.T:=((t,i,()),())
def Btz:Fq C8z:=⟨.ret,((false,()),())⟩
def C42:Fq C8z:=⟨.exit 0,((),())⟩
abbrev TNm:=Tree (C8y.T⊕Fq C8z)
def byI (t:ByteArray) (i:Int):Int:=((((t.data.toList.getD (Int.toNat i) 0).toNat:Nat)):Int)
def inI (t:ByteArray) (i:Int) (k:TNm):TNm:=bif decide (0≤i∧i<(t.size:Int)) then k else .fail
def C90 (t:ByteArray) (i:Int):TNm:=inI t i (bif decide (byI t i≥48) then inI t i (bif !decide (byI t i≤57) then .leaf (.inr Btz) else .leaf (.inl (Byl t (W64 (i+1))))) else .leaf (.inr Btz))
def Bu0 (t:ByteArray) (i:Int):TNm :=
 bif Bgj .i64 (t.size:Int) then bif decide (i<(t.size:Int)) then
  inI t i (bif decide (byI t i≥97) then inI t i (bif decide (byI t i≤122) then .leaf (.inl (Byl t (W64 (i+1)))) else C90 t i) else C90 t i)
 else .leaf (.inr C42) else .fail
def Bym (g:C8y.T):TNm:=Bu0 g.1.1 g.1.2.1
def Cm9 (g:C8y.T):Nat:=(Bcz g.1.1).length+1
noncomputable def D9h:Ctx:=ctx Tryz.prog [] []
theorem Cma:CtxOk D9h:=Bas Bar puOk_nil V1
def Cmb (t:ByteArray):Option (Fq C8z):=iter Bym ((Bcz t).length+1) (Byl t 0)
def D44 (t:ByteArray):TBo:=bif Bgj .i64 (t.size:Int) then bif decide ((t.size:Int)<1) then .leaf (false,()) else bif Bgj .i64 (t.size:Int) then bif decide ((t.size:Int)>20) then .leaf (false,()) else
 bif isE .ret (Cmb t) then .leaf ((Bc2 .ret (Cmb t)).1.1,()) else bif isE (.exit 0) (Cmb t) then .leaf (true,()) else .fail else .fail else .fail
theorem D45 {t:ByteArray} {i:Nat} (h:i<(Bcz t).length):byI t (i:Int)=((((Bcz t)[i]).toNat:Nat):Int):=by
 unfold byI
 rw [show Int.toNat (i:Int)=i by omega]
 show ((((Bcz t).getD i 0).toNat:Nat):Int)=_
 rw [List.getD_eq_getElem?_getD,List.getElem?_eq_getElem h]
 rfl
theorem Cv2 {t:ByteArray} (h64:(t.size:Int)≤Bb2 .i64):Cmb t=some (bif (Bcz t).any Bqk then Btz else C42):=by
 have h64':(t.size:Int)≤9223372036854775807:=h64
 have hlen:=Bmh t
 unfold Cmb
 have key:=Bec (st:=Bym) (Bcz t) (fun i (_:Unit)=>Byl t (i:Int)) (fun _ b _=>bif Bqk b then some (.inr Btz) else some (.inl ())) (fun _=>some C42) (fun _ _=>True)
  (fun i s hi _=>by
   have hI:decide (0≤(i:Int)∧(i:Int)<(t.size:Int))=true:=decide_eq_true (by omega)
   have hrun:(Bym (Byl t (i:Int))).run=some (bif Bqk (Bcz t)[i] then .inr Btz else .inl (Byl t ((i+1:Nat):Int))):=by
    show (Bu0 t (i:Int)).run=_
    unfold Bu0 C90 inI Bqk C41
    rw [Ch5 (by omega) h64',decide_eq_true (show (i:Int)<(t.size:Int) by omega),hI,D45 hi,Bb4 (n:=(i:Int)+1) (by omega) (by omega)]
    generalize ((((Bcz t)[i]).toNat:Nat):Int)=b
    by_cases h1:b<97
    ·rw [decide_eq_true h1,decide_eq_false (show ¬ b≥97 by omega)]
     by_cases h2:b<48
     ·rw [decide_eq_true h2,decide_eq_false (show ¬ b≥48 by omega)];simp;rfl
     ·rw [decide_eq_false h2,decide_eq_true (show b≥48 by omega)]
      by_cases h3:b>57
      ·rw [decide_eq_true h3,decide_eq_false (show ¬ b≤57 by omega)];simp;rfl
      ·rw [decide_eq_false h3,decide_eq_true (show b≤57 by omega)];simp;rfl
    ·rw [decide_eq_false h1,decide_eq_true (show b≥97 by omega)]
     by_cases h2:b>122
     ·rw [decide_eq_true h2,decide_eq_false (show ¬ b≤122 by omega),decide_eq_false (show ¬ b<48 by omega),decide_eq_true (show b≥48 by omega),decide_eq_true (show b>57 by omega),decide_eq_false (show ¬ b≤57 by omega)];simp;rfl
     ·rw [decide_eq_false h2,decide_eq_true (show b≤122 by omega)];simp;rfl
   cases hb:Bqk (Bcz t)[i] with
   | true =>
    rw [hb] at hrun
    simp only [cond_true]
    exact hrun
   | false =>
    rw [hb] at hrun
    simp only [cond_false]
    exact ⟨hrun,trivial⟩)
  (fun s e _ he=>by
   cases he
   show (Bu0 t (((Bcz t).length:Nat):Int)).run=_
   unfold Bu0
   rw [Ch5 (by omega) h64',decide_eq_false (show ¬ (((Bcz t).length:Nat):Int)<(t.size:Int) by omega)]
   rfl)
  (Bcz t).length 0 () (bif (Bcz t).any Bqk then Btz else C42) ((Bcz t).length+1) (by omega) (by omega) trivial (by rw [List.drop_zero];exact Bq9 Bqk (fun _=>Btz) C42 _ 0)
 exact key
theorem Cv3 {t:ByteArray} (h64:(t.size:Int)≤Bb2 .i64):(D44 t).sat (fun y=>y=(Bi6 t,())):=by
 unfold D44 Bi6
 rw [Ch5 (by omega) (show (t.size:Int)≤9223372036854775807 from h64),Cv2 h64]
 simp only [cond_true]
 by_cases h1:1≤t.size
 ·rw [decide_eq_false (show ¬ (t.size:Int)<1 by omega)]
  by_cases h2:t.size≤20
  ·rw [decide_eq_false (show ¬ (t.size:Int)>20 by omega),decide_eq_true (show 1≤t.size∧t.size≤20 from ⟨h1,h2⟩)]
   cases (Bcz t).any Bqk <;> exact rfl
  ·rw [decide_eq_true (show (t.size:Int)>20 by omega),decide_eq_false (show ¬ (1≤t.size∧t.size≤20) from fun h=>h2 h.2)]
   exact rfl
 ·rw [decide_eq_true (show (t.size:Int)<1 by omega),decide_eq_false (show ¬ (1≤t.size∧t.size≤20) from fun h=>h1 h.1)]
  exact rfl
end St
end V
end Go.Proofs.YtcfanlgpkefogaaGreat
namespace Go.Proofs.YtcfanlgpkefogaaGreat
open Go.RowKit
namespace V
namespace St
theorem is_Touch:FnIs Tryz.prog (150,Tryz.f150):=⟨Tryz.func150,by kernel_rfl,by kernel_rfl⟩
theorem is_tCD:FnIs Tryz.prog (155,Tryz.f155):=⟨Tryz.func155,by kernel_rfl,by kernel_rfl⟩
theorem is_tsq:FnIs Tryz.prog (68,Tryz.f68):=⟨Tryz.func68,by kernel_rfl,by kernel_rfl⟩
theorem is_cmp64:FnIs Tryz.prog (142,Tryz.f142):=⟨Tryz.func142,by kernel_rfl,by kernel_rfl⟩
theorem is_nan64:FnIs Tryz.prog (161,Tryz.f161):=⟨Tryz.func161,by kernel_rfl,by kernel_rfl⟩
theorem is_lapart:FnIs Tryz.prog (122,Tryz.f122):=⟨Tryz.func122,by kernel_rfl,by kernel_rfl⟩
def Cv5 (x y:Int):Int:=bif decide (x<y) then -1 else bif decide (x>y) then 1 else 0
def cdE (a:TCT Baf):Int:=Bvk a.1.1 a.1.2.1 a.2.1
def sqD (a b:TCT Baf):Int:=W64 (W64 (W64 (b.1.1-a.1.1)*W64 (b.1.1-a.1.1))+W64 (W64 (b.1.2.1-a.1.2.1)*W64 (b.1.2.1-a.1.2.1)))
def srD (a b:TCT Baf):Int:=W64 (W64 (a.2.1+b.2.1)*W64 (a.2.1+b.2.1))
def Ch7 (a b:TCT Baf):Int:=bif cdE a==0&&cdE b==0 then Cv5 (sqD a b) (srD a b) else 0
def D46 (a b:TCT Baf):Int:=bif cdE a==0&&cdE b==0 then 0 else 2
abbrev Ccn:PureT:=Bbh [Baf,Baf] [cI,cI] (fun _=>true) (fun x=>(Ch7 x.1 x.2.1,D46 x.1 x.2.1,()))
abbrev TTo:=Tree (TCTs [cI,cI])
def D1q (x y:Int):TTo:=bif x != x then bif y != y then .leaf (0,0,()) else .leaf (-1,0,()) else bif y != y then .leaf (1,0,()) else bif decide (x<y) then .leaf (-1,0,()) else bif decide (x>y) then .leaf (1,0,()) else .leaf (0,0,())
def C0s (a b:TCT Baf):TTo:=bif cdE a != 0 then .leaf (0,2,()) else bif cdE b != 0 then .leaf (0,2,()) else D1q (sqD a b) (srD a b)
theorem C91 (a b:TCT Baf):(C0s a b).sat (fun y=>y=(Ch7 a b,D46 a b,())):=by
 unfold C0s Ch7 D46 D1q Cv5
 rw [bne_self_eq_false,bne_self_eq_false]
 have e:∀ n:Int,(n != 0)=!(n==0):=fun _=>rfl
 rw [e,e]
 cases cdE a==0 <;> cases cdE b==0 <;> try exact rfl
 cases decide (sqD a b<srD a b) <;> cases decide (sqD a b>srD a b) <;> exact rfl
theorem Cv6:Bai Tryz.prog 150 Ccn:=Bbj (Bas Bar (puOk_cons is_tCD.plain Bs1 puOk_nil) (fns_cons is_Touch (fns_cons is_tsq (fns_cons is_cmp64 (fns_cons is_nan64 V1))))) 5 (fun x=>C0s x.1 x.2.1) (fun x=>by kernel_rfl) fun x _ _=>C91 _ _
def plAp:List (Nat×PureT):=[(150,Ccn),(105,s_inR)]
theorem puAp:Bcd Tryz.prog plAp:=puOk_cons is_Touch.plain Cv6 (puOk_cons is_between2.plain q_between2 puOk_nil)
noncomputable def Cco:Code:=(Bak (bodyOf Tryz.f122)).getD 0 .skip
noncomputable def Ccp:Code:=(Bak (bodyOf Tryz.f122)).getD 1 .skip
abbrev kD3:List SK:=[.d cI,.d cI,.d cI]
def d3 (d:SKTs kD3):TCT Baf:=((d.1,d.2.1,()),d.2.2.1,())
def D9i (d:TCT Baf):TCT Baf:=((d.1.1,d.1.2.1,()),d.2.1,())
def toD (d:TCT Baf):SKTs kD3:=(d.1.1,d.1.2.1,d.2.1,())
def Bxn:Lay:={ keys:=[1,2,6,11,12,13,46,47,48],ks:=[.d (.sl Baf),.p 0 0 0 0,.p 1000 0 0 0,.d (.sl Baf),.d cI,.d cI,.d (.sl Baf),.d cI,.d cI],bs:=[(0,36,kLw),(1000,33,kD3)],n:=62,nx:=2000,marks:=[] }
def D9j:Lay:={ keys:=[1,2,11,12,13],ks:=[.d (.sl Baf),.p 0 0 0 0,.d (.sl Baf),.d cI,.d cI],bs:=[(0,36,kLw)],n:=62,nx:=2000,marks:=[] }
def D1r:Lay:={ keys:=[4],ks:=[.d .b],bs:=[],n:=62,nx:=2000,marks:=[] }
def Bu1:XE→Lay:=fun e=>match e with | .ret=>D1r | _=>D9j
def Bu2:Lay:={ keys:=[1,2,11,12,13],ks:=[.d (.sl Baf),.p 0 0 0 0,.d (.sl Baf),.d cI,.d cI],bs:=[(0,36,kLw)],n:=62,nx:=1000,marks:=[] }
def Ddi:Lay:={ keys:=[],ks:=[],bs:=[],n:=62,nx:=2000,marks:=[] }
def C43:XE→Lay:=fun e=>match e with | .ret=>D1r | _=>Ddi
def Bu3 (x:SKTs kLw) (d:SKTs kD3) (p q:List (TCT Baf)) (n i:Int) (r:List (TCT Baf)) (m k:Int):Bxn.T:=((p,(),(),q,n,i,r,m,k,()),(x,d,()))
def Brr:Fq Bu1:=⟨.ret,((false,()),())⟩
def Brs (x:SKTs kLw) (p q:List (TCT Baf)) (n i:Int):Fq Bu1:=⟨.exit 2,((p,(),q,n,i,()),(x,()))⟩
def Bu4 (g:Bxn.T):Tree (Bxn.T⊕Fq Bu1) :=
 bif decide (g.1.2.2.2.2.2.2.2.2.1<g.1.2.2.2.2.2.2.2.1) then bif decide (0≤g.1.2.2.2.2.2.2.2.2.1∧g.1.2.2.2.2.2.2.2.2.1<((g.1.2.2.2.2.2.2.1:List (TCT Baf)).length:Int)) then
  bif decide (Ch7 (d3 g.2.2.1) (D9i (Bam g.1.2.2.2.2.2.2.1 (Int.toNat g.1.2.2.2.2.2.2.2.2.1) (Baj Baf)))<0) then .leaf (.inr Brr) else .leaf (.inl (Bu3 g.2.1 g.2.2.1 g.1.1 g.1.2.2.2.1 g.1.2.2.2.2.1 g.1.2.2.2.2.2.1 g.1.2.2.2.2.2.2.1 g.1.2.2.2.2.2.2.2.1 (W64 (g.1.2.2.2.2.2.2.2.2.1+1))))
 else .fail else .leaf (.inr (Brs g.2.1 g.1.1 g.1.2.2.2.1 g.1.2.2.2.2.1 g.1.2.2.2.2.2.1))
def Cmc (g:Bxn.T):Nat:=(g.1.2.2.2.2.2.2.1:List (TCT Baf)).length+1
noncomputable def C44:Ctx:=ctx Tryz.prog plAp []
theorem C45:CtxOk C44:=Bas Bar puAp V1
theorem Ddj:Baw Tryz.prog 122 Ccp (Bav Bxn Bu1 (Bcm [.ret,.exit 2] Bu4 Cmc)):=Bb9 C45 7 _ Bxn Bu1 (fun e=>by cases e <;> exact Nat.le_refl _) [.ret,.exit 2] Bu4 Cmc (fun g=>by kernel_rfl)
def Bgf {α:Type} (ok:Nat→α→Bool):Nat→List α→Bool
 | _,[]=>true
 | i,x::l=>ok i x&&Bgf ok (i+1) l
theorem Bu5 {α E:Type} (ok:Nat→α→Bool) (r d:E):∀ (l:List α) (i:Nat),Boi (fun i x (_:Unit)=>bif ok i x then some (.inl ()) else some (.inr r)) (fun _=>some d) i l ()=some (bif Bgf ok i l then d else r)
 | [],i=>rfl
 | x::l,i=>by
  simp only [Boi,Bgf]
  cases ok i x with
  | true=>simp only [cond_true,Bool.true_and];exact Bu5 ok r d l (i+1)
  | false=>rfl
def touB (d o:TCT Baf):Bool:=decide (Ch7 d o<0)
theorem Cv7 (x:SKTs kLw) (d:TCT Baf) (p q:List (TCT Baf)) (n i:Int) (r:List (TCT Baf)) (hr:(r.length:Int)≤Bb2 .i64) :
  iter Bu4 (r.length+1) (Bu3 x (toD d) p q n i r r.length 0)=some (bif r.any (touB d) then Brr else Brs x p q n i):=by
 have hr':(r.length:Int)≤9223372036854775807:=hr
 have key:=Bec (st:=Bu4) r (fun k (_:Unit)=>Bu3 x (toD d) p q n i r r.length (k:Int)) (fun _ o _=>bif touB d o then some (.inr Brr) else some (.inl ())) (fun _=>some (Brs x p q n i)) (fun _ _=>True)
  (fun k s hk _=>by
   have hrun:(Bu4 (Bu3 x (toD d) p q n i r r.length (k:Int))).run=some (bif touB d r[k] then .inr Brr else .inl (Bu3 x (toD d) p q n i r r.length ((k+1:Nat):Int))):=by
    show (bif decide ((k:Int)<(r.length:Int)) then bif decide (0≤(k:Int)∧(k:Int)<(r.length:Int)) then bif touB d (D9i (Bam r (Int.toNat (k:Int)) (Baj Baf))) then Tree.leaf (Sum.inr Brr) else .leaf (.inl (Bu3 x (toD d) p q n i r r.length (W64 ((k:Int)+1)))) else .fail else .leaf (.inr (Brs x p q n i)):Tree (Bxn.T⊕Fq Bu1)).run=_
    rw [decide_eq_true (show (k:Int)<(r.length:Int) by omega),decide_eq_true (show 0≤(k:Int)∧(k:Int)<(r.length:Int) by omega),show Int.toNat (k:Int)=k by omega,Bby hk,Bb4 (n:=(k:Int)+1) (by omega) (by omega)]
    show (bif touB d r[k] then _ else _:Tree (Bxn.T⊕Fq Bu1)).run=_
    cases touB d r[k] <;> rfl
   cases hb:touB d r[k] with
   | true=>rw [hb] at hrun;simp only [cond_true];exact hrun
   | false=>rw [hb] at hrun;simp only [cond_false];exact ⟨hrun,trivial⟩)
  (fun s e _ he=>by
   cases he
   show (bif decide ((r.length:Int)<(r.length:Int)) then _ else Tree.leaf (Sum.inr (Brs x p q n i)):Tree (Bxn.T⊕Fq Bu1)).run=_
   rw [decide_eq_false (show ¬ (r.length:Int)<(r.length:Int) by omega)]
   rfl)
  r.length 0 () (bif r.any (touB d) then Brr else Brs x p q n i) (r.length+1) (by omega) (by omega) trivial (by rw [List.drop_zero];exact Bq9 (touB d) (fun _=>Brr) (Brs x p q n i) _ 0)
 exact key
end St
end V
end Go.Proofs.YtcfanlgpkefogaaGreat
namespace Go.Proofs.YtcfanlgpkefogaaGreat
open Go.RowKit
namespace V
namespace St
def Byn (x:SKTs kLw) (p q:List (TCT Baf)) (n i:Int):Bu2.T:=((p,(),q,n,i,()),(x,()))
def Boy (b:Bool):Fq C43:=⟨.ret,((b,()),())⟩
def Brt:Fq C43:=⟨.exit 0,((),())⟩
abbrev TAo:=Tree (Bu2.T⊕Fq C43)
def D9k (x:SKTs kLw) (d:SKTs kD3) (p q:List (TCT Baf)) (n i:Int) (r:List (TCT Baf)):Option (Fq Bu1):=iter Bu4 (r.length+1) (Bu3 x d p q n i r r.length 0)
def D9l (r:D9j.T):Bu2.T:=Byn r.2.1 r.1.1 r.1.2.2.1 r.1.2.2.2.1 (W64 (r.1.2.2.2.2.1+1))
def D9m (y:Option (Fq Bu1)):TAo:=bif isE .ret y then .leaf (.inr (Boy (Bc2 .ret y).1.1)) else bif isE (.exit 2) y then .leaf (.inl (D9l (Bc2 (.exit 2) y))) else .fail
def Cmd (x:SKTs kLw) (p q:List (TCT Baf)) (n i:Int) (d:TCT Baf):TAo :=
 bif !inR d.1.1 d.2.1 (W64 (x.2.1-d.2.1)) then .leaf (.inr (Boy false)) else bif !inR d.1.2.1 d.2.1 (W64 (x.2.2.1-d.2.1)) then .leaf (.inr (Boy false)) else
 bif decide (0≤i∧i≤(p.length:Int)) then D9m (D9k x (toD d) p q n i (p.take (Int.toNat i))) else .fail
def Bu6 (g:Bu2.T):TAo :=
 bif decide (g.1.2.2.2.2.1<g.1.2.2.2.1) then bif decide (0≤g.1.2.2.2.2.1∧g.1.2.2.2.2.1<((g.1.2.2.1:List (TCT Baf)).length:Int)) then
  Cmd g.2.1 g.1.1 g.1.2.2.1 g.1.2.2.2.1 g.1.2.2.2.2.1 (Bam g.1.2.2.1 (Int.toNat g.1.2.2.2.2.1) (Baj Baf)) else .fail else .leaf (.inr Brt)
def Cme (g:Bu2.T):Nat:=(g.1.2.2.1:List (TCT Baf)).length+1
def D1s:Bie:=fun k=>bif Nat.beq k 7 then some (Bav Bxn Bu1 (Bcm [.ret,.exit 2] Bu4 Cmc)) else none
theorem Ddk (g:Bu2.T):evC C44.P (Bcr C44 7) C44.pures 122 C44.u D1s Cco (Bu2.of g) (Bet Bu2 C43)=Bu6 g:=by kernel_rfl
theorem Cmf:Bak Cco=[Ccp]:=by kernel_rfl
theorem Cmg:keyOf Ccp=7:=by kernel_rfl
theorem Ddl:Baw Tryz.prog 122 Cco (Bav Bu2 C43 (Bcm [.ret,.exit 0] Bu6 Cme)) :=
 Bmd C45 7 _ D1s (fun d hd f hf=>by
  rw [Cmf,List.mem_singleton] at hd
  subst hd
  rw [Cmg] at hf
  cases hf
  exact Ddj) Bu2 C43 (fun e=>by cases e <;> exact (by decide:(1000:Nat)≤2000)) [.ret,.exit 0] Bu6 Cme Ddk
theorem loops_in {P:Program} {f:Nat} {fn:Func} {la:Code} {sum:St→Tree (XE×St)} {k:Nat} (h1:∀ d ∈ Bak (bodyOf fn),keyOf d=k→d=la) (h2:Baw P f la sum) :
  ∀ p ∈ [(f,fn)],∀ d ∈ Bak (bodyOf p.2),∀ g,Bc4 [((f,k),sum)] p.1 (keyOf d)=some g→Baw P p.1 d g:=by
 intro p hp d hd g hg
 simp only [List.mem_singleton] at hp
 subst hp
 simp only at hd hg
 by_cases hk:keyOf d=k
 ·rw [h1 d hd hk]
  rw [hk] at hg
  simp [Bc4] at hg
  subst hg
  exact h2
 ·have:Nat.beq k (keyOf d)=false:=by
   cases h:Nat.beq k (keyOf d) with
   | false=>rfl
   | true=>exact absurd (Nat.eq_of_beq_eq_true h).symm hk
  simp only [Bc4,this,Bool.and_false,cond_false] at hg
  cases hg
theorem Cmh:Bak (bodyOf Tryz.f122)=[Cco,Ccp]:=by kernel_rfl
noncomputable def Ddm:Ctx:=Bh4 Tryz.prog plAp [(122,Tryz.f122)] [((122,2),Bav Bu2 C43 (Bcm [.ret,.exit 0] Bu6 Cme))]
theorem Cv8:CtxOk Ddm:=Bca Bar puAp (fns_cons is_lapart V1) (loops_in (fun d hd hk=>by
 rw [Cmh,List.mem_cons,List.mem_singleton] at hd
 rcases hd with rfl | rfl
 ·rfl
 ·rw [Cmg] at hk;cases hk) Ddl)
def Bnt (w l:Int) (d:TCT Baf):Bool:=inR d.1.1 d.2.1 (W64 (w-d.2.1))&&inR d.1.2.1 d.2.1 (W64 (l-d.2.1))
def apF (w l:Int) (p:List (TCT Baf)):Bool:=Bgf (fun i d=>Bnt w l d&&!(p.take i).any (touB d)) 0 p
def Cmi (l:TCT Ban) (p:List (TCT Baf)):Option (Fq C43):=iter Bu6 (p.length+1) (Byn (Bdi l) p p p.length 0)
def D47 (l:TCT Ban) (p:List (TCT Baf)):TBo:=bif isE .ret (Cmi l p) then .leaf ((Bc2 .ret (Cmi l p)).1.1,()) else bif isE (.exit 0) (Cmi l p) then .leaf (true,()) else .fail
theorem Cv9 (l:TCT Ban) (p:List (TCT Baf)) (hp:(p.length:Int)≤Bb2 .i64):Cmi l p=some (bif apF l.2.1 l.2.2.1 p then Brt else Boy false):=by
 have hp':(p.length:Int)≤9223372036854775807:=hp
 unfold Cmi
 have key:=Bec (st:=Bu6) p (fun i (_:Unit)=>Byn (Bdi l) p p p.length (i:Int)) (fun i d _=>bif Bnt l.2.1 l.2.2.1 d&&!(p.take i).any (touB d) then some (.inl ()) else some (.inr (Boy false))) (fun _=>some Brt) (fun _ _=>True)
  (fun i s hi _=>by
   have hrun:(Bu6 (Byn (Bdi l) p p p.length (i:Int))).run=some (bif Bnt l.2.1 l.2.2.1 p[i]&&!(p.take i).any (touB p[i]) then .inl (Byn (Bdi l) p p p.length ((i+1:Nat):Int)) else .inr (Boy false)):=by
    show (bif decide ((i:Int)<(p.length:Int)) then bif decide (0≤(i:Int)∧(i:Int)<(p.length:Int)) then Cmd (Bdi l) p p p.length (i:Int) (Bam p (Int.toNat (i:Int)) (Baj Baf)) else .fail else .leaf (.inr Brt):TAo).run=_
    rw [decide_eq_true (show (i:Int)<(p.length:Int) by omega),decide_eq_true (show 0≤(i:Int)∧(i:Int)<(p.length:Int) by omega),show Int.toNat (i:Int)=i by omega,Bby hi]
    simp only [cond_true]
    unfold Cmd Bnt
    have hw:(Bdi l).2.1=l.2.1:=rfl
    have hl:(Bdi l).2.2.1=l.2.2.1:=rfl
    rw [hw,hl]
    cases inR p[i].1.1 p[i].2.1 (W64 (l.2.1-p[i].2.1)) with
    | false=>rfl
    | true =>
     cases inR p[i].1.2.1 p[i].2.1 (W64 (l.2.2.1-p[i].2.1)) with
     | false=>rfl
     | true =>
      simp only [Bool.not_true,cond_false,Bool.true_and]
      have ht:(p.take i).length=i:=by rw [List.length_take];omega
      have hy:D9k (Bdi l) (toD p[i]) p p p.length (i:Int) (p.take i)=some (bif (p.take i).any (touB p[i]) then Brr else Brs (Bdi l) p p p.length (i:Int)) :=
       Cv7 (Bdi l) p[i] p p p.length (i:Int) (p.take i) (by rw [ht];show (i:Int)≤9223372036854775807;omega)
      rw [decide_eq_true (show 0≤(i:Int)∧(i:Int)≤(p.length:Int) by omega),cond_true,show Int.toNat (i:Int)=i by omega,hy]
      cases (p.take i).any (touB p[i]) with
      | true=>rfl
      | false =>
       show (Tree.leaf (Sum.inl (Byn (Bdi l) p p p.length (W64 ((i:Int)+1)))):TAo).run=_
       rw [Bb4 (n:=(i:Int)+1) (by omega) (by omega)]
       rfl
   cases hb:Bnt l.2.1 l.2.2.1 p[i]&&!(p.take i).any (touB p[i]) with
   | true=>rw [hb] at hrun;simp only [cond_true];exact ⟨hrun,trivial⟩
   | false=>rw [hb] at hrun;simp only [cond_false];exact hrun)
  (fun s e _ he=>by
   cases he
   show (bif decide ((p.length:Int)<(p.length:Int)) then _ else Tree.leaf (Sum.inr Brt):TAo).run=_
   rw [decide_eq_false (show ¬ (p.length:Int)<(p.length:Int) by omega)]
   rfl)
  p.length 0 () (bif apF l.2.1 l.2.2.1 p then Brt else Boy false) (p.length+1) (by omega) (by omega) trivial (by
   rw [List.drop_zero]
   exact Bu5 (fun i d=>Bnt l.2.1 l.2.2.1 d&&!(p.take i).any (touB d)) (Boy false) Brt p 0)
 exact key
abbrev Ccq:PureT:=Bbh [Ban,.sl Baf] [.b] (fun _=>true) (fun x=>(apF x.1.2.1 x.1.2.2.1 x.2.1,()))
theorem Cva:Bai Tryz.prog 122 Ccq:=Bbj Cv8 7 (fun x=>D47 x.1 x.2.1) (fun x=>by kernel_rfl) fun x _ hw=>by
 show (D47 x.1 x.2.1).sat _
 unfold D47
 rw [Cv9 x.1 x.2.1 (Bez hw.2.1)]
 show ((bif isE .ret (some (bif apF x.1.2.1 x.1.2.2.1 x.2.1 then Brt else Boy false)) then _ else _:TBo)).sat (fun y=>y=(apF x.1.2.1 x.1.2.2.1 x.2.1,()))
 cases apF x.1.2.1 x.1.2.2.1 x.2.1 <;> exact rfl
end St
end V
end Go.Proofs.YtcfanlgpkefogaaGreat
namespace Go.Proofs.YtcfanlgpkefogaaGreat
open Go.RowKit
namespace V
namespace St
theorem is_lCheck:FnIs Tryz.prog (75,Tryz.f75):=⟨Tryz.func75,by kernel_rfl,by kernel_rfl⟩
def nxL (l:TCT Ban):Int:=l.2.2.2.2.2.2.1
def nyL (l:TCT Ban):Int:=l.2.2.2.2.2.2.2.1
def Bcb (l:TCT Ban):List (TCT Bc5):=l.2.2.2.2.2.2.2.2.1
def Bkv (l:TCT Ban):Bool:=decide (((Bb0 l).length:Int)<1)||(decide (((Bb0 l).length:Int)>12)||decide (((Bcb l).length:Int)>256))
def C92 (l:TCT Ban):Bool:=Bi6 l.1&&(inR l.2.1 65536 4194304&&(inR l.2.2.1 65536 4194304&&inR l.2.2.2.1 0 (W64 (Int.tdiv (min l.2.1 l.2.2.1) 4))))
def C93 (l:TCT Ban):Bool:=!decide (nxL l<1)&&(!decide (nxL l>16)&&(!decide (nyL l<1)&&(!decide (nyL l>16)&&!(((Bcb l).length:Int)!=W64 (nxL l*nyL l)))))
def okL (l:TCT Ban):Bool:=C92 l&&(inR (Bjk l).2.1 1 8192&&(C93 l&&((Bb0 l).all Bf7&&((Bcb l).all Bfv&&apF l.2.1 l.2.2.1 (Bb7 l)))))
def Bc3 (l:TCT Ban):Int:=bif Bkv l then 6 else bif okL l then 0 else 2
abbrev Bru:PureT:=Bbh [Ban] [cI] (fun x=>decide ((x.1.1.size:Int)≤Bb2 .i64)) (fun x=>(Bc3 x.1,()))
def plLc:List (Nat×PureT):=[(115,C0r),(105,s_inR),(74,Bk5),(122,Ccq),(116,C3k),(119,C3p)]
theorem puLc:Bcd Tryz.prog plLc:=puOk_cons is_vname.plain Cv0 (puOk_cons is_between2.plain q_between2 (puOk_cons is_lposts.plain C0n (puOk_cons is_lapart.plain Cva (puOk_cons is_cfHoop.plain Clj (puOk_cons is_cfCell.plain Clo puOk_nil)))))
abbrev TEr:=Tree (TCTs [cI])
def er (c:Bool) (e:Int) (k:TEr):TEr:=bif c then .leaf (e,()) else k
theorem Bkw {a b:Bool} {e:Int} {k:TEr}:er (a||b) e k=er a e (er b e k):=by cases a <;> cases b <;> rfl
def D48 (l:TCT Ban):TEr :=
 er (decide (((Bb0 l).length:Int)<1)) 6 (er (decide (((Bb0 l).length:Int)>12)) 6 (er (decide (((Bcb l).length:Int)>256)) 6 (
 bif decide ((l.1.size:Int)≤Bb2 .i64) then er (!Bi6 l.1) 2 (er (!inR l.2.1 65536 4194304) 2 (er (!inR l.2.2.1 65536 4194304) 2 (er (!inR l.2.2.2.1 0 (W64 (Int.tdiv (min l.2.1 l.2.2.1) 4))) 2 (er (!inR (Bjk l).2.1 1 8192) 2 (
  er (decide (nxL l<1)) 2 (er (decide (nxL l>16)) 2 (er (decide (nyL l<1)) 2 (er (decide (nyL l>16)) 2 (er (((Bcb l).length:Int)!=W64 (nxL l*nyL l)) 2 (
  er ((Bb0 l).any (Bdf ())) 2 (er ((Bcb l).any (Bdg ())) 2 (
  bif decide ((Bb0 l).length≤1000) then er (!apF l.2.1 l.2.2.1 (Bb7 l)) 2 (.leaf (0,())) else .fail))))))))))))
 else .fail)))
theorem Bis {α:Type} (p:α→Bool) (l:List α):l.any (fun x=>!p x)=!l.all p:=by
 induction l with
 | nil=>rfl
 | cons x l ih=>simp only [List.any_cons,List.all_cons,ih,Bool.not_and]
theorem Cvb {l:TCT Ban} (hs:(l.1.size:Int)≤Bb2 .i64):(D48 l).sat (fun y=>y=(Bc3 l,())):=by
 unfold D48 Bc3
 rw [← Bkw,← Bkw,Bool.or_assoc]
 show (er (Bkv l) 6 _).sat _
 cases hm:Bkv l with
 | true=>exact rfl
 | false =>
  have h12:(Bb0 l).length≤1000:=by
   unfold Bkv at hm
   simp only [Bool.or_eq_false_iff,decide_eq_false_iff_not] at hm
   omega
  rw [decide_eq_true hs,decide_eq_true h12]
  show (er (!Bi6 l.1) 2 _).sat (fun y=>y=((bif okL l then 0 else 2),()))
  have hh:(Bb0 l).any (Bdf ())=!(Bb0 l).all Bf7:=Bis Bf7 _
  have hc:(Bcb l).any (Bdg ())=!(Bcb l).all Bfv:=Bis Bfv _
  rw [hh,hc]
  unfold okL C92 C93
  simp only [cond_true]
  generalize Bi6 l.1=b1
  generalize inR l.2.1 65536 4194304=b2
  generalize inR l.2.2.1 65536 4194304=b3
  generalize inR l.2.2.2.1 0 (W64 (Int.tdiv (min l.2.1 l.2.2.1) 4))=b4
  generalize inR (Bjk l).2.1 1 8192=b5
  generalize decide (nxL l<1)=b6
  generalize decide (nxL l>16)=b7
  generalize decide (nyL l<1)=b8
  generalize decide (nyL l>16)=b9
  generalize (((Bcb l).length:Int)!=W64 (nxL l*nyL l))=b10
  generalize (Bb0 l).all Bf7=b11
  generalize (Bcb l).all Bfv=b12
  generalize apF l.2.1 l.2.2.1 (Bb7 l)=b13
  cases b1 <;> try exact rfl
  cases b2 <;> try exact rfl
  cases b3 <;> try exact rfl
  cases b4 <;> try exact rfl
  cases b5 <;> try exact rfl
  cases b6 <;> try exact rfl
  cases b7 <;> try exact rfl
  cases b8 <;> try exact rfl
  cases b9 <;> try exact rfl
  cases b10 <;> try exact rfl
  cases b11 <;> try exact rfl
  cases b12 <;> try exact rfl
  cases b13 <;> exact rfl
theorem Boz:Bai Tryz.prog 75 Bru:=Bbj (Bas Bar puLc (fns_cons is_lCheck V1)) 7 (fun x=>D48 x.1) (fun x=>by kernel_rfl) fun x hok _=>Cvb (of_decide_eq_true hok)
end St
end V
end Go.Proofs.YtcfanlgpkefogaaGreat
namespace Go.Proofs.YtcfanlgpkefogaaGreat
open Go.RowKit
namespace V
namespace St
theorem Bld {G E α:Type} {st:G→Tree (G⊕E)} (l:List α) (d:α) (hd:Int→G) (bad:α→Bool) (rt ex:E) (hl:(l.length:Int)≤Bb2 .i64)
  (h:∀ i:Int,st (hd i)=bif decide (i<(l.length:Int)) then bif decide (0≤i∧i<(l.length:Int)) then bif bad (Bam l (Int.toNat i) d) then .leaf (.inr rt) else .leaf (.inl (hd (W64 (i+1)))) else .fail else .leaf (.inr ex)) :
  iter st (l.length+1) (hd 0)=some (bif l.any bad then rt else ex):=by
 have hl':(l.length:Int)≤9223372036854775807:=hl
 have key:=Bec (st:=st) l (fun i (_:Unit)=>hd (i:Int)) (fun _ x _=>bif bad x then some (.inr rt) else some (.inl ())) (fun _=>some ex) (fun _ _=>True)
  (fun i s hi _=>by
   have hrun:(st (hd (i:Int))).run=some (bif bad l[i] then .inr rt else .inl (hd ((i+1:Nat):Int))):=by
    rw [h,decide_eq_true (show (i:Int)<(l.length:Int) by omega),decide_eq_true (show 0≤(i:Int)∧(i:Int)<(l.length:Int) by omega),show Int.toNat (i:Int)=i by omega,Bby hi,Bb4 (n:=(i:Int)+1) (by omega) (by omega)]
    cases bad l[i] <;> rfl
   cases hb:bad l[i] with
   | true=>rw [hb] at hrun;simp only [cond_true];exact hrun
   | false=>rw [hb] at hrun;simp only [cond_false];exact ⟨hrun,trivial⟩)
  (fun s e _ he=>by
   cases he
   rw [h,decide_eq_false (show ¬ (l.length:Int)<(l.length:Int) by omega)]
   rfl)
  l.length 0 () (bif l.any bad then rt else ex) (l.length+1) (by omega) (by omega) trivial (by rw [List.drop_zero];exact Bq9 bad (fun _=>rt) ex _ 0)
 exact key
theorem Bu7 {G E α:Type} {st:G→Tree (G⊕E)} (l:List α) (d:α) (hd:Int→G) (ok:Nat→α→Bool) (body:Int→α→Tree (G⊕E)) (rt ex:E) (hl:(l.length:Int)≤Bb2 .i64)
  (h:∀ i:Int,st (hd i)=bif decide (i<(l.length:Int)) then bif decide (0≤i∧i<(l.length:Int)) then body i (Bam l (Int.toNat i) d) else .fail else .leaf (.inr ex))
  (hb:∀ (i:Nat) (hi:i<l.length),(body (i:Int) l[i]).run=some (bif ok i l[i] then .inl (hd ((i+1:Nat):Int)) else .inr rt)) :
  iter st (l.length+1) (hd 0)=some (bif Bgf ok 0 l then ex else rt):=by
 have hl':(l.length:Int)≤9223372036854775807:=hl
 have key:=Bec (st:=st) l (fun i (_:Unit)=>hd (i:Int)) (fun i x _=>bif ok i x then some (.inl ()) else some (.inr rt)) (fun _=>some ex) (fun _ _=>True)
  (fun i s hi _=>by
   have hrun:(st (hd (i:Int))).run=some (bif ok i l[i] then .inl (hd ((i+1:Nat):Int)) else .inr rt):=by
    rw [h,decide_eq_true (show (i:Int)<(l.length:Int) by omega),decide_eq_true (show 0≤(i:Int)∧(i:Int)<(l.length:Int) by omega),show Int.toNat (i:Int)=i by omega,Bby hi]
    exact hb i hi
   cases hk:ok i l[i] with
   | true=>rw [hk] at hrun;simp only [cond_true];exact ⟨hrun,trivial⟩
   | false=>rw [hk] at hrun;simp only [cond_false];exact hrun)
  (fun s e _ he=>by
   cases he
   rw [h,decide_eq_false (show ¬ (l.length:Int)<(l.length:Int) by omega)]
   rfl)
  l.length 0 () (bif Bgf ok 0 l then ex else rt) (l.length+1) (by omega) (by omega) trivial (by rw [List.drop_zero];exact Bu5 ok rt ex _ 0)
 exact key
def plRc:List (Nat×PureT):=[]
theorem puRc:Bcd Tryz.prog plRc:=puOk_nil
abbrev bL:BK:=(0,36,kLw)
def C94:Lay:={ keys:=[1,3],ks:=[.p 0 0 0 0,.d cI],bs:=[bL],n:=224,nx:=1000,marks:=[] }
def C48:Lay:={ keys:=[1],ks:=[.p 0 0 0 0],bs:=[bL],n:=224,nx:=1000,marks:=[] }
def Ddn:Lay:={ keys:=[2],ks:=[.d cI],bs:=[],n:=224,nx:=1000,marks:=[] }
def Bql:XE→Lay:=fun e=>match e with | .ret=>Ddn | _=>C48
def Cml (x:SKTs kLw) (i:Int):C94.T:=(((),i,()),(x,()))
def Byo:Fq Bql:=⟨.ret,((2,()),())⟩
def Cmm (x:SKTs kLw):Fq Bql:=⟨.exit 0,(((),()),(x,()))⟩
def Ddo (h:TCT Bbq):TCT Bbq:=(h.1,h.2.1,h.2.2.1,h.2.2.2.1,h.2.2.2.2.1,())
def hsX (x:SKTs kLw):List (TCT Bbq):=x.2.2.2.2.1
def csX (x:SKTs kLw):List (TCT Bc5):=x.2.2.2.2.2.2.2.2.2.2.1
def Ccs (g:C94.T):Tree (C94.T⊕Fq Bql):=bif decide (g.1.2.1<((hsX g.2.1).length:Int)) then bif decide (0≤g.1.2.1∧g.1.2.1<((hsX g.2.1).length:Int)) then
 bif !Bf7 (Ddo (Bam (hsX g.2.1) (Int.toNat g.1.2.1) (Baj Bbq))) then .leaf (.inr Byo) else .leaf (.inl (Cml g.2.1 (W64 (g.1.2.1+1)))) else .fail else .leaf (.inr (Cmm g.2.1))
def Cmn (g:C94.T):Nat:=(hsX g.2.1).length+1
def C95:Lay:={ keys:=[1,4],ks:=[.p 0 0 0 0,.d cI],bs:=[bL],n:=224,nx:=1000,marks:=[] }
def Cmo (x:SKTs kLw) (i:Int):C95.T:=(((),i,()),(x,()))
def Cmp (x:SKTs kLw):Fq Bql:=⟨.exit 2,(((),()),(x,()))⟩
def Cct (g:C95.T):Tree (C95.T⊕Fq Bql):=bif decide (g.1.2.1<((csX g.2.1).length:Int)) then bif decide (0≤g.1.2.1∧g.1.2.1<((csX g.2.1).length:Int)) then
 bif !Bfv (Bam (csX g.2.1) (Int.toNat g.1.2.1) (Baj Bc5)) then .leaf (.inr Byo) else .leaf (.inl (Cmo g.2.1 (W64 (g.1.2.1+1)))) else .fail else .leaf (.inr (Cmp g.2.1))
def Cmq (g:C95.T):Nat:=(csX g.2.1).length+1
end St
end V
end Go.Proofs.YtcfanlgpkefogaaGreat
namespace Go.Proofs.YtcfanlgpkefogaaGreat
open Go.RowKit
namespace V
namespace St
def C49:Lay:={ keys:=[1,5,6,7],ks:=[.p 0 0 0 0,.d (.sl Baf),.d cI,.d cI],bs:=[bL],n:=224,nx:=2000,marks:=[] }
def D9n:Lay:={ keys:=[1,5,6],ks:=[.p 0 0 0 0,.d (.sl Baf),.d cI],bs:=[bL],n:=224,nx:=2000,marks:=[] }
def D1t:Lay:={ keys:=[2],ks:=[.d cI],bs:=[],n:=224,nx:=2000,marks:=[] }
def C0t:XE→Lay:=fun e=>match e with | .ret=>D1t | _=>D9n
def Bu8:Lay:={ keys:=[1,5,6],ks:=[.p 0 0 0 0,.d (.sl Baf),.d cI],bs:=[bL],n:=224,nx:=1000,marks:=[] }
def Ddr:Lay:={ keys:=[],ks:=[],bs:=[],n:=224,nx:=2000,marks:=[] }
def C4a:XE→Lay:=fun e=>match e with | .ret=>D1t | _=>Ddr
def sqR (a b:TCT Baf):Int:=W64 (W64 (W64 (a.1.1-b.1.1)*W64 (a.1.1-b.1.1))+W64 (W64 (a.1.2.1-b.1.2.1)*W64 (a.1.2.1-b.1.2.1)))
def Bxo (d o:TCT Baf):Bool:=decide (sqR d o<srD d o)
def inP {β:Type} (p:List (TCT Baf)) (i:Int) (k:Tree β):Tree β:=bif decide (0≤i∧i<(p.length:Int)) then k else .fail
theorem Bfw {β:Type} {p:List (TCT Baf)} {i:Int} {k:Tree β} (h:0≤i∧i<(p.length:Int)):inP p i k=k:=by unfold inP;rw [decide_eq_true h];rfl
def gD (p:List (TCT Baf)) (i:Int):TCT Baf:=Bam p (Int.toNat i) (Baj Baf)
def Ccu (x:SKTs kLw) (p:List (TCT Baf)) (i k:Int):C49.T:=(((),p,i,k,()),(x,()))
def Ccv:Fq C0t:=⟨.ret,((2,()),())⟩
def Ccw (x:SKTs kLw) (p:List (TCT Baf)) (i:Int):Fq C0t:=⟨.exit 6,(((),p,i,()),(x,()))⟩
def C96 (x:SKTs kLw) (p:List (TCT Baf)) (i k:Int):Tree (C49.T⊕Fq C0t):=bif decide (k<i) then
 inP p i (inP p k (inP p i (inP p k (inP p i (inP p k (inP p i (inP p k (bif Bxo (gD p i) (gD p k) then .leaf (.inr Ccv) else .leaf (.inl (Ccu x p i (W64 (k+1)))))))))))) else .leaf (.inr (Ccw x p i))
def C4b (g:C49.T):Tree (C49.T⊕Fq C0t):=C96 g.2.1 g.1.2.1 g.1.2.2.1 g.1.2.2.2.1
def Cmr (g:C49.T):Nat:=(List.take (Int.toNat g.1.2.2.1) (g.1.2.1:List (TCT Baf))).length+1
theorem Cvc (x:SKTs kLw) (p:List (TCT Baf)) (i:Nat) (hi:i<p.length) (hp:(p.length:Int)≤Bb2 .i64) :
  iter C4b ((p.take i).length+1) (Ccu x p i 0)=some (bif (p.take i).any (Bxo p[i]) then Ccv else Ccw x p i):=by
 have ht:(p.take i).length=i:=by rw [List.length_take];omega
 have hp':(p.length:Int)≤9223372036854775807:=hp
 refine Bld (p.take i) (Baj Baf) (fun k=>Ccu x p i k) (Bxo p[i]) Ccv (Ccw x p i) (by rw [ht];show (i:Int)≤9223372036854775807;omega) fun k=>?_
 show C96 x p i k=_
 unfold C96
 rw [ht]
 by_cases hk:k<(i:Int)
 ·rw [decide_eq_true hk,cond_true,cond_true]
  by_cases h0:0≤k
  ·have hki:0≤k∧k<(p.length:Int):=by omega
   have hii:0≤(i:Int)∧(i:Int)<(p.length:Int):=by omega
   have e1:gD p (i:Int)=p[i]:=by unfold gD;rw [show Int.toNat (i:Int)=i by omega,Bby hi]
   have e2:gD p k=Bam (p.take i) (Int.toNat k) (Baj Baf):=by
    unfold gD
    have h1:Int.toNat k<p.length:=by omega
    have h2:Int.toNat k<(p.take i).length:=by omega
    rw [Bby h1,Bby h2,List.getElem_take]
   rw [Bfw hii,Bfw hki,Bfw hii,Bfw hki,Bfw hii,Bfw hki,Bfw hii,Bfw hki,e1,e2,decide_eq_true (show 0≤k∧k<(i:Int) by omega)]
   rfl
  ·have hii:0≤(i:Int)∧(i:Int)<(p.length:Int):=by omega
   rw [Bfw hii,decide_eq_false (show ¬ (0≤k∧k<(i:Int)) by omega)]
   unfold inP
   rw [decide_eq_false (show ¬ (0≤k∧k<(p.length:Int)) by omega)]
   rfl
 ·rw [decide_eq_false hk];rfl
def Ccx (x:SKTs kLw) (p:List (TCT Baf)) (i:Int):Bu8.T:=(((),p,i,()),(x,()))
def Byp (e:Int):Fq C4a:=⟨.ret,((e,()),())⟩
def Ccy:Fq C4a:=⟨.exit 4,((),())⟩
abbrev TC3:=Tree (Bu8.T⊕Fq C4a)
def D49 (x:SKTs kLw) (p:List (TCT Baf)) (i:Int):Option (Fq C0t):=iter C4b ((p.take (Int.toNat i)).length+1) (Ccu x p i 0)
def D9o (r:D9n.T):Bu8.T:=Ccx r.2.1 r.1.2.1 (W64 (r.1.2.2.1+1))
def D9p (y:Option (Fq C0t)):TC3:=bif isE .ret y then .leaf (.inr (Byp (Bc2 .ret y).1.1)) else bif isE (.exit 6) y then .leaf (.inl (D9o (Bc2 (.exit 6) y))) else .fail
def Cms (x:SKTs kLw) (p:List (TCT Baf)) (i:Int) (d:TCT Baf):TC3 :=
 inP p i (inP p i (bif !inR d.1.1 d.2.1 (W64 (x.2.1-d.2.1)) then .leaf (.inr (Byp 2)) else inP p i (inP p i (inP p i (bif !inR d.1.2.1 d.2.1 (W64 (x.2.2.1-d.2.1)) then .leaf (.inr (Byp 2)) else D9p (D49 x p i))))))
def C4c (g:Bu8.T):TC3:=bif decide (g.1.2.2.1<((g.1.2.1:List (TCT Baf)).length:Int)) then bif decide (0≤g.1.2.2.1∧g.1.2.2.1<((g.1.2.1:List (TCT Baf)).length:Int)) then Cms g.2.1 g.1.2.1 g.1.2.2.1 (gD g.1.2.1 g.1.2.2.1) else .fail else .leaf (.inr Ccy)
def Cmt (g:Bu8.T):Nat:=(g.1.2.1:List (TCT Baf)).length+1
def D1u:Bie:=fun k=>bif Nat.beq k 24 then some (Bav C49 C0t (Bcm [.ret,.exit 6] C4b Cmr)) else none
end St
end V
end Go.Proofs.YtcfanlgpkefogaaGreat
namespace Go.Proofs.YtcfanlgpkefogaaGreat
open Go.RowKit
namespace V
namespace St
def Cmy (x:SKTs kLw):Option (Fq Bql):=iter Ccs ((hsX x).length+1) (Cml x 0)
def Cmz (x:SKTs kLw):Option (Fq Bql):=iter Cct ((csX x).length+1) (Cmo x 0)
def Cn0 (x:SKTs kLw) (p:List (TCT Baf)):Option (Fq C4a):=iter C4c (p.length+1) (Ccx x p 0)
def Cn1 (r:C48.T):TEr:=bif decide ((hsX r.2.1).length≤1000) then
 bif isE .ret (Cn0 r.2.1 (Bb7 (Bl2 r.2.1))) then .leaf ((Bc2 .ret (Cn0 r.2.1 (Bb7 (Bl2 r.2.1)))).1.1,()) else bif isE (.exit 4) (Cn0 r.2.1 (Bb7 (Bl2 r.2.1))) then .leaf (0,()) else .fail else .fail
def Cn2 (r:C48.T):TEr:=er (!inR (Bjk (Bl2 r.2.1)).2.1 1 8192) 2 (er (!inR (Bjk (Bl2 r.2.1)).1.1 0 4194304) 2 (er (!inR (Bjk (Bl2 r.2.1)).1.2.1 0 4194304) 2 (
 er (decide (nxL (Bl2 r.2.1)<1)) 2 (er (decide (nxL (Bl2 r.2.1)>16)) 2 (er (decide (nyL (Bl2 r.2.1)<1)) 2 (er (decide (nyL (Bl2 r.2.1)>16)) 2 (er (((csX r.2.1).length:Int)!=W64 (nxL (Bl2 r.2.1)*nyL (Bl2 r.2.1))) 2 (
 bif isE .ret (Cmz r.2.1) then .leaf ((Bc2 .ret (Cmz r.2.1)).1.1,()) else bif isE (.exit 2) (Cmz r.2.1) then Cn1 (Bc2 (.exit 2) (Cmz r.2.1)) else .fail))))))))
def Cve (l:TCT Ban):TEr :=
 er (decide (((Bb0 l).length:Int)<1)) 6 (er (decide (((Bb0 l).length:Int)>12)) 6 (er (decide (((Bcb l).length:Int)>256)) 6 (
 bif decide ((l.1.size:Int)≤Bb2 .i64) then er (!Bi6 l.1) 2 (er (!inR l.2.1 65536 4194304) 2 (er (!inR l.2.2.1 65536 4194304) 2 (er (!inR l.2.2.2.1 0 (W64 (Int.tdiv (min l.2.1 l.2.2.1) 4))) 2 (
  bif isE .ret (Cmy (Bdi l)) then .leaf ((Bc2 .ret (Cmy (Bdi l))).1.1,()) else bif isE (.exit 0) (Cmy (Bdi l)) then Cn2 (Bc2 (.exit 0) (Cmy (Bdi l))) else .fail))))
 else .fail)))
end St
end V
end Go.Proofs.YtcfanlgpkefogaaGreat
namespace Go.Proofs.YtcfanlgpkefogaaGreat
open Go.RowKit
namespace V
namespace St
def apR (w l:Int) (p:List (TCT Baf)):Bool:=Bgf (fun i d=>Bnt w l d&&!(p.take i).any (Bxo d)) 0 p
theorem Cvg (x:SKTs kLw) (hl:((hsX x).length:Int)≤Bb2 .i64):Cmy x=some (bif (hsX x).any (fun h=>!Bf7 h) then Byo else Cmm x) :=
 Bld (hsX x) (Baj Bbq) (Cml x) (fun h=>!Bf7 h) Byo (Cmm x) hl (fun _=>rfl)
theorem Cvh (x:SKTs kLw) (hl:((csX x).length:Int)≤Bb2 .i64):Cmz x=some (bif (csX x).any (fun h=>!Bfv h) then Byo else Cmp x) :=
 Bld (csX x) (Baj Bc5) (Cmo x) (fun h=>!Bfv h) Byo (Cmp x) hl (fun _=>rfl)
theorem Cvi (x:SKTs kLw) (p:List (TCT Baf)) (hp:(p.length:Int)≤Bb2 .i64):Cn0 x p=some (bif apR x.2.1 x.2.2.1 p then Ccy else Byp 2):=by
 have hp':(p.length:Int)≤9223372036854775807:=hp
 refine Bu7 p (Baj Baf) (Ccx x p) (fun i d=>Bnt x.2.1 x.2.2.1 d&&!(p.take i).any (Bxo d)) (Cms x p) (Byp 2) Ccy hp (fun _=>rfl) fun i hi=>?_
 have hii:0≤(i:Int)∧(i:Int)<(p.length:Int):=by omega
 unfold Cms Bnt
 rw [Bfw hii,Bfw hii,Bfw hii,Bfw hii,Bfw hii]
 cases inR p[i].1.1 p[i].2.1 (W64 (x.2.1-p[i].2.1)) with
 | false=>rfl
 | true =>
  cases inR p[i].1.2.1 p[i].2.1 (W64 (x.2.2.1-p[i].2.1)) with
  | false=>rfl
  | true =>
   have hy:D49 x p (i:Int)=some (bif (p.take i).any (Bxo p[i]) then Ccv else Ccw x p i):=by
    unfold D49
    rw [show Int.toNat (i:Int)=i by omega]
    exact Cvc x p i hi hp
   simp only [Bool.not_true,cond_false,Bool.true_and]
   rw [hy]
   cases (p.take i).any (Bxo p[i]) with
   | true=>rfl
   | false =>
    show (Tree.leaf (Sum.inl (Ccx x p (W64 ((i:Int)+1)))):TC3).run=_
    rw [Bb4 (n:=(i:Int)+1) (by omega) (by omega)]
    rfl
def Cvj (l:TCT Ban):Bool:=inR (Bjk l).2.1 1 8192&&(inR (Bjk l).1.1 0 4194304&&inR (Bjk l).1.2.1 0 4194304)
def okR (l:TCT Ban):Bool:=C92 l&&((Bb0 l).all Bf7&&(Cvj l&&(C93 l&&((Bcb l).all Bfv&&apR l.2.1 l.2.2.1 (Bb7 l)))))
def Cvk (l:TCT Ban):Int:=bif Bkv l then 6 else bif okR l then 0 else 2
theorem Byq {l:TCT Ban}:(Bb7 l).length=2*(Bb0 l).length+1:=by
 unfold Bb7
 rw [List.length_append,Box]
 rfl
theorem D9r {l:TCT Ban} (h12:(Bb0 l).length≤1000):(Cn1 (((),()),(Bdi l,()))).sat (fun y=>y=((bif apR l.2.1 l.2.2.1 (Bb7 l) then (0:Int) else 2),())):=by
 unfold Cn1
 have e:Bl2 (((((),()),(Bdi l,())):C48.T).2.1)=l:=rfl
 have e2:hsX (((((),()),(Bdi l,())):C48.T).2.1)=Bb0 l:=rfl
 have hy:Cn0 (((((),()),(Bdi l,())):C48.T).2.1) (Bb7 l)=some (bif apR l.2.1 l.2.2.1 (Bb7 l) then Ccy else Byp 2):=Cvi (Bdi l) (Bb7 l) (by rw [Byq];simp only [Bb2];omega)
 rw [e,e2,decide_eq_true h12,hy]
 cases apR l.2.1 l.2.2.1 (Bb7 l) <;> exact rfl
theorem Bk6 {a b:Bool} {k:TEr} (h:k.sat (fun y=>y=((bif b then (0:Int) else 2),()))):(er (!a) 2 k).sat (fun y=>y=((bif a&&b then (0:Int) else 2),())):=by
 cases a with
 | true=>exact h
 | false=>exact rfl
theorem Ble {a b:Bool} {k:TEr} (h:k.sat (fun y=>y=((bif b then (0:Int) else 2),()))):(er a 2 k).sat (fun y=>y=((bif !a&&b then (0:Int) else 2),())):=by
 cases a with
 | true=>exact rfl
 | false=>exact h
theorem D9s {l:TCT Ban} (h12:(Bb0 l).length≤1000) (hc:((Bcb l).length:Int)≤Bb2 .i64):(Cn2 (((),()),(Bdi l,()))).sat (fun y=>y=((bif Cvj l&&(C93 l&&((Bcb l).all Bfv&&apR l.2.1 l.2.2.1 (Bb7 l))) then (0:Int) else 2),())):=by
 unfold Cn2 Cvj C93
 have e:Bl2 (((((),()),(Bdi l,())):C48.T).2.1)=l:=rfl
 have e2:csX (((((),()),(Bdi l,())):C48.T).2.1)=Bcb l:=rfl
 rw [e,e2]
 simp only [Bool.and_assoc]
 refine Bk6 (Bk6 (Bk6 (Ble (Ble (Ble (Ble (Ble ?_)))))))
 rw [Cvh (Bdi l) hc]
 have hq:(csX (Bdi l)).any (fun h=>!Bfv h)=!(Bcb l).all Bfv:=Bis Bfv _
 rw [hq]
 cases (Bcb l).all Bfv with
 | false=>exact rfl
 | true=>exact D9r h12
theorem Cvl {l:TCT Ban} (hs:(l.1.size:Int)≤Bb2 .i64) (hh:((Bb0 l).length:Int)≤Bb2 .i64) (hc:((Bcb l).length:Int)≤Bb2 .i64):(Cve l).sat (fun y=>y=(Cvk l,())):=by
 unfold Cve Cvk
 rw [← Bkw,← Bkw,Bool.or_assoc]
 show (er (Bkv l) 6 _).sat _
 cases hm:Bkv l with
 | true=>exact rfl
 | false =>
  have h12:(Bb0 l).length≤1000:=by
   unfold Bkv at hm
   simp only [Bool.or_eq_false_iff,decide_eq_false_iff_not] at hm
   omega
  rw [decide_eq_true hs]
  show (er (!Bi6 l.1) 2 _).sat (fun y=>y=((bif okR l then (0:Int) else 2),()))
  unfold okR C92
  simp only [Bool.and_assoc]
  refine Bk6 (Bk6 (Bk6 (Bk6 ?_)))
  rw [Cvg (Bdi l) hh]
  have hq:(hsX (Bdi l)).any (fun h=>!Bf7 h)=!(Bb0 l).all Bf7:=Bis Bf7 _
  rw [hq]
  cases (Bb0 l).all Bf7 with
  | false=>exact rfl
  | true=>exact D9s h12 hc
end St
end V
end Go.Proofs.YtcfanlgpkefogaaGreat
namespace Go.Proofs.YtcfanlgpkefogaaGreat
open Go.RowKit
namespace V
namespace St
theorem Bhl {x lo hi:Int}:inR x lo hi=true ↔ lo≤x∧x≤hi:=by unfold inR;simp only [Bool.and_eq_true,decide_eq_true_eq]
theorem Ccz {α:Type} {p:List α} {ok1 ok2:Nat→α→Bool} (ins:α→Bool) (h:∀ (i:Nat) (hi:i<p.length),(∀ o ∈ p.take i,ins o=true)→ok1 i p[i]=ok2 i p[i]) (h1:∀ i x,ok1 i x=true→ins x=true) :
  ∀ (k i:Nat),i+k=p.length→(∀ o ∈ p.take i,ins o=true)→Bgf ok1 i (p.drop i)=Bgf ok2 i (p.drop i)
 | 0,i,hk,_=>by
  rw [List.drop_eq_nil_of_le (by omega)];rfl
 | k+1,i,hk,hp=>by
  have hi:i<p.length:=by omega
  rw [List.drop_eq_getElem_cons hi]
  simp only [Bgf]
  rw [← h i hi hp]
  cases ho:ok1 i p[i] with
  | false=>rfl
  | true =>
   rw [Bool.true_and,Bool.true_and]
   refine Ccz ins h h1 k (i+1) (by omega) fun o hm=>?_
   rw [List.take_succ_eq_append_getElem hi,List.mem_append,List.mem_singleton] at hm
   rcases hm with hm | rfl
   ·exact hp o hm
   ·exact h1 i _ ho
theorem C4d {α:Type} {ok:Nat→α→Bool}:∀ (l:List α) (i:Nat),Bgf ok i l=true→∀ x ∈ l,∃ j,ok j x=true
 | y::l,i,h,x,hx=>by
  simp only [Bgf,Bool.and_eq_true] at h
  rcases List.mem_cons.1 hx with rfl | hx
  ·exact ⟨i,h.1⟩
  ·exact C4d l (i+1) h.2 x hx
structure On (d:TCT Baf):Prop where
 x:0≤d.1.1∧d.1.1≤4194304
 y:0≤d.1.2.1∧d.1.2.1≤4194304
 r:1≤d.2.1∧d.2.1≤8192
theorem Cvm {x y r w l:Int} (hw:0≤w∧w≤4194304) (hl:0≤l∧l≤4194304) (hr:1≤r∧r≤8192) (h:(r≤x∧x≤W64 (w-r))∧r≤y∧y≤W64 (l-r)):(0≤x∧x≤4194304)∧0≤y∧y≤4194304:=by
 rw [Bb4 (n:=w-r) (by omega) (by omega),Bb4 (n:=l-r) (by omega) (by omega)] at h
 omega
theorem Cn3 {w l:Int} (hw:0≤w∧w≤4194304) (hl:0≤l∧l≤4194304) {d:TCT Baf} (hr:1≤d.2.1∧d.2.1≤8192) (h:Bnt w l d=true):On d:=by
 unfold Bnt at h
 simp only [Bool.and_eq_true,Bhl] at h
 obtain ⟨h1,h2⟩:=Cvm hw hl hr h
 exact ⟨h1,h2,hr⟩
theorem Cn4 {x y r:Int} (hx:0≤x∧x≤4194304) (hy:0≤y∧y≤4194304) (hr:1≤r∧r≤8192):Bvk x y r=0:=by
 unfold Bvk Bh9 fpt Bb8
 rw [decide_eq_true (show -4194304≤x∧x≤4194304 ∧ -4194304≤y∧y≤4194304 by omega),decide_eq_false (show ¬ r<1 by omega),decide_eq_false (show ¬ 65536<r by omega)]
 rfl
theorem Cn5 {a b:Int} (ha:0≤a∧a≤4194304) (hb:0≤b∧b≤4194304):W64 (b-a)*W64 (b-a)=W64 (a-b)*W64 (a-b):=by
 rw [Bb4 (n:=b-a) (by omega) (by omega),Bb4 (n:=a-b) (by omega) (by omega)]
 grind
theorem D4d {d o:TCT Baf} (hd:On d) (ho:On o):touB d o=Bxo d o:=by
 have e:sqD d o=sqR d o:=by
  unfold sqD sqR
  rw [Cn5 hd.x ho.x,Cn5 hd.y ho.y]
 have c1:cdE d=0:=Cn4 hd.x hd.y hd.r
 have c2:cdE o=0:=Cn4 ho.x ho.y ho.r
 unfold touB Bxo Ch7
 rw [c1,c2,e]
 show decide (Cv5 (sqR d o) (srD d o)<0)=_
 unfold Cv5
 by_cases h:sqR d o<srD d o
 ·rw [decide_eq_true h];rfl
 ·rw [decide_eq_false h,cond_false]
  cases decide (sqR d o>srD d o) <;> rfl
theorem Bmi {α:Type} {p q:α→Bool}:∀ {l:List α},(∀ x ∈ l,p x=q x)→l.any p=l.any q
 | [],_=>rfl
 | x::l,h=>by rw [List.any_cons,List.any_cons,h x (List.mem_cons_self ..),Bmi fun y hy=>h y (List.mem_cons_of_mem _ hy)]
theorem D9t {w l:Int} (hw:0≤w∧w≤4194304) (hl:0≤l∧l≤4194304) {p:List (TCT Baf)} (hr:∀ d ∈ p,1≤d.2.1∧d.2.1≤8192):apF w l p=apR w l p:=by
 have key:=Ccz (p:=p) (ok1:=fun i d=>Bnt w l d&&!(p.take i).any (touB d)) (ok2:=fun i d=>Bnt w l d&&!(p.take i).any (Bxo d)) (Bnt w l)
  (fun i hi hp=>by
   cases hi':Bnt w l p[i] with
   | false=>rfl
   | true =>
    have hd:=Cn3 hw hl (hr _ (List.getElem_mem hi)) hi'
    rw [Bmi fun o ho=>D4d hd (Cn3 hw hl (hr o (List.mem_of_mem_take ho)) (hp o ho))])
  (fun i x h=>by simp only [Bool.and_eq_true] at h;exact h.1) p.length 0 (by omega) (fun o ho=>by rw [List.take_zero] at ho;cases ho)
 rw [List.drop_zero] at key
 exact key
theorem Ddv {h:TCT Bbq} {d:TCT Baf} (hd:d ∈ w2 h):d.2.1=h.2.2.2.1:=by
 unfold w2 at hd
 cases hb:h.2.2.2.2.1 with
 | true =>
  rw [hb] at hd
  have hd:d ∈ [Bn7 h.1 (W64 (h.2.1-dW h)) h.2.2.2.1,Bn7 h.1 (W64 (h.2.1+dW h)) h.2.2.2.1]:=hd
  rcases List.mem_cons.1 hd with rfl | hd
  ·rfl
  ·rw [List.mem_singleton] at hd;subst hd;rfl
 | false =>
  rw [hb] at hd
  have hd:d ∈ [Bn7 (W64 (h.1-dW h)) h.2.1 h.2.2.2.1,Bn7 (W64 (h.1+dW h)) h.2.1 h.2.2.2.1]:=hd
  rcases List.mem_cons.1 hd with rfl | hd
  ·rfl
  ·rw [List.mem_singleton] at hd;subst hd;rfl
theorem Cvn {l:TCT Ban} (hh:(Bb0 l).all Bf7=true) (hp:inR (Bjk l).2.1 1 8192=true):∀ d ∈ Bb7 l,1≤d.2.1∧d.2.1≤8192:=by
 intro d hd
 unfold Bb7 at hd
 rw [List.mem_append,List.mem_singleton,List.mem_flatMap] at hd
 rcases hd with ⟨h,hm,hd⟩ | rfl
 ·have:=List.all_eq_true.1 hh h hm
  unfold Bf7 at this
  simp only [Bool.and_eq_true,Bhl] at this
  rw [Ddv hd]
  exact this.2.2.2.2
 ·exact Bhl.1 hp
theorem Cn6 (l:TCT Ban):Cvk l=Bc3 l:=by
 unfold Cvk Bc3
 congr 2
 unfold okR okL
 cases hd:C92 l with
 | false=>rfl
 | true =>
  have hd':=hd
  unfold C92 at hd'
  simp only [Bool.and_eq_true,Bhl] at hd'
  obtain ⟨_,⟨w1,w2'⟩,⟨l1,l2⟩,_⟩:=hd'
  have hw:0≤l.2.1∧l.2.1≤4194304:=⟨Int.le_trans (by decide) w1,w2'⟩
  have hl:0≤l.2.2.1∧l.2.2.1≤4194304:=⟨Int.le_trans (by decide) l1,l2⟩
  unfold Cvj
  cases hh:(Bb0 l).all Bf7 with
  | false=>cases inR (Bjk l).2.1 1 8192 <;> cases C93 l <;> rfl
  | true =>
   cases hp:inR (Bjk l).2.1 1 8192 with
   | false=>rfl
   | true =>
    have hr:=Cvn hh hp
    rw [← D9t hw hl hr]
    cases ha:apF l.2.1 l.2.2.1 (Bb7 l) with
    | false=>simp
    | true =>
     obtain ⟨j,hj⟩:=C4d (Bb7 l) 0 ha (Bjk l) (by unfold Bb7;simp)
     simp only [Bool.and_eq_true] at hj
     have on:=Cn3 hw hl (Bhl.1 hp) hj.1
     have e1:inR (Bjk l).1.1 0 4194304=true:=Bhl.2 on.x
     have e2:inR (Bjk l).1.2.1 0 4194304=true:=Bhl.2 on.y
     rw [e1,e2]
     simp
end St
end V
end Go.Proofs.YtcfanlgpkefogaaGreat
namespace Go.Proofs.YtcfanlgpkefogaaGreat
open Go.RowKit
namespace V
namespace St
theorem is_Posts:FnIs Tryz.prog (25,Tryz.f25):=⟨Tryz.func25,by kernel_rfl,by kernel_rfl⟩
def plPs:List (Nat×PureT):=[(75,Bru),(74,Bk5)]
theorem puPs:Bcd Tryz.prog plPs:=puOk_cons is_lCheck.plain Boz (puOk_cons is_lposts.plain C0n (puOk_nil))
def postsV (l:TCT Ban):List (TCT Baf):=bif Bc3 l==0 then Bb7 l else []
abbrev C0u:PureT:=Bbh [Ban] [.sl Baf,cI] (fun x=>decide ((x.1.1.size:Int)≤Bb2 .i64)) (fun x=>(postsV x.1,Bc3 x.1,()))
abbrev TPs:=Tree (TCTs [.sl Baf,cI])
def szT {β:Type} (l:TCT Ban) (k:Tree β):Tree β:=bif decide ((l.1.size:Int)≤Bb2 .i64) then k else .fail
theorem Bce {β:Type} {l:TCT Ban} {k:Tree β} (h:(l.1.size:Int)≤Bb2 .i64):szT l k=k:=by unfold szT;rw [decide_eq_true h];rfl
def Cd0 (l:TCT Ban):TPs:=bif decide ((Bb0 l).length≤1000) then .leaf (Bb7 l,0,()) else .fail
def D4e (l:TCT Ban):TPs:=szT l (bif Bc3 l != 0 then .leaf ([],Bc3 l,()) else Cd0 l)
theorem Bp1 {l:TCT Ban} (h:Bc3 l=0):(Bb0 l).length≤12∧1≤(Bb0 l).length:=by
 unfold Bc3 at h
 cases hm:Bkv l with
 | true=>rw [hm] at h;cases h
 | false =>
  unfold Bkv at hm
  simp only [Bool.or_eq_false_iff,decide_eq_false_iff_not] at hm
  omega
theorem Cn8 {l:TCT Ban} (h:Bc3 l=0):(Cd0 l).sat (fun y=>y=(postsV l,Bc3 l,())):=by
 have:=Bp1 h
 unfold Cd0 postsV
 rw [decide_eq_true (show (Bb0 l).length≤1000 by omega),h]
 exact rfl
theorem D9u {l:TCT Ban}:(bif Bc3 l != 0 then .leaf ([],Bc3 l,()) else Cd0 l:TPs).sat (fun y=>y=(postsV l,Bc3 l,())):=by
 cases h:Bc3 l==0 with
 | true =>
  have h':Bc3 l=0:=by simpa using h
  rw [show (Bc3 l != 0)=false by simp [h']]
  exact Cn8 h'
 | false =>
  rw [show (Bc3 l != 0)=true by simpa using h]
  unfold postsV
  rw [h]
  exact rfl
theorem C0v:Bai Tryz.prog 25 C0u:=Bbj (Bas Bar puPs (fns_cons is_Posts V1)) 7 (fun x=>D4e x.1) (fun x=>by kernel_rfl) fun x hok _=>by
 show (D4e x.1).sat _
 unfold D4e
 rw [Bce (of_decide_eq_true hok)]
 exact D9u
end St
end V
end Go.Proofs.YtcfanlgpkefogaaGreat
namespace Go.Proofs.YtcfanlgpkefogaaGreat
open Go.RowKit
namespace V
namespace St
theorem is_CellAt:FnIs Tryz.prog (18,Tryz.f18):=⟨Tryz.func18,by kernel_rfl,by kernel_rfl⟩
theorem is_lchk:FnIs Tryz.prog (57,Tryz.f57):=⟨Tryz.func57,by kernel_rfl,by kernel_rfl⟩
theorem is_lon:FnIs Tryz.prog (58,Tryz.f58):=⟨Tryz.func58,by kernel_rfl,by kernel_rfl⟩
def onB (l:TCT Ban) (p:TCT cPt):Bool:=inR p.1 0 l.2.1&&inR p.2.1 0 l.2.2.1
def Bp2 (l:TCT Ban) (p:TCT cPt):Int:=W64 (W64 (min (W64 (Int.tdiv (W64 (p.2.1*nyL l)) l.2.2.1)) (W64 (nyL l-1))*nxL l)+min (W64 (Int.tdiv (W64 (p.1*nxL l)) l.2.1)) (W64 (nxL l-1)))
def Cvo (c:TCT Bc5):TCT Bc5:=(c.1,c.2.1,c.2.2.1,())
def zCe:TCT Bc5:=(0,0,0,())
def C0w (l:TCT Ban) (p:TCT cPt):Int:=bif Bc3 l != 0 then Bc3 l else bif fpt p.1 p.2.1 then 0 else 2
def Be9 (l:TCT Ban) (p:TCT cPt):Int:=bif C0w l p != 0 then C0w l p else bif onB l p then 0 else 5
def Bga (l:TCT Ban) (p:TCT cPt):TCT Bc5:=bif Be9 l p==0 then Cvo (Bam (Bcb l) (Int.toNat (Bp2 l p)) (Baj Bc5)) else zCe
abbrev C4e:PureT:=Bbh [Ban,cPt] [Bc5,cI] (fun x=>decide ((x.1.1.size:Int)≤Bb2 .i64)) (fun x=>(((Bga x.1 x.2.1).1,(Bga x.1 x.2.1).2.1,(Bga x.1 x.2.1).2.2.1,()),Be9 x.1 x.2.1,()))
abbrev TCe:=Tree (TCTs [Bc5,cI])
def Bqm (e:Int):TCe:=.leaf (zCe,e,())
def Cn9 (l:TCT Ban) (p:TCT cPt):TCe:=bif l.2.1 != 0 then bif l.2.2.1 != 0 then bif decide (0≤Bp2 l p∧Bp2 l p<((Bcb l).length:Int)) then .leaf (Cvo (Bam (Bcb l) (Int.toNat (Bp2 l p)) (Baj Bc5)),0,()) else .fail else .fail else .fail
def Byr (l:TCT Ban) (p:TCT cPt):TCe:=bif inR p.1 0 l.2.1 then bif !inR p.2.1 0 l.2.2.1 then Bqm 5 else Cn9 l p else Bqm 5
def Cvp (l:TCT Ban) (p:TCT cPt):TCe:=szT l (bif Bc3 l != 0 then bif Bc3 l != 0 then Bqm (Bc3 l) else Byr l p else bif Bgi p.1 p.2.1 != 0 then Bqm 2 else Byr l p)
theorem Cvq (x:TCTs [Ban,cPt]):Bcr (Cjl 2 Tryz.prog ((43,Bit)::(105,s_inR)::plPs) [(18,Tryz.f18),(57,Tryz.f57),(58,Tryz.f58)]) 7 (.fn 18) (Bdd [Ban,cPt] x) Bbz 0 (Bh7 Tryz.prog [Bc5,cI])=Cvp x.1 x.2.1:=by kernel_rfl
theorem Cd1 {a b c d:Int} (h0:0≤a) (h1:a≤c) (h2:0≤b) (h3:b≤d):a*b≤c*d:=Int.mul_le_mul h1 h3 h2 (by omega)
theorem C4f {y ny l:Int} (hl:1≤l∧l≤4194304) (hy:0≤y∧y≤l) (hn:1≤ny∧ny≤16):0≤min (W64 (Int.tdiv (W64 (y*ny)) l)) (W64 (ny-1))∧min (W64 (Int.tdiv (W64 (y*ny)) l)) (W64 (ny-1))≤ny-1:=by
 have h1:0≤y*ny:=Int.mul_nonneg hy.1 (by omega)
 have h2:y*ny≤4194304*16:=Cd1 hy.1 (by omega) (by omega) hn.2
 rw [Bb4 (n:=y*ny) (by omega) (by omega),Int.tdiv_eq_ediv_of_nonneg h1]
 have h3:=Int.ediv_nonneg h1 (show 0≤l by omega)
 have h4:=Int.ediv_le_self l h1
 rw [Bb4 (n:=y*ny / l) (by omega) (by omega),Bb4 (n:=ny-1) (by omega) (by omega)]
 omega
theorem Cna {i k nx ny:Int} (hx:1≤nx∧nx≤16) (hy:1≤ny∧ny≤16) (hi:0≤i∧i≤nx-1) (hk:0≤k∧k≤ny-1):0≤W64 (W64 (k*nx)+i)∧W64 (W64 (k*nx)+i)<W64 (nx*ny):=by
 have h1:0≤k*nx:=Int.mul_nonneg hk.1 (by omega)
 have h2:k*nx≤(ny-1)*nx:=Int.mul_le_mul_of_nonneg_right hk.2 (by omega)
 have h3:nx*ny≤16*16:=Cd1 (by omega) hx.2 (by omega) hy.2
 have h4:(ny-1)*nx=nx*ny-nx:=by grind
 rw [Bb4 (n:=k*nx) (by omega) (by omega),Bb4 (n:=k*nx+i) (by omega) (by omega),Bb4 (n:=nx*ny) (by omega) (by omega)]
 omega
structure LawOk (l:TCT Ban):Prop where
 w:65536≤l.2.1∧l.2.1≤4194304
 lg:65536≤l.2.2.1∧l.2.2.1≤4194304
 nx:1≤nxL l∧nxL l≤16
 ny:1≤nyL l∧nyL l≤16
 n:((Bcb l).length:Int)=W64 (nxL l*nyL l)
 hs:(Bb0 l).all Bf7=true
 cs:(Bcb l).all Bfv=true
 ap:apF l.2.1 l.2.2.1 (Bb7 l)=true
 hn:1≤(Bb0 l).length∧(Bb0 l).length≤12
theorem C97 {l:TCT Ban} (h:Bc3 l=0):LawOk l:=by
 have hn:=Bp1 h
 unfold Bc3 at h
 cases hm:Bkv l with
 | true=>rw [hm] at h;cases h
 | false =>
  rw [hm,cond_false] at h
  cases ho:okL l with
  | false=>rw [ho] at h;cases h
  | true =>
   unfold okL C92 C93 at ho
   simp only [Bool.and_eq_true,Bhl,Bool.not_eq_true',decide_eq_false_iff_not,bne_eq_false_iff_eq] at ho
   obtain ⟨⟨_,hw,hl,_⟩,hp,⟨n1,n2,n3,n4,n5⟩,h1,h2,h3⟩:=ho
   exact ⟨hw,hl,⟨Int.not_lt.1 n1,Int.not_lt.1 n2⟩,⟨Int.not_lt.1 n3,Int.not_lt.1 n4⟩,n5,h1,h2,h3,hn.2,hn.1⟩
theorem Cnb {l:TCT Ban} {p:TCT cPt} (h:Bc3 l=0) (ho:onB l p=true):Cn9 l p=.leaf (Cvo (Bam (Bcb l) (Int.toNat (Bp2 l p)) (Baj Bc5)),0,()):=by
 have k:=C97 h
 unfold onB at ho
 simp only [Bool.and_eq_true,Bhl] at ho
 have hw:1≤l.2.1∧l.2.1≤4194304:=⟨Int.le_trans (by decide) k.w.1,k.w.2⟩
 have hl:1≤l.2.2.1∧l.2.2.1≤4194304:=⟨Int.le_trans (by decide) k.lg.1,k.lg.2⟩
 have hc:=Cna k.nx k.ny (C4f hw ho.1 k.nx) (C4f hl ho.2 k.ny)
 rw [← k.n] at hc
 have e1:(l.2.1 != 0)=true:=by
  rw [bne_iff_ne];intro e;rw [e] at hw;exact absurd hw.1 (by decide)
 have e2:(l.2.2.1 != 0)=true:=by
  rw [bne_iff_ne];intro e;rw [e] at hl;exact absurd hl.1 (by decide)
 unfold Cn9
 rw [e1,e2,decide_eq_true (show 0≤Bp2 l p∧Bp2 l p<((Bcb l).length:Int) from hc)]
 rfl
theorem Cnc {l:TCT Ban} {p:TCT cPt} (h:Bc3 l=0):Byr l p=bif onB l p then .leaf (Cvo (Bam (Bcb l) (Int.toNat (Bp2 l p)) (Baj Bc5)),0,()) else Bqm 5:=by
 cases ho:onB l p with
 | true =>
  have:=Cnb h ho
  unfold Byr
  unfold onB at ho
  simp only [Bool.and_eq_true] at ho
  rw [ho.1,ho.2,this]
  rfl
 | false =>
  unfold Byr
  unfold onB at ho
  cases h1:inR p.1 0 l.2.1 with
  | false=>rfl
  | true =>
   rw [h1,Bool.true_and] at ho
   rw [ho]
   rfl
def C98 (l:TCT Ban) (p:TCT cPt):TCTs [Bc5,cI]:=(((Bga l p).1,(Bga l p).2.1,(Bga l p).2.2.1,()),Be9 l p,())
theorem D4f {l:TCT Ban} {p:TCT cPt}:(bif C0w l p != 0 then Bqm (C0w l p) else Byr l p:TCe).sat (fun y=>y=C98 l p):=by
 unfold C98 Bga Be9
 cases h1:C0w l p != 0 with
 | true =>
  have hne:(C0w l p==0)=false:=by
   rw [bne_iff_ne] at h1
   exact beq_eq_false_iff_ne.2 h1
  simp only [cond_true]
  rw [hne]
  exact rfl
 | false =>
  have hl:Bc3 l=0:=by
   unfold C0w at h1
   cases h2:Bc3 l != 0 with
   | true=>rw [h2,cond_true] at h1;rw [h2] at h1;cases h1
   | false=>exact bne_eq_false_iff_eq.1 h2
  simp only [cond_false]
  rw [Cnc hl]
  cases onB l p <;> exact rfl
theorem Bp3 (x y:Int):(Bgi x y != 0)=!fpt x y:=by unfold Bgi;cases fpt x y <;> rfl
def plCe:List (Nat×PureT):=(43,Bit)::(105,s_inR)::plPs
theorem puCe:Bcd Tryz.prog plCe:=puOk_cons is_tChk.plain Bk9 (puOk_cons is_between2.plain q_between2 puPs)
theorem Cvr {l:TCT Ban} {p:TCT cPt} (hs:(l.1.size:Int)≤Bb2 .i64):(Cvp l p).sat (fun y=>y=C98 l p):=by
 have key:=D4f (l:=l) (p:=p)
 unfold Cvp
 rw [Bce hs,Bp3]
 unfold C0w at key
 cases h:Bc3 l != 0 with
 | true =>
  rw [h] at key
  simp only [cond_true] at key ⊢
  rw [h] at key
  exact key
 | false =>
  rw [h] at key
  simp only [cond_false] at key ⊢
  cases hf:fpt p.1 p.2.1 with
  | true=>rw [hf] at key;exact key
  | false=>rw [hf] at key;exact key
theorem Cnd:Bai Tryz.prog 18 C4e:=Bbj (Bn3 (u:=2) Bar puCe (fns_cons is_CellAt (fns_cons is_lchk (fns_cons is_lon V1)))) 7 (fun x=>Cvp x.1 x.2.1) Cvq fun x hok _=>Cvr (of_decide_eq_true hok)
end St
end V
end Go.Proofs.YtcfanlgpkefogaaGreat
namespace Go.Proofs.YtcfanlgpkefogaaGreat
open Go.RowKit
namespace V
namespace St
theorem is_cGround:FnIs Tryz.prog (78,Tryz.f78):=⟨Tryz.func78,by kernel_rfl,by kernel_rfl⟩
def V2 (g:TCT cGr):List (TCT No):=g.2.1
def okG (g:TCT cGr):Bool:=(V2 g).all Bge&&Be3 g.2.2.1.1 g.2.2.1.2.1
def groE (g:TCT cGr):Int:=bif Bc3 g.1 != 0 then Bc3 g.1 else bif decide (((V2 g).length:Int)<1)||decide (((V2 g).length:Int)>8) then 6 else bif okG g then 0 else 2
abbrev Cvs:PureT:=Bbh [cGr] [cI] (fun x=>decide ((x.1.1.1.size:Int)≤Bb2 .i64)) (fun x=>(groE x.1,()))
def plG:List (Nat×PureT):=[(75,Bru),(126,Beb),(123,C3u)]
theorem puG:Bcd Tryz.prog plG:=puOk_cons is_lCheck.plain Boz (puOk_cons is_CheckBounce.plain Bjf (puOk_cons is_cfBall.plain Clt (puOk_nil)))
def Cne (g:TCT cGr):TEr:=bif okE (Be3 g.2.2.1.1 g.2.2.1.2.1)!=0 then .leaf (2,()) else .leaf (0,())
def T_G (g:TCT cGr):TEr:=szT g.1 (bif Bc3 g.1 != 0 then .leaf (Bc3 g.1,()) else er (decide (((V2 g).length:Int)<1)) 6 (er (decide (((V2 g).length:Int)>8)) 6 (er ((V2 g).any (Bdh ())) 2 (Cne g))))
theorem D4g (x:TCTs [cGr]):Bcr (ctx Tryz.prog plG [(78,Tryz.f78)]) 7 (.fn 78) (Bdd [cGr] x) Bbz 0 (Bh7 Tryz.prog [cI])=T_G x.1:=by kernel_rfl
theorem D4h {g:TCT cGr} (hs:(g.1.1.size:Int)≤Bb2 .i64):(T_G g).sat (fun y=>y=(groE g,())):=by
 unfold T_G groE okG Cne
 have hq:(V2 g).any (Bdh ())=!(V2 g).all Bge:=Bis Bge _
 rw [Bce hs,hq,Bty,← Bkw]
 cases Bc3 g.1 != 0 with
 | true=>exact rfl
 | false =>
  simp only [cond_false]
  cases decide (((V2 g).length:Int)<1)||decide (((V2 g).length:Int)>8) with
  | true=>exact rfl
  | false=>cases (V2 g).all Bge <;> cases Be3 g.2.2.1.1 g.2.2.1.2.1 <;> exact rfl
theorem Ddw:Bai Tryz.prog 78 Cvs:=Bbj (Bas Bar puG (fns_cons is_cGround V1)) 7 (fun x=>T_G x.1) D4g fun x hok _=>D4h (of_decide_eq_true hok)
abbrev kGr:List SK:=[.d .s,.d cI,.d cI,.d cI,.d (.sl Bbq),.d cI,.d cI,.d cI,.d cI,.d cI,.d (.sl Bc5),.d (.sl No),.d cI,.d cI]
def Ch8 (x:SKTs kGr):TCT cGr:=((x.1,x.2.1,x.2.2.1,x.2.2.2.1,x.2.2.2.2.1,((x.2.2.2.2.2.1,x.2.2.2.2.2.2.1,()),x.2.2.2.2.2.2.2.1,()),x.2.2.2.2.2.2.2.2.1,x.2.2.2.2.2.2.2.2.2.1,x.2.2.2.2.2.2.2.2.2.2.1,()),x.2.2.2.2.2.2.2.2.2.2.2.1,(x.2.2.2.2.2.2.2.2.2.2.2.2.1,x.2.2.2.2.2.2.2.2.2.2.2.2.2.1,()),())
def Bcq (g:TCT cGr):SKTs kGr:=(g.1.1,g.1.2.1,g.1.2.2.1,g.1.2.2.2.1,g.1.2.2.2.2.1,g.1.2.2.2.2.2.1.1.1,g.1.2.2.2.2.2.1.1.2.1,g.1.2.2.2.2.2.1.2.1,g.1.2.2.2.2.2.2.1,g.1.2.2.2.2.2.2.2.1,g.1.2.2.2.2.2.2.2.2.1,g.2.1,g.2.2.1.1,g.2.2.1.2.1,())
def C99:Lay:={ keys:=[1,3],ks:=[.p 0 0 0 0,.d cI],bs:=[(0,41,kGr)],n:=39,nx:=1000,marks:=[] }
def Ddx:Lay:={ keys:=[1],ks:=[.p 0 0 0 0],bs:=[(0,41,kGr)],n:=39,nx:=1000,marks:=[] }
def D9w:Lay:={ keys:=[2],ks:=[.d cI],bs:=[],n:=39,nx:=1000,marks:=[] }
def C9a:XE→Lay:=fun e=>match e with | .ret=>D9w | _=>Ddx
def Cnf (x:SKTs kGr) (i:Int):C99.T:=(((),i,()),(x,()))
def Cng:Fq C9a:=⟨.ret,((2,()),())⟩
def Cnh (x:SKTs kGr):Fq C9a:=⟨.exit 0,(((),()),(x,()))⟩
def blX (x:SKTs kGr):List (TCT No):=x.2.2.2.2.2.2.2.2.2.2.2.1
def Cd2 (b:TCT No):Bool:=okE (Bhd b.1 b.2.1)!=0
def Cd3 (g:C99.T):Tree (C99.T⊕Fq C9a):=bif decide (g.1.2.1<((blX g.2.1).length:Int)) then bif decide (0≤g.1.2.1∧g.1.2.1<((blX g.2.1).length:Int)) then
 bif Cd2 (Bam (blX g.2.1) (Int.toNat g.1.2.1) (Baj No)) then .leaf (.inr Cng) else .leaf (.inl (Cnf g.2.1 (W64 (g.1.2.1+1)))) else .fail else .leaf (.inr (Cnh g.2.1))
def Cni (g:C99.T):Nat:=(blX g.2.1).length+1
def Cnj (x:SKTs kGr):Option (Fq C9a):=iter Cd3 ((blX x).length+1) (Cnf x 0)
def Cvu (g:TCT cGr):TEr:=szT g.1 (bif Bc3 g.1 != 0 then szT g.1 (.leaf (Bc3 g.1,())) else er (decide (((V2 g).length:Int)<1)) 6 (er (decide (((V2 g).length:Int)>8)) 6 (
 bif isE .ret (Cnj (Bcq g)) then .leaf ((Bc2 .ret (Cnj (Bcq g))).1.1,()) else bif isE (.exit 0) (Cnj (Bcq g)) then Cne (Ch8 (Bc2 (.exit 0) (Cnj (Bcq g))).2.1) else .fail)))
theorem Cvw {g:TCT cGr} (hs:(g.1.1.size:Int)≤Bb2 .i64) (hb:((V2 g).length:Int)≤Bb2 .i64):(Cvu g).sat (fun y=>y=(groE g,())):=by
 have hy:Cnj (Bcq g)=some (bif (blX (Bcq g)).any Cd2 then Cng else Cnh (Bcq g)):=Bld (blX (Bcq g)) (Baj No) (Cnf (Bcq g)) Cd2 Cng (Cnh (Bcq g)) hb (fun _=>rfl)
 have hq:(blX (Bcq g)).any Cd2=!(V2 g).all Bge:=by
  rw [← Bis Bge]
  exact Bmi fun b _=>Bty _
 rw [hq] at hy
 unfold Cvu groE okG
 rw [Bce hs,Bce hs,hy,← Bkw]
 cases Bc3 g.1 != 0 with
 | true=>exact rfl
 | false =>
  simp only [cond_false]
  cases decide (((V2 g).length:Int)<1)||decide (((V2 g).length:Int)>8) with
  | true=>exact rfl
  | false =>
   cases (V2 g).all Bge with
   | false=>exact rfl
   | true =>
    show (Cne g).sat _
    unfold Cne
    rw [Bty]
    cases Be3 g.2.2.1.1 g.2.2.1.2.1 <;> exact rfl
end St
end V
end Go.Proofs.YtcfanlgpkefogaaGreat
namespace Go.Proofs.YtcfanlgpkefogaaGreat
open Go.RowKit
namespace V
namespace St
theorem is_sOn:FnIs Tryz.prog (79,Tryz.f79):=⟨Tryz.func79,by kernel_rfl,by kernel_rfl⟩
abbrev C4g:PureT:=Bbh [Ban,cPt] [.b] (fun _=>true) (fun x=>(onB x.1 x.2.1,()))
def D9z (l:TCT Ban) (p:TCT cPt):TBo:=Boq (decide (0≤p.1)) (Boq (decide (p.1≤l.2.1)) (Boq (decide (0≤p.2.1)) (.leaf (decide (p.2.1≤l.2.2.1),()))))
theorem Cnk (l:TCT Ban) (p:TCT cPt):onB l p=(decide (0≤p.1)&&(decide (p.1≤l.2.1)&&(decide (0≤p.2.1)&&decide (p.2.1≤l.2.2.1)))):=by
 unfold onB inR
 simp only [Bool.and_assoc]
theorem D1v:Bai Tryz.prog 79 C4g:=Bbj (Bas Bar puOk_nil (fns_cons is_sOn V1)) 4 (fun x=>D9z x.1 x.2.1) (fun x=>by kernel_rfl) fun x _ _=>by
 show (D9z x.1 x.2.1).sat (fun y=>y=(onB x.1 x.2.1,()))
 rw [Cnk]
 exact Bfd (Bfd (Bfd (Byb _)))
end St
end V
end Go.Proofs.YtcfanlgpkefogaaGreat
namespace Go.Proofs.YtcfanlgpkefogaaGreat
open Go.RowKit
namespace V
namespace St
theorem is_cState:FnIs Tryz.prog (42,Tryz.f42):=⟨Tryz.func42,by kernel_rfl,by kernel_rfl⟩
abbrev kSt:List SK:=[.d (.sl Bat),.d (.sl .b),.d cI,.d cI,.d cI]
abbrev bsS:List BK:=[(0,41,kGr),(1,45,kSt)]
def plS1:List (Nat×PureT):=[(78,Cvs),(55,Bf8),(79,C4g)]
theorem puS1:Bcd Tryz.prog plS1:=puOk_cons is_cGround.plain Ddw (puOk_cons is_CheckMotion.plain Bne (puOk_cons is_sOn.plain D1v (puOk_nil)))
def inN {β:Type} (n:Nat) (i:Int) (k:Tree β):Tree β:=bif decide (0≤i∧i<(n:Int)) then k else .fail
theorem Bd0 {β:Type} {n:Nat} {i:Int} {k:Tree β} (h:0≤i∧i<(n:Int)):inN n i k=k:=by unfold inN;rw [decide_eq_true h];rfl
def Bk7 (b:TCT No) (m:TCT Bat):Bool:=Bo1 b.1 b.2.1 m.1.1 m.1.2.1 m.2.1.1 m.2.1.2.1 m.2.2.1.1 m.2.2.1.2.1
def atM (m:TCT Bat):TCT cPt:=(m.1.1,m.1.2.1,())
def C9b {β:Type} (no:Nat) (i:Int) (o:Bool) (m:TCT Bat) (rt nx:Tree β):Tree β:=inN no i (bif o then bif !(m.2.1.1==0&&(m.2.1.2.1==0&&true)) then rt else nx else nx)
def Bu9 {β:Type} (nb no:Nat) (i:Int) (l:TCT Ban) (b:TCT No) (o:Bool) (m:TCT Bat) (rt nx:Tree β):Tree β :=
 inN nb i (bif okE (Bk7 b m)!=0 then rt else inN no i (bif !o then bif !onB l (atM m) then rt else C9b no i o m rt nx else C9b no i o m rt nx))
def lwG (x:SKTs kGr):TCT Ban:=(Ch8 x).1
noncomputable def Da1:Code:=(Bak (bodyOf Tryz.f42)).getD 0 .skip
def C4h:Lay:={ keys:=[2,3,30,31,32],ks:=[.p 0 0 0 0,.p 1 0 0 0,.d (.sl Bat),.d cI,.d cI],bs:=bsS,n:=106,nx:=1000,marks:=[] }
def Ddz:Lay:={ keys:=[2,3],ks:=[.p 0 0 0 0,.p 1 0 0 0],bs:=bsS,n:=106,nx:=1000,marks:=[] }
def Da2:Lay:={ keys:=[4],ks:=[.d cI],bs:=[],n:=106,nx:=1000,marks:=[] }
def C0x:XE→Lay:=fun e=>match e with | .ret=>Da2 | _=>Ddz
def Cd4 (x:SKTs kGr) (s:SKTs kSt) (m:List (TCT Bat)) (n i:Int):C4h.T:=(((),(),m,n,i,()),(x,s,()))
def Cd5:Fq C0x:=⟨.ret,((2,()),())⟩
def Cnl (x:SKTs kGr) (s:SKTs kSt):Fq C0x:=⟨.exit 0,(((),(),()),(x,s,()))⟩
def otS (s:SKTs kSt):List Bool:=s.2.1
def Cd6 (g:C4h.T):Tree (C4h.T⊕Fq C0x):=bif decide (g.1.2.2.2.2.1<g.1.2.2.2.1) then bif decide (0≤g.1.2.2.2.2.1∧g.1.2.2.2.2.1<((g.1.2.2.1:List (TCT Bat)).length:Int)) then
 Bu9 (blX g.2.1).length (otS g.2.2.1).length g.1.2.2.2.2.1 (lwG g.2.1) (Bam (blX g.2.1) (Int.toNat g.1.2.2.2.2.1) (Baj No)) (Bam (otS g.2.2.1) (Int.toNat g.1.2.2.2.2.1) (Baj .b)) (Bam g.1.2.2.1 (Int.toNat g.1.2.2.2.2.1) (Baj Bat))
  (.leaf (.inr Cd5)) (.leaf (.inl (Cd4 g.2.1 g.2.2.1 g.1.2.2.1 g.1.2.2.2.1 (W64 (g.1.2.2.2.2.1+1))))) else .fail else .leaf (.inr (Cnl g.2.1 g.2.2.1))
def Cnm (g:C4h.T):Nat:=(g.1.2.2.1:List (TCT Bat)).length+1
theorem De0:Baw Tryz.prog 42 Da1 (Bav C4h C0x (Bcm [.ret,.exit 0] Cd6 Cnm)):=Bb9 (Bas Bar puS1 V1) 7 _ C4h C0x (fun e=>by cases e <;> exact Nat.le_refl _) [.ret,.exit 0] Cd6 Cnm (fun g=>by kernel_rfl)
end St
end V
end Go.Proofs.YtcfanlgpkefogaaGreat
namespace Go.Proofs.YtcfanlgpkefogaaGreat
open Go.RowKit
namespace V
namespace St
def C0y:Lay:={ keys:=[2,3,5],ks:=[.p 0 0 0 0,.p 1 0 0 0,.d cI],bs:=bsS,n:=103,nx:=1000,marks:=[] }
def De1:Lay:={ keys:=[2,3],ks:=[.p 0 0 0 0,.p 1 0 0 0],bs:=bsS,n:=103,nx:=1000,marks:=[] }
def Da4:Lay:={ keys:=[4],ks:=[.d cI],bs:=[],n:=103,nx:=1000,marks:=[] }
def Bxp:XE→Lay:=fun e=>match e with | .ret=>Da4 | _=>De1
def C4i (x:SKTs kGr) (s:SKTs kSt) (i:Int):C0y.T:=(((),(),i,()),(x,s,()))
def C4j:Fq Bxp:=⟨.ret,((2,()),())⟩
def Cd7 (x:SKTs kGr) (s:SKTs kSt):Fq Bxp:=⟨.exit 0,(((),(),()),(x,s,()))⟩
def msS (s:SKTs kSt):List (TCT Bat):=s.1
def Cd8 (g:C0y.T):Tree (C0y.T⊕Fq Bxp):=bif decide (g.1.2.2.1<((blX g.2.1).length:Int)) then inN (msS g.2.2.1).length g.1.2.2.1 (
 Bu9 (blX g.2.1).length (otS g.2.2.1).length g.1.2.2.1 (lwG g.2.1) (Bam (blX g.2.1) (Int.toNat g.1.2.2.1) (Baj No)) (Bam (otS g.2.2.1) (Int.toNat g.1.2.2.1) (Baj .b)) (Bam (msS g.2.2.1) (Int.toNat g.1.2.2.1) (Baj Bat))
  (.leaf (.inr C4j)) (.leaf (.inl (C4i g.2.1 g.2.2.1 (W64 (g.1.2.2.1+1)))))) else .leaf (.inr (Cd7 g.2.1 g.2.2.1))
def Cnn (g:C0y.T):Nat:=(blX g.2.1).length+1
end St
end V
end Go.Proofs.YtcfanlgpkefogaaGreat
namespace Go.Proofs.YtcfanlgpkefogaaGreat
open Go.RowKit
namespace V
namespace St
def Bp4 (s:TCT cSt):SKTs kSt:=(s.1,s.2.1,s.2.2.1,s.2.2.2.1,s.2.2.2.2.1,())
def C4k (s:SKTs kSt):TCT cSt:=(s.1,s.2.1,s.2.2.1,s.2.2.2.1,s.2.2.2.2.1,())
def msT (s:TCT cSt):List (TCT Bat):=s.1
def osT (s:TCT cSt):List Bool:=s.2.1
def okO (l:TCT Ban) (b:TCT No) (o:Bool) (m:TCT Bat):Bool:=Bk7 b m&&(bif o then m.2.1.1==0&&(m.2.1.2.1==0&&true) else onB l (atM m))
def okS (g:TCT cGr) (os:List Bool) (i:Nat) (m:TCT Bat):Bool:=okO g.1 (Bam (V2 g) i (Baj No)) (Bam os i (Baj .b)) m
theorem Bys {G E:Type} {nb no:Nat} {i:Int} {l:TCT Ban} {b:TCT No} {o:Bool} {m:TCT Bat} {rt:E} {nx:G} (h1:0≤i∧i<(nb:Int)) (h2:0≤i∧i<(no:Int)) :
  (Bu9 nb no i l b o m (.leaf (.inr rt)) (.leaf (.inl nx)):Tree (G⊕E)).run=some (bif okO l b o m then .inl nx else .inr rt):=by
 unfold Bu9 C9b okO
 rw [Bd0 h1,Bty,Bd0 h2,Bd0 h2]
 cases Bk7 b m with
 | false=>rfl
 | true =>
  cases o with
  | false=>cases onB l (atM m) <;> rfl
  | true=>cases m.2.1.1==0&&(m.2.1.2.1==0&&true) <;> rfl
def Da5 (g:TCT cGr) (s:TCT cSt):Option (Fq C0x):=iter Cd6 ((msT s).length+1) (Cd4 (Bcq g) (Bp4 s) s.1 (msT s).length 0)
def D4i (g:TCT cGr) (s:TCT cSt):Option (Fq Bxp):=iter Cd8 ((V2 g).length+1) (C4i (Bcq g) (Bp4 s) 0)
theorem Cvx {g:TCT cGr} {s:TCT cSt} (h1:(msT s).length=(V2 g).length) (h2:(osT s).length=(V2 g).length) (hm:((msT s).length:Int)≤Bb2 .i64) :
  Da5 g s=some (bif Bgf (okS g (osT s)) 0 (msT s) then Cnl (Bcq g) (Bp4 s) else Cd5):=by
 refine Bu7 (msT s) (Baj Bat) (fun i=>Cd4 (Bcq g) (Bp4 s) s.1 (msT s).length i) (okS g (osT s))
  (fun i m=>Bu9 (V2 g).length (osT s).length i g.1 (Bam (V2 g) (Int.toNat i) (Baj No)) (Bam (osT s) (Int.toNat i) (Baj .b)) m (.leaf (.inr Cd5)) (.leaf (.inl (Cd4 (Bcq g) (Bp4 s) s.1 (msT s).length (W64 (i+1))))):Int→TCT Bat→Tree (C4h.T⊕Fq C0x)) Cd5 (Cnl (Bcq g) (Bp4 s)) hm (fun i=>rfl) fun i hi=>?_
 rw [Bys (by omega) (by omega),show Int.toNat (i:Int)=i from rfl,Bd9 hi hm]
 rfl
theorem Cvy {g:TCT cGr} {s:TCT cSt} (h1:(msT s).length=(V2 g).length) (h2:(osT s).length=(V2 g).length) (hm:((msT s).length:Int)≤Bb2 .i64) :
  D4i g s=some (bif Bgf (okS g (osT s)) 0 (msT s) then Cd7 (Bcq g) (Bp4 s) else C4j):=by
 unfold D4i
 rw [← h1]
 refine Bu7 (msT s) (Baj Bat) (fun i=>C4i (Bcq g) (Bp4 s) i) (okS g (osT s))
  (fun i m=>Bu9 (V2 g).length (osT s).length i g.1 (Bam (V2 g) (Int.toNat i) (Baj No)) (Bam (osT s) (Int.toNat i) (Baj .b)) m (.leaf (.inr C4j)) (.leaf (.inl (C4i (Bcq g) (Bp4 s) (W64 (i+1))))):Int→TCT Bat→Tree (C0y.T⊕Fq Bxp)) C4j (Cd7 (Bcq g) (Bp4 s)) hm (fun i=>?_) fun i hi=>?_
 ·show (bif decide (i<((V2 g).length:Int)) then inN (msT s).length i (Bu9 (V2 g).length (osT s).length i g.1 (Bam (V2 g) (Int.toNat i) (Baj No)) (Bam (osT s) (Int.toNat i) (Baj .b)) (Bam (msT s) (Int.toNat i) (Baj Bat)) (.leaf (.inr C4j)) (.leaf (.inl (C4i (Bcq g) (Bp4 s) (W64 (i+1)))))) else .leaf (.inr (Cd7 (Bcq g) (Bp4 s))):Tree (C0y.T⊕Fq Bxp))=_
  rw [← h1]
  rfl
 ·rw [Bys (by omega) (by omega),show Int.toNat (i:Int)=i from rfl,Bd9 hi hm]
  rfl
def C0z (n:Int) (s:TCT cSt):Bool:=decide (s.2.2.1<0)||(decide (s.2.2.1≥n)||(decide (s.2.2.2.1<0)||(decide (s.2.2.2.1>8)||(decide (s.2.2.2.2.1<0)||decide (s.2.2.2.2.1>4000)))))
def Bxq (g:TCT cGr) (s:TCT cSt):Bool:=(((msT s).length:Int)==((V2 g).length:Int))&&(((osT s).length:Int)==((V2 g).length:Int))
def vaE (g:TCT cGr) (s:TCT cSt):Int:=bif Bxq g s then bif Bgf (okS g (osT s)) 0 (msT s) then bif C0z (V2 g).length s then 2 else 0 else 2 else 17
def Be0 (g:TCT cGr) (s:TCT cSt):Int:=bif groE g != 0 then groE g else vaE g s
abbrev Da6:PureT:=Bbh [cGr,cSt] [cI] (fun _=>true) (fun x=>(vaE x.1 x.2.1,()))
abbrev Cd9:PureT:=Bbh [cGr,cSt] [cI] (fun x=>decide ((x.1.1.1.size:Int)≤Bb2 .i64)) (fun x=>(Be0 x.1 x.2.1,()))
end St
end V
end Go.Proofs.YtcfanlgpkefogaaGreat
namespace Go.Proofs.YtcfanlgpkefogaaGreat
open Go.RowKit
namespace V
namespace St
def Cno (n:Int) (s:TCT cSt):TEr:=er (decide (s.2.2.1<0)) 2 (er (decide (s.2.2.1≥n)) 2 (er (decide (s.2.2.2.1<0)) 2 (er (decide (s.2.2.2.1>8)) 2 (er (decide (s.2.2.2.2.1<0)) 2 (er (decide (s.2.2.2.2.1>4000)) 2 (.leaf (0,())))))))
theorem Cvz (n:Int) (s:TCT cSt):Cno n s=er (C0z n s) 2 (.leaf (0,())):=by
 unfold Cno C0z
 rw [Bkw,Bkw,Bkw,Bkw,Bkw]
def Cnp (g:TCT cGr) (s:TCT cSt) (k:TEr):TEr:=er (((msT s).length:Int)!=((V2 g).length:Int)) 17 (er (((osT s).length:Int)!=((V2 g).length:Int)) 17 k)
theorem Cw0 (g:TCT cGr) (s:TCT cSt) (k:TEr):Cnp g s k=er (!Bxq g s) 17 k:=by
 unfold Cnp Bxq
 rw [← Bkw]
 congr 1
 cases h1:((msT s).length:Int)==((V2 g).length:Int) <;> cases h2:((osT s).length:Int)==((V2 g).length:Int) <;> simp [bne,h1,h2]
theorem Bua {g:TCT cGr} {s:TCT cSt} (h:Bxq g s=true):(msT s).length=(V2 g).length∧(osT s).length=(V2 g).length:=by
 unfold Bxq at h
 simp only [Bool.and_eq_true,beq_iff_eq] at h
 omega
def De3 (g:TCT cGr) (y:Option (Fq C0x)):TEr:=bif isE .ret y then .leaf ((Bc2 .ret y).1.1,()) else bif isE (.exit 0) y then Cno (blX (Bc2 (.exit 0) y).2.1).length (C4k (Bc2 (.exit 0) y).2.2.1) else .fail
def De4 (g:TCT cGr) (y:Option (Fq Bxp)):TEr:=bif isE .ret y then .leaf ((Bc2 .ret y).1.1,()) else bif isE (.exit 0) y then Cno (blX (Bc2 (.exit 0) y).2.1).length (C4k (Bc2 (.exit 0) y).2.2.1) else .fail
def D4j (g:TCT cGr) (s:TCT cSt):TEr:=szT g.1 (bif groE g != 0 then .leaf (groE g,()) else Cnp g s (De3 g (Da5 g s)))
def D4k (g:TCT cGr) (s:TCT cSt):TEr:=Cnp g s (De4 g (D4i g s))
theorem Cnq {g:TCT cGr} {s:TCT cSt} {k:TEr} (h:Bxq g s=true→k=bif Bgf (okS g (osT s)) 0 (msT s) then Cno (V2 g).length s else .leaf (2,())):(Cnp g s k).sat (fun y=>y=(vaE g s,())):=by
 rw [Cw0]
 unfold vaE
 cases he:Bxq g s with
 | false=>exact rfl
 | true =>
  rw [h he]
  cases Bgf (okS g (osT s)) 0 (msT s) with
  | false=>exact rfl
  | true =>
   simp only [Bool.not_true,cond_true]
   rw [Cvz]
   cases C0z (V2 g).length s <;> exact rfl
theorem Cw1 {g:TCT cGr} {s:TCT cSt} (hs:(g.1.1.size:Int)≤Bb2 .i64) (hm:((msT s).length:Int)≤Bb2 .i64):(D4j g s).sat (fun y=>y=(Be0 g s,())):=by
 unfold D4j Be0
 rw [Bce hs]
 cases groE g != 0 with
 | true=>exact rfl
 | false =>
  simp only [cond_false]
  refine Cnq fun he=>?_
  obtain ⟨h1,h2⟩:=Bua he
  rw [Cvx h1 h2 hm]
  cases Bgf (okS g (osT s)) 0 (msT s) <;> rfl
theorem Cw2 {g:TCT cGr} {s:TCT cSt} (hm:((msT s).length:Int)≤Bb2 .i64):(D4k g s).sat (fun y=>y=(vaE g s,())):=by
 unfold D4k
 refine Cnq fun he=>?_
 obtain ⟨h1,h2⟩:=Bua he
 rw [Cvy h1 h2 hm]
 cases Bgf (okS g (osT s)) 0 (msT s) <;> rfl
noncomputable def De5:Ctx:=Bh4 Tryz.prog plS1 [(42,Tryz.f42)] [((42,7),Bav C4h C0x (Bcm [.ret,.exit 0] Cd6 Cnm))]
theorem Cw3:CtxOk De5:=Bca Bar puS1 (fns_cons is_cState V1) (Bc0 (by kernel_rfl) (by kernel_rfl) De0)
theorem Cw4:Bai Tryz.prog 42 Cd9:=Bbj Cw3 7 (fun x=>D4j x.1 x.2.1) (fun x=>by kernel_rfl) fun x hok hw=>Cw1 (of_decide_eq_true hok) (Bez hw.2.1.1)
def plS2:List (Nat×PureT):=plS1
theorem puS2:Bcd Tryz.prog plS2:=puS1
end St
end V
end Go.Proofs.YtcfanlgpkefogaaGreat
namespace Go.Proofs.YtcfanlgpkefogaaGreat
open Go.RowKit
namespace V
def Bap {S B:Type} (f:Nat→S→S⊕B):Nat→Nat→S→S⊕B
 | _,0,s=>.inl s
 | i,k+1,s=>match f i s with
  | .inl s'=>Bap f (i+1) k s'
  | .inr b=>.inr b
def Cnu {G E S B:Type} (hd:Nat→S→G) (res:S⊕B→E) (i:Nat):S⊕B→G⊕E
 | .inl s=>.inl (hd (i+1) s)
 | .inr b=>.inr (res (.inr b))
theorem Bfx {G E S B:Type} {st:G→Tree (G⊕E)} (n:Nat) (hd:Nat→S→G) (f:Nat→S→S⊕B) (res:S⊕B→E) (Inv:Nat→S→Prop)
  (h1:∀ i s,i<n→Inv i s→(st (hd i s)).run=some (Cnu hd res i (f i s)))
  (h2:∀ i s s',i<n→Inv i s→f i s=.inl s'→Inv (i+1) s')
  (h3:∀ s,Inv n s→(st (hd n s)).run=some (.inr (res (.inl s)))) :
  ∀ (k i:Nat) (s:S),i+k=n→Inv i s→iter st (k+1) (hd i s)=some (res (Bap f i k s))
 | 0,i,s,hk,hi=>by
  have e:i=n:=by omega
  subst e
  exact Bep (h3 s hi)
 | k+1,i,s,hk,hi=>by
  have hlt:i<n:=by omega
  have hr:=h1 i s hlt hi
  unfold Bap
  cases hf:f i s with
  | inl s' =>
   rw [hf] at hr
   rw [Bkt hr]
   exact Bfx n hd f res Inv h1 h2 h3 k (i+1) s' (by omega) (h2 i s s' hlt hi hf)
  | inr b =>
   rw [hf] at hr
   exact Bep hr
theorem Bay {S B:Type} {f:Nat→S→S⊕B} {Inv:Nat→S→Prop} {n:Nat} (h2:∀ i s s',i<n→Inv i s→f i s=.inl s'→Inv (i+1) s'):∀ (k i:Nat) (s s':S),i+k=n→Inv i s→Bap f i k s=.inl s'→Inv n s'
 | 0,i,s,s',hk,hi,h=>by
  have e:i=n:=by omega
  subst e
  cases h
  exact hi
 | k+1,i,s,s',hk,hi,h=>by
  unfold Bap at h
  cases hf:f i s with
  | inl t=>rw [hf] at h;exact Bay h2 k (i+1) t s' (by omega) (h2 i s t (by omega) hi hf) h
  | inr b=>rw [hf] at h;cases h
theorem Bi7 {β:Type} {h w:List β} {b:Nat} (k:h.length+w.length≤1000000) (hb:b≤48):Bcs h w b=true:=by
 rw [Bel,decide_eq_true_iff]
 have h1:((h.length+w.length:Nat):Int)≤1000000:=by omega
 have h2:(b:Int)≤48:=by omega
 calc ((h.length+w.length:Nat):Int)*b≤1000000*48:=Int.mul_le_mul h1 h2 (by omega) (by decide)
  _≤140737488355328:=by decide
namespace St
theorem is_sLie:FnIs Tryz.prog (28,Tryz.f28):=⟨Tryz.func28,by kernel_rfl,by kernel_rfl⟩
theorem is_sstill:FnIs Tryz.prog (44,Tryz.f44):=⟨Tryz.func44,by kernel_rfl,by kernel_rfl⟩
theorem is_sTotal:FnIs Tryz.prog (13,Tryz.f13):=⟨Tryz.func13,by kernel_rfl,by kernel_rfl⟩
abbrev kSo:List SK:=[.o 60 Bat,.o 4 .b,.d cI,.d cI,.d cI]
noncomputable def Da7:Code:=(Bak (bodyOf Tryz.f28)).getD 0 .skip
abbrev Da8:List BK:=[(0,41,kGr),(1,45,kSt),(3,45,kSo)]
def C9c:Lay:={ keys:=[2,4,7,27,28,29],ks:=[.p 0 0 0 0,.p 1 0 0 0,.p 3 0 0 0,.d (.sl cPt),.d cI,.d cI],bs:=Da8,n:=48,nx:=1000,marks:=[] }
def De7:Lay:={ keys:=[4,7],ks:=[.p 1 0 0 0,.p 3 0 0 0],bs:=[(1,45,kSt),(3,45,kSo)],n:=48,nx:=1000,marks:=[] }
def Da9:Lay:={ keys:=[4,5],ks:=[.p 1 0 0 0,.d cI],bs:=[(1,45,kSt)],n:=48,nx:=1000,marks:=[] }
def C11:XE→Lay:=fun e=>match e with | .ret=>Da9 | _=>De7
def C12 (p:TCT cPt):TCT Bat:=((p.1,p.2.1,()),(0,0,()),(0,0,()),())
def Cnv (p:TCT cPt):TCT cPt:=(p.1,p.2.1,())
def D1w {β:Type} (p:TCT cPt) (ms:List (TCT Bat)) (nx:List (TCT Bat)→Tree β):Tree β:=bif Bcs ms [C12 p] 48 then nx (ms++[C12 p]) else .fail
def Cda (x:SKTs kGr) (r q:SKTs kSt) (p:List (TCT cPt)) (n i:Int) (ms:List (TCT Bat)):C9c.T:=(((),(),(),p,n,i,()),(x,r,(ms,q.2),()))
def D1x:Fq C11:=⟨.ret,(((),2,()),(([],[],0,0,0,()),()))⟩
def D1y (r q:SKTs kSt) (ms:List (TCT Bat)):Fq C11:=⟨.exit 0,(((),(),()),(r,(ms,q.2),()))⟩
abbrev TLi:=Tree (C9c.T⊕Fq C11)
def Bub (x:SKTs kGr) (r q:SKTs kSt) (p:List (TCT cPt)) (n i:Int) (ms:List (TCT Bat)):TLi:=bif decide (i<n) then inN p.length i (
 bif !onB (lwG x) (Cnv (Bam p (Int.toNat i) (Baj cPt))) then .leaf (.inr D1x) else D1w (Bam p (Int.toNat i) (Baj cPt)) ms fun ms'=>.leaf (.inl (Cda x r q p n (W64 (i+1)) ms'))) else .leaf (.inr (D1y r q ms))
def C4l (g:C9c.T):TLi:=Bub g.2.1 g.2.2.1 g.2.2.2.1 g.1.2.2.2.1 g.1.2.2.2.2.1 g.1.2.2.2.2.2.1 g.2.2.2.1.1
def Cnw (g:C9c.T):Nat:=(g.1.2.2.2.1:List (TCT cPt)).length+1
theorem De8:Baw Tryz.prog 28 Da7 (Bav C9c C11 (Bcm [.ret,.exit 0] C4l Cnw)):=Bb9 (Bas Bar puS1 V1) 7 _ C9c C11 (fun e=>by cases e <;> exact Nat.le_refl _) [.ret,.exit 0] C4l Cnw (fun g=>by kernel_rfl)
def Cw6 (l:TCT Ban) (p:List (TCT cPt)) (i:Nat):Bool:=onB l (Cnv (Bam p i (Baj cPt)))
def f_li (l:TCT Ban) (p:List (TCT cPt)) (i:Nat) (ms:List (TCT Bat)):List (TCT Bat)⊕Unit:=bif Cw6 l p i then .inl (ms++[C12 (Bam p i (Baj cPt))]) else .inr ()
def C9d (r q:SKTs kSt):List (TCT Bat)⊕Unit→Fq C11
 | .inl ms=>D1y r q ms
 | .inr _=>D1x
theorem D4l {l:TCT Ban} {p:List (TCT cPt)} (i:Nat) (s s':List (TCT Bat)) (_:i<p.length) (hi:s.length=i) (h:f_li l p i s=.inl s'):s'.length=i+1:=by
 unfold f_li at h
 cases ho:Cw6 l p i with
 | true=>rw [ho] at h;cases h;simp [hi]
 | false=>rw [ho] at h;cases h
theorem Daa {x:SKTs kGr} {r q:SKTs kSt} {p:List (TCT cPt)} (hp:p.length≤100):iter C4l (p.length+1) (Cda x r q p p.length 0 [])=some (C9d r q (Bap (f_li (lwG x) p) 0 p.length [])):=by
 have hp':(p.length:Int)≤Bb2 .i64:=by show (p.length:Int)≤9223372036854775807;omega
 refine Bfx p.length (fun i ms=>Cda x r q p p.length i ms) (f_li (lwG x) p) (C9d r q) (fun i ms=>ms.length=i) (fun i ms hi hl=>?_) D4l (fun ms hl=>?_) p.length 0 [] (by omega) rfl
 ·show (Bub x r q p p.length (i:Int) ms).run=_
  unfold Bub f_li Cw6 D1w
  rw [decide_eq_true (show (i:Int)<(p.length:Int) by omega),Bd0 (by omega),show Int.toNat (i:Int)=i from rfl,Bi7 (by simp;omega) (by decide),Bd9 hi hp']
  cases onB (lwG x) (Cnv (Bam p i (Baj cPt))) <;> rfl
 ·show (Bub x r q p p.length (p.length:Int) ms).run=_
  unfold Bub
  rw [decide_eq_false (show ¬ (p.length:Int)<(p.length:Int) by omega)]
  rfl
end St
end V
end Go.Proofs.YtcfanlgpkefogaaGreat
namespace Go.Proofs.YtcfanlgpkefogaaGreat
open Go.RowKit
namespace V
namespace St
abbrev plS3:List (Nat×PureT):=(42,Cd9)::(93,Ccm)::plS2
theorem puS3:Bcd Tryz.prog plS3:=puOk_cons is_cState.plain Cw4 (puOk_cons is_cfMot.plain Cus puS2)
def r0:SKTs kSt:=([],[],0,0,0,())
def q0 (p:List (TCT cPt)):SKTs kSt:=([],List.replicate (Int.toNat (p.length:Int)) false,0,0,0,())
def zS:TCT cSt:=([],[],0,0,0,())
abbrev TLs:=Tree (TCTs [cSt,cI])
def erS (c:Bool) (e:Int) (k:TLs):TLs:=bif c then .leaf (zS,e,()) else k
def Dab (g:TCT cGr) (p:List (TCT cPt)):Option (Fq C11):=iter C4l (p.length+1) (Cda (Bcq g) r0 (q0 p) p p.length 0 [])
def mkT {β:Type} (n:Int) (k:Tree β):Tree β:=bif decide (0≤n∧n≤n∧n≤65536∧((1:Nat):Int)*n≤281474976710656) then k else .fail
theorem D4m {β:Type} {n:Int} {k:Tree β} (h0:0≤n) (h:n≤65536):mkT n k=k:=by
 unfold mkT
 rw [decide_eq_true (by omega)];rfl
def stO (s:SKTs kSo):TCT cSt:=(s.1,s.2.1,s.2.2.1,s.2.2.2.1,s.2.2.2.2.1,())
def De9 (y:Option (Fq C11)):TLs:=bif isE .ret y then .leaf (C4k (Bc2 .ret y).2.1,(Bc2 .ret y).1.2.1,()) else bif isE (.exit 0) y then .leaf (stO (Bc2 (.exit 0) y).2.2.1,0,()) else .fail
def C14 (a b:Nat):Bool:=(a:Int)!=(b:Int)
def D4n (g:TCT cGr) (p:List (TCT cPt)):TLs:=szT g.1 (erS (groE g != 0) (groE g) (erS (C14 p.length (V2 g).length) 17 (mkT p.length (De9 (Dab g p)))))
def Dac (p:List (TCT cPt)):List (TCT Bat)⊕Unit→TCTs [cSt,cI]
 | .inl ms=>((ms,List.replicate p.length false,0,0,0,()),0,())
 | .inr _=>(zS,2,())
def Beq (g:TCT cGr) (p:List (TCT cPt)):TCTs [cSt,cI]:=bif groE g != 0 then (zS,groE g,()) else bif C14 p.length (V2 g).length then (zS,17,()) else Dac p (Bap (f_li g.1 p) 0 p.length [])
def etaS (s:TCT cSt):TCT cSt:=(s.1,s.2.1,s.2.2.1,s.2.2.2.1,s.2.2.2.2.1,())
abbrev D1z:PureT:=Bbh [cGr,.sl cPt] [cSt,cI] (fun x=>decide ((x.1.1.1.size:Int)≤Bb2 .i64)) (fun x=>(etaS (Beq x.1 x.2.1).1,(Beq x.1 x.2.1).2.1,()))
theorem Cdb {g:TCT cGr} (h:groE g=0):1≤(V2 g).length∧(V2 g).length≤8:=by
 unfold groE at h
 cases h1:Bc3 g.1 != 0 with
 | true=>rw [h1,cond_true] at h;rw [h] at h1;cases h1
 | false =>
  rw [h1,cond_false] at h
  cases h2:decide (((V2 g).length:Int)<1)||decide (((V2 g).length:Int)>8) with
  | true=>rw [h2] at h;cases h
  | false =>
   rw [Bool.or_eq_false_iff,decide_eq_false_iff_not,decide_eq_false_iff_not] at h2
   omega
theorem D4o {a b:Nat} (h:C14 a b=false):a=b:=by
 unfold C14 at h
 have:=bne_eq_false_iff_eq.1 h
 omega
theorem Cw7 {g:TCT cGr} {p:List (TCT cPt)} {k:TLs} (h:groE g=0→p.length=(V2 g).length→p.length≤8→k=.leaf (Dac p (Bap (f_li g.1 p) 0 p.length []))) :
  (bif groE g != 0 then .leaf (zS,groE g,()) else erS (C14 p.length (V2 g).length) 17 k:TLs).sat (fun y=>y=(etaS (Beq g p).1,(Beq g p).2.1,())):=by
 show Tree.sat (fun y=>y=Beq g p) _
 unfold Beq
 cases h1:groE g != 0 with
 | true=>exact rfl
 | false =>
  simp only [cond_false]
  unfold erS
  cases h2:C14 p.length (V2 g).length with
  | true=>exact rfl
  | false =>
   have e:=D4o h2
   have h0:groE g=0:=bne_eq_false_iff_eq.1 h1
   have:=Cdb h0
   rw [h h0 e (by omega)]
   exact rfl
theorem Cw8 {g:TCT cGr} {p:List (TCT cPt)} (hs:(g.1.1.size:Int)≤Bb2 .i64):(D4n g p).sat (fun y=>y=(etaS (Beq g p).1,(Beq g p).2.1,())):=by
 unfold D4n
 rw [Bce hs]
 refine Cw7 fun _ e hp=>?_
 have hy:Dab g p=some (C9d r0 (q0 p) (Bap (f_li g.1 p) 0 p.length [])):=Daa (by omega)
 rw [D4m (by omega) (by omega),hy]
 cases Bap (f_li g.1 p) 0 p.length [] <;> rfl
noncomputable def Dea:Ctx:=Bh4 Tryz.prog plS3 [(28,Tryz.f28)] [((28,8),Bav C9c C11 (Bcm [.ret,.exit 0] C4l Cnw))]
theorem Cw9:CtxOk Dea:=Bca Bar puS3 (fns_cons is_sLie V1) (Bc0 (by kernel_rfl) (by kernel_rfl) De8)
theorem Dad:Bai Tryz.prog 28 D1z:=Bbj Cw9 7 (fun x=>D4n x.1 x.2.1) (fun x=>by kernel_rfl) fun x hok _=>Cw8 (of_decide_eq_true hok)
def Bcc (s:TCT cSt):Bool:=(msT s).all Bf0
abbrev C15:PureT:=Bbh [cSt] [.b] (fun _=>true) (fun x=>(Bcc x.1,()))
theorem Ch9 (s:TCT cSt):(!(msT s).any (Bei ()))=Bcc s:=by
 have:(msT s).any (Bei ())=!(msT s).all Bf0:=Bis Bf0 _
 rw [this,Bool.not_not]
 rfl
theorem Cnx:Bai Tryz.prog 44 C15:=Bbj (Bas Bar puS3 (fns_cons is_sstill (fns_cons is_still1 V1))) 7 (fun x=>.leaf (!(msT x.1).any (Bei ()),())) (fun x=>by kernel_rfl) fun x _ _=>by
 show _=_
 rw [Ch9]
def C9e:Lay:={ keys:=[1,3],ks:=[.p 0 0 0 0,.d cI],bs:=[(0,45,kSt)],n:=19,nx:=1000,marks:=[] }
def Deb:Lay:={ keys:=[],ks:=[],bs:=[],n:=19,nx:=1000,marks:=[] }
def Daf:Lay:={ keys:=[2],ks:=[.d .b],bs:=[],n:=19,nx:=1000,marks:=[] }
def C9f:XE→Lay:=fun e=>match e with | .ret=>Daf | _=>Deb
def Cny (s:SKTs kSt) (i:Int):C9e.T:=(((),i,()),(s,()))
def Cnz:Fq C9f:=⟨.ret,((false,()),())⟩
def Co0:Fq C9f:=⟨.exit 0,((),())⟩
def Bil (m:TCT Bat):Bool:=!(m.2.1.1==0&&(m.2.1.2.1==0&&true))
theorem Cdc (m:TCT Bat):Bil m=!Bf0 m:=by unfold Bil Bf0;rw [Bool.and_true]
def Cdd (g:C9e.T):Tree (C9e.T⊕Fq C9f):=bif decide (g.1.2.1<((msS g.2.1).length:Int)) then bif decide (0≤g.1.2.1∧g.1.2.1<((msS g.2.1).length:Int)) then
 bif Bil (Bam (msS g.2.1) (Int.toNat g.1.2.1) (Baj Bat)) then .leaf (.inr Cnz) else .leaf (.inl (Cny g.2.1 (W64 (g.1.2.1+1)))) else .fail else .leaf (.inr Co0)
def Co1 (g:C9e.T):Nat:=(msS g.2.1).length+1
def Cwb (s:TCT cSt):Option (Fq C9f):=iter Cdd ((msT s).length+1) (Cny (Bp4 s) 0)
def D4p (s:TCT cSt):TBo:=bif isE .ret (Cwb s) then .leaf ((Bc2 .ret (Cwb s)).1.1,()) else bif isE (.exit 0) (Cwb s) then .leaf (true,()) else .fail
def plS4:List (Nat×PureT):=(44,C15)::plS3
theorem puS4:Bcd Tryz.prog plS4:=puOk_cons is_sstill.plain Cnx (puS3)
end St
end V
end Go.Proofs.YtcfanlgpkefogaaGreat
