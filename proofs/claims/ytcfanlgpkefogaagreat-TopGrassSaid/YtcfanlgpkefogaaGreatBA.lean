import Derived.Test.YtcfanlgpkefogaaGreatSd
import Derived.Test.YtcfanlgpkefogaaGreatTV
import Derived.Test.YtcfanlgpkefogaaGreatUj
import Derived.Test.YtcfanlgpkefogaaGreatBa
import Derived.Test.YtcfanlgpkefogaaGreatZe
namespace Go.Proofs.YtcfanlgpkefogaaGreat
open Go.RowKit
namespace V
abbrev Bwg:PureT:=Bbc [cPt,cPt,cI] [cPt,cI] (fun _=>true) (fun x=>(((TwR x.1.1 x.1.2.1 x.2.1.1 x.2.1.2.1 x.2.2.1).1.1,(TwR x.1.1 x.1.2.1 x.2.1.1 x.2.1.2.1 x.2.2.1).1.2,()),(TwR x.1.1 x.1.2.1 x.2.1.1 x.2.1.2.1 x.2.2.1).2,()))
theorem Ccv:Bai Tryz.prog 23 Bwg:=C7k
end V
end Go.Proofs.YtcfanlgpkefogaaGreat
namespace Go.Proofs.YtcfanlgpkefogaaGreat
open Go.RowKit
namespace V
namespace St
abbrev Bbj:TC:=.st [cI,cI,cI,cI,.b]
abbrev Bc6:TC:=.st [cI,cI,cI]
abbrev Bam:TC:=.st [.s,cI,cI,cI,.sl Bbj,Bag,cI,cI,.sl Bc6]
abbrev cGr:TC:=.st [Bam,.sl Fq,Bbv]
abbrev cSt:TC:=.st [.sl Baq,.sl .b,cI,cI,cI]
abbrev cBl:TC:=.st [cI,cPt,cI,cI]
abbrev cKn:TC:=.st [cI,cI,cI,cI,cI]
theorem is_between2:FnIs Tryz.prog (105,Tryz.f105):=⟨Tryz.func105,by kernel_rfl,by kernel_rfl⟩
theorem is_validHoop:FnIs Tryz.prog (118,Tryz.f118):=⟨Tryz.func118,by kernel_rfl,by kernel_rfl⟩
theorem is_validCell:FnIs Tryz.prog (121,Tryz.f121):=⟨Tryz.func121,by kernel_rfl,by kernel_rfl⟩
theorem is_Check1:FnIs Tryz.prog (117,Tryz.f117):=⟨Tryz.func117,by kernel_rfl,by kernel_rfl⟩
theorem is_Check2:FnIs Tryz.prog (120,Tryz.f120):=⟨Tryz.func120,by kernel_rfl,by kernel_rfl⟩
theorem is_CG1:FnIs Tryz.prog (124,Tryz.f124):=⟨Tryz.func124,by kernel_rfl,by kernel_rfl⟩
theorem is_still1:FnIs Tryz.prog (94,Tryz.f94):=⟨Tryz.func94,by kernel_rfl,by kernel_rfl⟩
theorem is_Runs1:FnIs Tryz.prog (82,Tryz.f82):=⟨Tryz.func82,by kernel_rfl,by kernel_rfl⟩
theorem is_tChk:FnIs Tryz.prog (43,Tryz.f43):=⟨Tryz.func43,by kernel_rfl,by kernel_rfl⟩
def inR (x lo hi:Int):Bool:=decide (lo≤x)&&decide (x≤hi)
abbrev s_inR:PureT:=Bbc [cI,cI,cI] [.b] (fun _=>true) (fun x=>(inR x.1 x.2.1 x.2.2.1,()))
abbrev TBo:=Tree (TCTs [.b])
def Bnn (a:Bool) (t:TBo):TBo:=bif a then t else .leaf (false,())
theorem Beq {a b:Bool} {t:TBo} (h:t.sat (fun y=>y=(b,()))):(Bnn a t).sat (fun y=>y=(a&&b,())):=by
 unfold Bnn
 cases a with
 | true=>rw [Bool.true_and];exact h
 | false=>exact rfl
theorem Bwh (b:Bool):(Tree.leaf (b,()):TBo).sat (fun y=>y=(b,())):=rfl
theorem q_between2:Bai Tryz.prog 105 s_inR:=Bbd (Bap Bao puOk_nil (fns_cons is_between2 No)) 3 (fun x=>Bnn (decide (x.2.1≤x.1)) (.leaf (decide (x.1≤x.2.2.1),()))) (fun x=>by kernel_rfl) fun _ _ _=>Beq (Bwh _)
def plBt:List (Nat×PureT):=[(105,s_inR)]
theorem puBt:Bc5 Tryz.prog plBt:=puOk_cons is_between2.plain q_between2 (puOk_nil)
def Bei (h:TCT Bbj):Bool:=inR h.1 0 4194304&&(inR h.2.1 0 4194304&&(inR h.2.2.1 2 32768&&((Int.tmod h.2.2.1 2==0)&&inR h.2.2.2.1 1 8192)))
def Bf9 (c:TCT Bc6):Bool:=inR c.1 0 65536&&(inR c.2.1 (-4096) 4096&&inR c.2.2.1 (-4096) 4096)
abbrev Byg:PureT:=Bbc [Bbj] [.b] (fun _=>true) (fun x=>(Bei x.1,()))
abbrev Byh:PureT:=Bbc [Bc6] [.b] (fun _=>true) (fun x=>(Bf9 x.1,()))
def Byi (h:TCT Bbj):TBo:=Bnn (inR h.1 0 4194304) (Bnn (inR h.2.1 0 4194304) (Bnn (inR h.2.2.1 2 32768) (Bnn (Int.tmod h.2.2.1 2==0) (.leaf (inR h.2.2.2.1 1 8192,())))))
def Byj (c:TCT Bc6):TBo:=Bnn (inR c.1 0 65536) (Bnn (inR c.2.1 (-4096) 4096) (.leaf (inR c.2.2.1 (-4096) 4096,())))
theorem Bsc (h:TCT Bbj):(Byi h).sat (fun y=>y=(Bei h,())):=Beq (Beq (Beq (Beq (Bwh _))))
theorem Bsd (c:TCT Bc6):(Byj c).sat (fun y=>y=(Bf9 c,())):=Beq (Beq (Bwh _))
theorem C0v:Bai Tryz.prog 118 Byg:=Bbd (Bap Bao puBt (fns_cons is_validHoop No)) 3 (fun x=>Byi x.1) (fun x=>by kernel_rfl) fun x _ _=>Bsc x.1
theorem C0w:Bai Tryz.prog 121 Byh:=Bbd (Bap Bao puBt (fns_cons is_validCell No)) 3 (fun x=>Byj x.1) (fun x=>by kernel_rfl) fun x _ _=>Bsd x.1
def Bdo (m:TCT Baq):Bool:=m.2.1.1==0&&m.2.1.2.1==0
def Bfo (b:TCT Fq):Bool:=Bgs b.1 b.2.1
abbrev D2j:PureT:=Bbc [Bbj] [.b] (fun _=>true) (fun x=>(!Bei x.1,()))
abbrev D2k:PureT:=Bbc [Bc6] [.b] (fun _=>true) (fun x=>(!Bf9 x.1,()))
abbrev Cvr:PureT:=Bbc [Fq] [.b] (fun _=>true) (fun x=>(!Bfo x.1,()))
abbrev Cvs:PureT:=Bbc [Baq] [.b] (fun _=>true) (fun x=>(!Bdo x.1,()))
abbrev Cvt:PureT:=Bbc [cPt] [.b] (fun _=>true) (fun x=>(!fpt x.1.1 x.1.2.1,()))
theorem D66:Bai Tryz.prog 117 D2j:=Bbd (Bap Bao (puOk_cons is_validHoop.plain C0v puOk_nil) (fns_cons is_Check1 No)) 3 (fun x=>.leaf (!Bei x.1,())) (fun x=>by kernel_rfl) fun _ _ _=>rfl
theorem D67:Bai Tryz.prog 120 D2k:=Bbd (Bap Bao (puOk_cons is_validCell.plain C0w puOk_nil) (fns_cons is_Check2 No)) 3 (fun x=>.leaf (!Bf9 x.1,())) (fun x=>by kernel_rfl) fun _ _ _=>rfl
theorem Bse (b:Bool):(okE b != 0)=!b:=by unfold okE;cases b <;> rfl
theorem D2l:Bai Tryz.prog 124 Cvr:=Bbd (Bap Bao (puOk_cons is_CheckBall.plain Bqr puOk_nil) (fns_cons is_CG1 No)) 3 (fun x=>.leaf (okE (Bgs x.1.1 x.1.2.1)!=0,())) (fun x=>by kernel_rfl) fun x _ _=>by
 show (okE (Bgs x.1.1 x.1.2.1)!=0,())=(!Bfo x.1,())
 rw [Bse];rfl
theorem D2m:Bai Tryz.prog 94 Cvs:=Bbd (Bap Bao puOk_nil (fns_cons is_still1 No)) 3 (fun x=>.leaf (!(x.1.2.1.1==0&&(x.1.2.1.2.1==0&&true)),())) (fun x=>by kernel_rfl) fun x _ _=>by
 show (!(x.1.2.1.1==0&&(x.1.2.1.2.1==0&&true)),())=(!Bdo x.1,())
 rw [Bool.and_true];rfl
theorem D2n:Bai Tryz.prog 82 Cvt:=Bbd (Bap Bao (puOk_cons is_tChk.plain Bji puOk_nil) (fns_cons is_Runs1 No)) 3 (fun x=>.leaf (Bf8 x.1.1 x.1.2.1 != 0,())) (fun x=>by kernel_rfl) fun x _ _=>by
 show (Bf8 x.1.1 x.1.2.1 != 0,())=(!fpt x.1.1 x.1.2.1,())
 unfold Bf8
 cases fpt x.1.1 x.1.2.1 <;> rfl
def plCl:List (Nat×PureT):=[(117,D2j),(120,D2k),(124,Cvr),(94,Cvs),(82,Cvt)]
theorem puCl:Bc5 Tryz.prog plCl:=puOk_cons is_Check1.plain D66 (puOk_cons is_Check2.plain D67 (puOk_cons is_CG1.plain D2l (puOk_cons is_still1.plain D2m (puOk_cons is_Runs1.plain D2n puOk_nil))))
theorem is_ixHoop:FnIs Tryz.prog (148,Tryz.f148):=⟨Tryz.func148,by kernel_rfl,by kernel_rfl⟩
theorem is_cfHoop:FnIs Tryz.prog (116,Tryz.f116):=⟨Tryz.func116,by kernel_rfl,by kernel_rfl⟩
abbrev Bg1:List SK:=[]
def Bcz (k:SKTs Bg1) (x:TCT (Bbj)):Bool:=!Bei x
noncomputable def Bwi:Code:=(Bal (bodyOf Tryz.f148)).getD 0 .skip
def Bhc:Lay:={ keys:=[0,1,7,8],ks:=[.d (.sl (Bbj)),.f 117 [] Bg1,.d cI,.d cI],bs:=[],n:=19,nx:=1000,marks:=[] }
def Ccw:Lay:={ keys:=[4],ks:=[.d cI],bs:=[],n:=19,nx:=1000,marks:=[] }
def Ccx:Lay:={ keys:=[],ks:=[],bs:=[],n:=19,nx:=1000,marks:=[] }
def Bga:XE→Lay
 | .ret=>Ccw
 | _=>Ccx
def Bwj (k:SKTs Bg1) (l:List (TCT (Bbj))) (n i:Int):Bhc.T:=((l,((),k),n,i,()),())
def Bno (i:Int):V1 Bga:=⟨.ret,((i,()),())⟩
def Bnp:V1 Bga:=⟨.exit 0,((),())⟩
def Bhu (k:SKTs Bg1) (l:List (TCT (Bbj))) (n:Int) (x:TCT (Bbj)) (i:Int):Tree (Bhc.T⊕V1 Bga):=bif Bcz k x then .leaf (.inr (Bno i)) else .leaf (.inl (Bwj k l n (W64 (i+1))))
def Ccy (k:SKTs Bg1) (l:List (TCT (Bbj))) (n i:Int):Tree (Bhc.T⊕V1 Bga) :=
 bif decide (i<n) then bif decide (0≤i∧i<(l.length:Int)) then Bhu k l n (Bav l i.toNat (Bas (Bbj))) i else .fail else .leaf (.inr Bnp)
def Bmq (g:Bhc.T):Tree (V1 Bga) :=
 .br (Bir g.1.2.2.1 g.1.2.2.2.1 g.1.1) (.br (g.1.1.any (Bcz g.1.2.1.2)) (.leaf (Bno (g.1.1.findIdx (Bcz g.1.2.1.2)))) (.leaf Bnp)) .fail
theorem Ch9:Bb0 Tryz.prog 148 Bwi (Baw Bhc Bga Bmq):=by
 refine Bdw (X:=ctx Tryz.prog plCl []) (Bap Bao puCl No) 7 148 (fun _=>none) (fun _ _ f h=>by simp at h) Bhc Bga (fun e=>by cases e <;> exact Nat.le_refl _) Bmq (fun g=>Ccy g.1.2.1.2 g.1.1 g.1.2.2.1 g.1.2.2.2.1) (fun g=>by kernel_rfl) ?_
 rintro ⟨⟨l,⟨⟨⟩,k⟩,n,i,⟨⟩⟩,⟨⟩⟩ R hw hf
 obtain ⟨hf,h0⟩:=hf
 by_cases hc:n=(l.length:Int)∧i=0
 ·obtain ⟨rfl,rfl⟩:=hc
  have hf:=hf (decide_eq_true ⟨rfl,rfl⟩)
  refine Coi l (Bas (Bbj)) (Bew hw.1.1) (fun n i _=>Bwj k l n i) (fun x i (_:Unit)=>bif Bcz k x then .inr (Bno i) else .inl ()) (fun _=>Bnp) (fun _=>True) (fun x i _=>Bhu k l l.length x i) (fun i _=>rfl) ?_ () trivial ?_
  ·intro i _ hi Q _ _ hw1 hQ
   show (Bhu k l l.length l[i] i).sat Q
   unfold Bhu
   rw [hw1]
   cases hp:Bcz k l[i] with
   | true=>rw [hp] at hQ;exact hQ
   | false=>rw [hp] at hQ;exact hQ trivial
  ·rw [Bm4 (Bcz k) (fun i=>Bno i) Bnp l 0,Nat.zero_add]
   cases ha:l.any (Bcz k) with
   | true=>exact hf.1 ha
   | false=>exact hf.2 ha
 ·exact (h0 (decide_eq_false hc)).elim
abbrev Cha:PureT:=Bib [.d (.sl (Bbj)),.f 117 [] Bg1] [cI] (fun _=>true) (fun x=>(bif x.1.any (Bcz x.2.1.2) then (x.1.findIdx (Bcz x.2.1.2):Int) else -1,()))
noncomputable def Chb:Ctx:=Bgo Tryz.prog plCl [(148,Tryz.f148)] [((148,keyOf Bwi),Baw Bhc Bga Bmq)]
theorem C0x:CtxOk Chb:=Bc8 Bao puCl (fns_cons is_ixHoop No) (Bbt rfl (by kernel_rfl) Ch9)
def C0y (k:SKTs Bg1) (l:List (TCT (Bbj))):Tree (Int×Unit):=bif Bir (l.length:Int) 0 l then bif l.any (Bcz k) then .leaf ((l.findIdx (Bcz k):Int),()) else .leaf (-1,()) else .fail
theorem C0z (k:SKTs Bg1) (l:List (TCT (Bbj))):(C0y k l).sat (fun y=>y=(bif l.any (Bcz k) then (l.findIdx (Bcz k):Int) else -1,())):=by
 refine Ble (decide_eq_true ⟨rfl,rfl⟩) ?_
 cases l.any (Bcz k) <;> exact rfl
theorem Chc:Bai Tryz.prog 148 Cha:=Bmm C0x 8 (fun x=>C0y x.2.1.2 x.1) (fun x=>by kernel_rfl) fun x _ _=>C0z _ _
abbrev C11:PureT:=Bib [.d (.sl (Bbj)),.f 117 [] Bg1] [.b] (fun _=>true) (fun x=>(x.1.any (Bcz x.2.1.2),()))
theorem C12 (k:SKTs Bg1) (l:List (TCT (Bbj))):(Tree.leaf (decide ((bif l.any (Bcz k) then (l.findIdx (Bcz k):Int) else -1)≥0),()):Tree (Bool×Unit)).sat (fun y=>y=(l.any (Bcz k),())):=by
 rw [Bp4];exact rfl
theorem Chd:Bai Tryz.prog 116 C11:=Bmm (Bap Bao (puOk_cons is_ixHoop.plain Chc puOk_nil) (fns_cons is_cfHoop No)) 8 (fun x=>.leaf (decide ((bif x.1.any (Bcz x.2.1.2) then (x.1.findIdx (Bcz x.2.1.2):Int) else -1)≥0),())) (fun x=>by kernel_rfl) fun x _ _=>C12 _ _
theorem is_ixCell:FnIs Tryz.prog (149,Tryz.f149):=⟨Tryz.func149,by kernel_rfl,by kernel_rfl⟩
theorem is_cfCell:FnIs Tryz.prog (119,Tryz.f119):=⟨Tryz.func119,by kernel_rfl,by kernel_rfl⟩
abbrev Bg2:List SK:=[]
def Bd0 (k:SKTs Bg2) (x:TCT (Bc6)):Bool:=!Bf9 x
noncomputable def Bwk:Code:=(Bal (bodyOf Tryz.f149)).getD 0 .skip
def Bhd:Lay:={ keys:=[0,1,7,8],ks:=[.d (.sl (Bc6)),.f 120 [] Bg2,.d cI,.d cI],bs:=[],n:=19,nx:=1000,marks:=[] }
def Ccz:Lay:={ keys:=[4],ks:=[.d cI],bs:=[],n:=19,nx:=1000,marks:=[] }
def Cd0:Lay:={ keys:=[],ks:=[],bs:=[],n:=19,nx:=1000,marks:=[] }
def Bgb:XE→Lay
 | .ret=>Ccz
 | _=>Cd0
def Bwl (k:SKTs Bg2) (l:List (TCT (Bc6))) (n i:Int):Bhd.T:=((l,((),k),n,i,()),())
def Bnq (i:Int):V1 Bgb:=⟨.ret,((i,()),())⟩
def Bnr:V1 Bgb:=⟨.exit 0,((),())⟩
def Bhv (k:SKTs Bg2) (l:List (TCT (Bc6))) (n:Int) (x:TCT (Bc6)) (i:Int):Tree (Bhd.T⊕V1 Bgb):=bif Bd0 k x then .leaf (.inr (Bnq i)) else .leaf (.inl (Bwl k l n (W64 (i+1))))
def Cd1 (k:SKTs Bg2) (l:List (TCT (Bc6))) (n i:Int):Tree (Bhd.T⊕V1 Bgb) :=
 bif decide (i<n) then bif decide (0≤i∧i<(l.length:Int)) then Bhv k l n (Bav l i.toNat (Bas (Bc6))) i else .fail else .leaf (.inr Bnr)
def Bmr (g:Bhd.T):Tree (V1 Bgb) :=
 .br (Bir g.1.2.2.1 g.1.2.2.2.1 g.1.1) (.br (g.1.1.any (Bd0 g.1.2.1.2)) (.leaf (Bnq (g.1.1.findIdx (Bd0 g.1.2.1.2)))) (.leaf Bnr)) .fail
theorem Che:Bb0 Tryz.prog 149 Bwk (Baw Bhd Bgb Bmr):=by
 refine Bdw (X:=ctx Tryz.prog plCl []) (Bap Bao puCl No) 7 149 (fun _=>none) (fun _ _ f h=>by simp at h) Bhd Bgb (fun e=>by cases e <;> exact Nat.le_refl _) Bmr (fun g=>Cd1 g.1.2.1.2 g.1.1 g.1.2.2.1 g.1.2.2.2.1) (fun g=>by kernel_rfl) ?_
 rintro ⟨⟨l,⟨⟨⟩,k⟩,n,i,⟨⟩⟩,⟨⟩⟩ R hw hf
 obtain ⟨hf,h0⟩:=hf
 by_cases hc:n=(l.length:Int)∧i=0
 ·obtain ⟨rfl,rfl⟩:=hc
  have hf:=hf (decide_eq_true ⟨rfl,rfl⟩)
  refine Coi l (Bas (Bc6)) (Bew hw.1.1) (fun n i _=>Bwl k l n i) (fun x i (_:Unit)=>bif Bd0 k x then .inr (Bnq i) else .inl ()) (fun _=>Bnr) (fun _=>True) (fun x i _=>Bhv k l l.length x i) (fun i _=>rfl) ?_ () trivial ?_
  ·intro i _ hi Q _ _ hw1 hQ
   show (Bhv k l l.length l[i] i).sat Q
   unfold Bhv
   rw [hw1]
   cases hp:Bd0 k l[i] with
   | true=>rw [hp] at hQ;exact hQ
   | false=>rw [hp] at hQ;exact hQ trivial
  ·rw [Bm4 (Bd0 k) (fun i=>Bnq i) Bnr l 0,Nat.zero_add]
   cases ha:l.any (Bd0 k) with
   | true=>exact hf.1 ha
   | false=>exact hf.2 ha
 ·exact (h0 (decide_eq_false hc)).elim
abbrev Chf:PureT:=Bib [.d (.sl (Bc6)),.f 120 [] Bg2] [cI] (fun _=>true) (fun x=>(bif x.1.any (Bd0 x.2.1.2) then (x.1.findIdx (Bd0 x.2.1.2):Int) else -1,()))
noncomputable def Chg:Ctx:=Bgo Tryz.prog plCl [(149,Tryz.f149)] [((149,keyOf Bwk),Baw Bhd Bgb Bmr)]
theorem C14:CtxOk Chg:=Bc8 Bao puCl (fns_cons is_ixCell No) (Bbt rfl (by kernel_rfl) Che)
def C15 (k:SKTs Bg2) (l:List (TCT (Bc6))):Tree (Int×Unit):=bif Bir (l.length:Int) 0 l then bif l.any (Bd0 k) then .leaf ((l.findIdx (Bd0 k):Int),()) else .leaf (-1,()) else .fail
theorem C16 (k:SKTs Bg2) (l:List (TCT (Bc6))):(C15 k l).sat (fun y=>y=(bif l.any (Bd0 k) then (l.findIdx (Bd0 k):Int) else -1,())):=by
 refine Ble (decide_eq_true ⟨rfl,rfl⟩) ?_
 cases l.any (Bd0 k) <;> exact rfl
theorem Chh:Bai Tryz.prog 149 Chf:=Bmm C14 8 (fun x=>C15 x.2.1.2 x.1) (fun x=>by kernel_rfl) fun x _ _=>C16 _ _
abbrev C17:PureT:=Bib [.d (.sl (Bc6)),.f 120 [] Bg2] [.b] (fun _=>true) (fun x=>(x.1.any (Bd0 x.2.1.2),()))
theorem C18 (k:SKTs Bg2) (l:List (TCT (Bc6))):(Tree.leaf (decide ((bif l.any (Bd0 k) then (l.findIdx (Bd0 k):Int) else -1)≥0),()):Tree (Bool×Unit)).sat (fun y=>y=(l.any (Bd0 k),())):=by
 rw [Bp4];exact rfl
theorem Chi:Bai Tryz.prog 119 C17:=Bmm (Bap Bao (puOk_cons is_ixCell.plain Chh puOk_nil) (fns_cons is_cfCell No)) 8 (fun x=>.leaf (decide ((bif x.1.any (Bd0 x.2.1.2) then (x.1.findIdx (Bd0 x.2.1.2):Int) else -1)≥0),())) (fun x=>by kernel_rfl) fun x _ _=>C18 _ _
theorem is_ixBall:FnIs Tryz.prog (151,Tryz.f151):=⟨Tryz.func151,by kernel_rfl,by kernel_rfl⟩
theorem is_cfBall:FnIs Tryz.prog (123,Tryz.f123):=⟨Tryz.func123,by kernel_rfl,by kernel_rfl⟩
abbrev Bg3:List SK:=[]
def Bd1 (k:SKTs Bg3) (x:TCT (Fq)):Bool:=!Bfo x
noncomputable def Bwm:Code:=(Bal (bodyOf Tryz.f151)).getD 0 .skip
def Bhe:Lay:={ keys:=[0,1,7,8],ks:=[.d (.sl (Fq)),.f 124 [] Bg3,.d cI,.d cI],bs:=[],n:=19,nx:=1000,marks:=[] }
def Cd2:Lay:={ keys:=[4],ks:=[.d cI],bs:=[],n:=19,nx:=1000,marks:=[] }
def Cd3:Lay:={ keys:=[],ks:=[],bs:=[],n:=19,nx:=1000,marks:=[] }
def Bgc:XE→Lay
 | .ret=>Cd2
 | _=>Cd3
def Bwn (k:SKTs Bg3) (l:List (TCT (Fq))) (n i:Int):Bhe.T:=((l,((),k),n,i,()),())
def Bns (i:Int):V1 Bgc:=⟨.ret,((i,()),())⟩
def Bnt:V1 Bgc:=⟨.exit 0,((),())⟩
def Bhw (k:SKTs Bg3) (l:List (TCT (Fq))) (n:Int) (x:TCT (Fq)) (i:Int):Tree (Bhe.T⊕V1 Bgc):=bif Bd1 k x then .leaf (.inr (Bns i)) else .leaf (.inl (Bwn k l n (W64 (i+1))))
def Cd4 (k:SKTs Bg3) (l:List (TCT (Fq))) (n i:Int):Tree (Bhe.T⊕V1 Bgc) :=
 bif decide (i<n) then bif decide (0≤i∧i<(l.length:Int)) then Bhw k l n (Bav l i.toNat (Bas (Fq))) i else .fail else .leaf (.inr Bnt)
def Bms (g:Bhe.T):Tree (V1 Bgc) :=
 .br (Bir g.1.2.2.1 g.1.2.2.2.1 g.1.1) (.br (g.1.1.any (Bd1 g.1.2.1.2)) (.leaf (Bns (g.1.1.findIdx (Bd1 g.1.2.1.2)))) (.leaf Bnt)) .fail
theorem Chj:Bb0 Tryz.prog 151 Bwm (Baw Bhe Bgc Bms):=by
 refine Bdw (X:=ctx Tryz.prog plCl []) (Bap Bao puCl No) 7 151 (fun _=>none) (fun _ _ f h=>by simp at h) Bhe Bgc (fun e=>by cases e <;> exact Nat.le_refl _) Bms (fun g=>Cd4 g.1.2.1.2 g.1.1 g.1.2.2.1 g.1.2.2.2.1) (fun g=>by kernel_rfl) ?_
 rintro ⟨⟨l,⟨⟨⟩,k⟩,n,i,⟨⟩⟩,⟨⟩⟩ R hw hf
 obtain ⟨hf,h0⟩:=hf
 by_cases hc:n=(l.length:Int)∧i=0
 ·obtain ⟨rfl,rfl⟩:=hc
  have hf:=hf (decide_eq_true ⟨rfl,rfl⟩)
  refine Coi l (Bas (Fq)) (Bew hw.1.1) (fun n i _=>Bwn k l n i) (fun x i (_:Unit)=>bif Bd1 k x then .inr (Bns i) else .inl ()) (fun _=>Bnt) (fun _=>True) (fun x i _=>Bhw k l l.length x i) (fun i _=>rfl) ?_ () trivial ?_
  ·intro i _ hi Q _ _ hw1 hQ
   show (Bhw k l l.length l[i] i).sat Q
   unfold Bhw
   rw [hw1]
   cases hp:Bd1 k l[i] with
   | true=>rw [hp] at hQ;exact hQ
   | false=>rw [hp] at hQ;exact hQ trivial
  ·rw [Bm4 (Bd1 k) (fun i=>Bns i) Bnt l 0,Nat.zero_add]
   cases ha:l.any (Bd1 k) with
   | true=>exact hf.1 ha
   | false=>exact hf.2 ha
 ·exact (h0 (decide_eq_false hc)).elim
abbrev Chk:PureT:=Bib [.d (.sl (Fq)),.f 124 [] Bg3] [cI] (fun _=>true) (fun x=>(bif x.1.any (Bd1 x.2.1.2) then (x.1.findIdx (Bd1 x.2.1.2):Int) else -1,()))
noncomputable def Chl:Ctx:=Bgo Tryz.prog plCl [(151,Tryz.f151)] [((151,keyOf Bwm),Baw Bhe Bgc Bms)]
theorem C19:CtxOk Chl:=Bc8 Bao puCl (fns_cons is_ixBall No) (Bbt rfl (by kernel_rfl) Chj)
def C1a (k:SKTs Bg3) (l:List (TCT (Fq))):Tree (Int×Unit):=bif Bir (l.length:Int) 0 l then bif l.any (Bd1 k) then .leaf ((l.findIdx (Bd1 k):Int),()) else .leaf (-1,()) else .fail
theorem C1b (k:SKTs Bg3) (l:List (TCT (Fq))):(C1a k l).sat (fun y=>y=(bif l.any (Bd1 k) then (l.findIdx (Bd1 k):Int) else -1,())):=by
 refine Ble (decide_eq_true ⟨rfl,rfl⟩) ?_
 cases l.any (Bd1 k) <;> exact rfl
theorem Chm:Bai Tryz.prog 151 Chk:=Bmm C19 8 (fun x=>C1a x.2.1.2 x.1) (fun x=>by kernel_rfl) fun x _ _=>C1b _ _
abbrev C1c:PureT:=Bib [.d (.sl (Fq)),.f 124 [] Bg3] [.b] (fun _=>true) (fun x=>(x.1.any (Bd1 x.2.1.2),()))
theorem C1d (k:SKTs Bg3) (l:List (TCT (Fq))):(Tree.leaf (decide ((bif l.any (Bd1 k) then (l.findIdx (Bd1 k):Int) else -1)≥0),()):Tree (Bool×Unit)).sat (fun y=>y=(l.any (Bd1 k),())):=by
 rw [Bp4];exact rfl
theorem Chn:Bai Tryz.prog 123 C1c:=Bmm (Bap Bao (puOk_cons is_ixBall.plain Chm puOk_nil) (fns_cons is_cfBall No)) 8 (fun x=>.leaf (decide ((bif x.1.any (Bd1 x.2.1.2) then (x.1.findIdx (Bd1 x.2.1.2):Int) else -1)≥0),())) (fun x=>by kernel_rfl) fun x _ _=>C1d _ _
theorem is_ixMot:FnIs Tryz.prog (133,Tryz.f133):=⟨Tryz.func133,by kernel_rfl,by kernel_rfl⟩
theorem is_cfMot:FnIs Tryz.prog (93,Tryz.f93):=⟨Tryz.func93,by kernel_rfl,by kernel_rfl⟩
abbrev Bif:List SK:=[]
def Be1 (k:SKTs Bif) (x:TCT (Baq)):Bool:=!Bdo x
noncomputable def C1e:Code:=(Bal (bodyOf Tryz.f133)).getD 0 .skip
def Bjb:Lay:={ keys:=[0,1,7,8],ks:=[.d (.sl (Baq)),.f 94 [] Bif,.d cI,.d cI],bs:=[],n:=19,nx:=1000,marks:=[] }
def Cho:Lay:={ keys:=[4],ks:=[.d cI],bs:=[],n:=19,nx:=1000,marks:=[] }
def Chp:Lay:={ keys:=[],ks:=[],bs:=[],n:=19,nx:=1000,marks:=[] }
def Bhx:XE→Lay
 | .ret=>Cho
 | _=>Chp
def C1f (k:SKTs Bif) (l:List (TCT (Baq))) (n i:Int):Bjb.T:=((l,((),k),n,i,()),())
def Brk (i:Int):V1 Bhx:=⟨.ret,((i,()),())⟩
def Brl:V1 Bhx:=⟨.exit 0,((),())⟩
def Bjc (k:SKTs Bif) (l:List (TCT (Baq))) (n:Int) (x:TCT (Baq)) (i:Int):Tree (Bjb.T⊕V1 Bhx):=bif Be1 k x then .leaf (.inr (Brk i)) else .leaf (.inl (C1f k l n (W64 (i+1))))
def Chq (k:SKTs Bif) (l:List (TCT (Baq))) (n i:Int):Tree (Bjb.T⊕V1 Bhx) :=
 bif decide (i<n) then bif decide (0≤i∧i<(l.length:Int)) then Bjc k l n (Bav l i.toNat (Bas (Baq))) i else .fail else .leaf (.inr Brl)
def Bpe (g:Bjb.T):Tree (V1 Bhx) :=
 .br (Bir g.1.2.2.1 g.1.2.2.2.1 g.1.1) (.br (g.1.1.any (Be1 g.1.2.1.2)) (.leaf (Brk (g.1.1.findIdx (Be1 g.1.2.1.2)))) (.leaf Brl)) .fail
theorem Cpg:Bb0 Tryz.prog 133 C1e (Baw Bjb Bhx Bpe):=by
 refine Bdw (X:=ctx Tryz.prog plCl []) (Bap Bao puCl No) 7 133 (fun _=>none) (fun _ _ f h=>by simp at h) Bjb Bhx (fun e=>by cases e <;> exact Nat.le_refl _) Bpe (fun g=>Chq g.1.2.1.2 g.1.1 g.1.2.2.1 g.1.2.2.2.1) (fun g=>by kernel_rfl) ?_
 rintro ⟨⟨l,⟨⟨⟩,k⟩,n,i,⟨⟩⟩,⟨⟩⟩ R hw hf
 obtain ⟨hf,h0⟩:=hf
 by_cases hc:n=(l.length:Int)∧i=0
 ·obtain ⟨rfl,rfl⟩:=hc
  have hf:=hf (decide_eq_true ⟨rfl,rfl⟩)
  refine Coi l (Bas (Baq)) (Bew hw.1.1) (fun n i _=>C1f k l n i) (fun x i (_:Unit)=>bif Be1 k x then .inr (Brk i) else .inl ()) (fun _=>Brl) (fun _=>True) (fun x i _=>Bjc k l l.length x i) (fun i _=>rfl) ?_ () trivial ?_
  ·intro i _ hi Q _ _ hw1 hQ
   show (Bjc k l l.length l[i] i).sat Q
   unfold Bjc
   rw [hw1]
   cases hp:Be1 k l[i] with
   | true=>rw [hp] at hQ;exact hQ
   | false=>rw [hp] at hQ;exact hQ trivial
  ·rw [Bm4 (Be1 k) (fun i=>Brk i) Brl l 0,Nat.zero_add]
   cases ha:l.any (Be1 k) with
   | true=>exact hf.1 ha
   | false=>exact hf.2 ha
 ·exact (h0 (decide_eq_false hc)).elim
abbrev Cph:PureT:=Bib [.d (.sl (Baq)),.f 94 [] Bif] [cI] (fun _=>true) (fun x=>(bif x.1.any (Be1 x.2.1.2) then (x.1.findIdx (Be1 x.2.1.2):Int) else -1,()))
noncomputable def Cpi:Ctx:=Bgo Tryz.prog plCl [(133,Tryz.f133)] [((133,keyOf C1e),Baw Bjb Bhx Bpe)]
theorem C5r:CtxOk Cpi:=Bc8 Bao puCl (fns_cons is_ixMot No) (Bbt rfl (by kernel_rfl) Cpg)
def C97 (k:SKTs Bif) (l:List (TCT (Baq))):Tree (Int×Unit):=bif Bir (l.length:Int) 0 l then bif l.any (Be1 k) then .leaf ((l.findIdx (Be1 k):Int),()) else .leaf (-1,()) else .fail
theorem C5s (k:SKTs Bif) (l:List (TCT (Baq))):(C97 k l).sat (fun y=>y=(bif l.any (Be1 k) then (l.findIdx (Be1 k):Int) else -1,())):=by
 refine Ble (decide_eq_true ⟨rfl,rfl⟩) ?_
 cases l.any (Be1 k) <;> exact rfl
theorem Cpj:Bai Tryz.prog 133 Cph:=Bmm C5r 8 (fun x=>C97 x.2.1.2 x.1) (fun x=>by kernel_rfl) fun x _ _=>C5s _ _
abbrev C98:PureT:=Bib [.d (.sl (Baq)),.f 94 [] Bif] [.b] (fun _=>true) (fun x=>(x.1.any (Be1 x.2.1.2),()))
theorem C5t (k:SKTs Bif) (l:List (TCT (Baq))):(Tree.leaf (decide ((bif l.any (Be1 k) then (l.findIdx (Be1 k):Int) else -1)≥0),()):Tree (Bool×Unit)).sat (fun y=>y=(l.any (Be1 k),())):=by
 rw [Bp4];exact rfl
theorem Cpk:Bai Tryz.prog 93 C98:=Bmm (Bap Bao (puOk_cons is_ixMot.plain Cpj puOk_nil) (fns_cons is_cfMot No)) 8 (fun x=>.leaf (decide ((bif x.1.any (Be1 x.2.1.2) then (x.1.findIdx (Be1 x.2.1.2):Int) else -1)≥0),())) (fun x=>by kernel_rfl) fun x _ _=>C5t _ _
end St
end V
end Go.Proofs.YtcfanlgpkefogaaGreat
namespace Go.Proofs.YtcfanlgpkefogaaGreat
open Go.RowKit
namespace V
namespace St
theorem is_lposts:FnIs Tryz.prog (74,Tryz.f74):=⟨Tryz.func74,by kernel_rfl,by kernel_rfl⟩
theorem is_lwires:FnIs Tryz.prog (114,Tryz.f114):=⟨Tryz.func114,by kernel_rfl,by kernel_rfl⟩
theorem is_turned:FnIs Tryz.prog (84,Tryz.f84):=⟨Tryz.func84,by kernel_rfl,by kernel_rfl⟩
abbrev kLw:List SK:=[.d .s,.d cI,.d cI,.d cI,.d (.sl Bbj),.d cI,.d cI,.d cI,.d cI,.d cI,.d (.sl Bc6)]
def Bkc (x:SKTs kLw):TCT Bam:=(x.1,x.2.1,x.2.2.1,x.2.2.2.1,x.2.2.2.2.1,((x.2.2.2.2.2.1,x.2.2.2.2.2.2.1,()),x.2.2.2.2.2.2.2.1,()),x.2.2.2.2.2.2.2.2.1,x.2.2.2.2.2.2.2.2.2.1,x.2.2.2.2.2.2.2.2.2.2.1,())
def Bd2 (l:TCT Bam):SKTs kLw:=(l.1,l.2.1,l.2.2.1,l.2.2.2.1,l.2.2.2.2.1,l.2.2.2.2.2.1.1.1,l.2.2.2.2.2.1.1.2.1,l.2.2.2.2.2.1.2.1,l.2.2.2.2.2.2.1,l.2.2.2.2.2.2.2.1,l.2.2.2.2.2.2.2.2.1,())
def Baz (l:TCT Bam):List (TCT Bbj):=l.2.2.2.2.1
def Bis (l:TCT Bam):TCT Bag:=l.2.2.2.2.2.1
def dW (h:TCT Bbj):Int:=W64 (W64 (Int.tdiv h.2.2.1 2)+h.2.2.2.1)
def Bm8 (x y r:Int):TCT Bag:=((x,y,()),r,())
def w2 (h:TCT Bbj):List (TCT Bag):=bif h.2.2.2.2.1 then [Bm8 h.1 (W64 (h.2.1-dW h)) h.2.2.2.1,Bm8 h.1 (W64 (h.2.1+dW h)) h.2.2.2.1] else [Bm8 (W64 (h.1-dW h)) h.2.1 h.2.2.2.1,Bm8 (W64 (h.1+dW h)) h.2.1 h.2.2.2.1]
def Bbk (l:TCT Bam):List (TCT Bag):=(Baz l).flatMap w2++[Bis l]
noncomputable def D2o:Code:=(Bal (bodyOf Tryz.f74)).getD 0 .skip
def Bvs:Lay:={ keys:=[1,2,7,8,9],ks:=[.p 0 0 0 0,.o 33 Bag,.d (.sl Bbj),.d cI,.d cI],bs:=[(0,36,kLw)],n:=24,nx:=1000,marks:=[] }
def D2p:Lay:={ keys:=[1,2],ks:=[.p 0 0 0 0,.o 33 Bag],bs:=[(0,36,kLw)],n:=24,nx:=1000,marks:=[] }
def Byk:XE→Lay:=fun _=>D2p
def Chr (x:SKTs kLw) (hs:List (TCT Bbj)) (n:Int) (i:Int) (o:List (TCT Bag)):Bvs.T:=(((),o,hs,n,i,()),(x,()))
def Bwo (x:SKTs kLw) (o:List (TCT Bag)):V1 Byk:=⟨.exit 0,(((),o,()),(x,()))⟩
def C5u (x:SKTs kLw) (hs:List (TCT Bbj)) (n i:Int) (o w:List (TCT Bag)):Tree (Bvs.T⊕V1 Byk):=bif Bd8 o w 24 then .leaf (.inl (Chr x hs n (W64 (i+1)) (o++w))) else .fail
def Byl (x:SKTs kLw) (hs:List (TCT Bbj)) (n i:Int) (o:List (TCT Bag)) (h:TCT Bbj):Tree (Bvs.T⊕V1 Byk) :=
 bif h.2.2.2.2.1 then C5u x hs n i o [Bm8 (W64 (h.1-0)) (W64 (h.2.1-dW h)) h.2.2.2.1,Bm8 (W64 (h.1+0)) (W64 (h.2.1+dW h)) h.2.2.2.1]
 else C5u x hs n i o [Bm8 (W64 (h.1-dW h)) (W64 (h.2.1-0)) h.2.2.2.1,Bm8 (W64 (h.1+dW h)) (W64 (h.2.1+0)) h.2.2.2.1]
def C1g (g:Bvs.T):Tree (Bvs.T⊕V1 Byk) :=
 bif decide (g.1.2.2.2.2.1<g.1.2.2.2.1) then bif decide (0≤g.1.2.2.2.2.1∧g.1.2.2.2.2.1<((g.1.2.2.1:List (TCT Bbj)).length:Int)) then Byl g.2.1 g.1.2.2.1 g.1.2.2.2.1 g.1.2.2.2.2.1 g.1.2.1 (Bav g.1.2.2.1 (Int.toNat g.1.2.2.2.2.1) (Bas Bbj)) else .fail else .leaf (.inr (Bwo g.2.1 g.1.2.1))
def Chs (g:Bvs.T):Nat:=(g.1.2.2.1:List (TCT Bbj)).length+1
noncomputable def D2q:Ctx:=ctx Tryz.prog [] [(114,Tryz.f114),(84,Tryz.f84)]
theorem Cht:CtxOk D2q:=Bap Bao puOk_nil (fns_cons is_lwires (fns_cons is_turned No))
theorem D68:Bb0 Tryz.prog 74 D2o (Baw Bvs Byk (Bd4 [.exit 0] C1g Chs)):=Bbi Cht 7 _ Bvs Byk (fun _=>Nat.le_refl _) [.exit 0] C1g Chs (fun g=>by kernel_rfl)
noncomputable def D69:Ctx:=Bgo Tryz.prog [] [(74,Tryz.f74)] [((74,2),Baw Bvs Byk (Bd4 [.exit 0] C1g Chs))]
theorem Cpl:CtxOk D69:=Bc8 Bao puOk_nil (fns_cons is_lposts No) (Bbt (by kernel_rfl) (by kernel_rfl) D68)
def Cpm (l:TCT Bam):Option (V1 Byk):=iter C1g ((Baz l).length+1) (Chr (Bd2 l) (Baz l) (Baz l).length 0 [])
abbrev TPo:=Tree (TCTs [.sl Bag])
def C5v (r:D2p.T):TPo:=bif Bd8 r.1.2.1 [Bis (Bkc r.2.1)] 24 then .leaf (r.1.2.1++[Bis (Bkc r.2.1)],()) else .fail
def Cy2 (l:TCT Bam):TPo:=bif isE (.exit 0) (Cpm l) then C5v (Bca (.exit 0) (Cpm l)) else .fail
abbrev Bjd:PureT:=Bbc [Bam] [.sl Bag] (fun x=>decide ((Baz x.1).length≤1000)) (fun x=>(Bbk x.1,()))
theorem Bpf {α β E:Type} (w:α→List β) (ex:List β→E):∀ (l:List α) (i:Nat) (s:List β),Bqd (fun _ x s=>some (.inl (s++w x))) (fun s=>some (ex s)) i l s=some (ex (s++l.flatMap w))
 | [],_,s=>by simp [Bqd]
 | x::l,i,s=>by simp only [Bqd];rw [Bpf w ex l (i+1)];simp [List.append_assoc]
theorem C5w (h:TCT Bbj):(w2 h).length=2:=by unfold w2;cases h.2.2.2.2.1 <;> rfl
theorem Bnu (l:List (TCT Bbj)):(l.flatMap w2).length=2*l.length:=by
 induction l with
 | nil=>rfl
 | cons h l ih =>
  have e:((h::l).flatMap w2).length=(w2 h).length+(l.flatMap w2).length:=by rw [List.flatMap_cons,List.length_append]
  rw [e,ih,C5w,List.length_cons];omega
theorem Bwp {o w:List (TCT Bag)} (h:o.length+w.length≤4000):Bd8 o w 24=true:=by
 rw [Be3];exact decide_eq_true (by omega)
theorem Cy3 {h:TCT Bbj} (hw:WFD Bbj h):W64 (h.1-0)=h.1∧W64 (h.1+0)=h.1∧W64 (h.2.1-0)=h.2.1∧W64 (h.2.1+0)=h.2.1:=by
 obtain ⟨x,y,g,w,a,⟨⟩⟩:=h
 obtain ⟨h1,h2,_⟩:=hw
 have h1 : -9223372036854775808≤x∧x≤9223372036854775807:=h1
 have h2 : -9223372036854775808≤y∧y≤9223372036854775807:=h2
 exact ⟨by rw [Int.sub_zero];exact Bbb h1.1 h1.2,by rw [Int.add_zero];exact Bbb h1.1 h1.2,by rw [Int.sub_zero];exact Bbb h2.1 h2.2,by rw [Int.add_zero];exact Bbb h2.1 h2.2⟩
theorem Cpn {l:TCT Bam} (hw:∀ h ∈ Baz l,WFD Bbj h) (hl:(Baz l).length≤1000):Cpm l=some (Bwo (Bd2 l) ((Baz l).flatMap w2)):=by
 unfold Cpm
 have key:=Bec (st:=C1g) (Baz l) (fun i o=>Chr (Bd2 l) (Baz l) (Baz l).length (i:Int) o) (fun _ h o=>some (.inl (o++w2 h))) (fun o=>some (Bwo (Bd2 l) o)) (fun i o=>o.length=2*i)
  (fun i o hi hI=>by
   simp only
   refine ⟨?_,by rw [List.length_append,hI,C5w];omega⟩
   show (bif decide ((i:Int)<((Baz l).length:Int)) then bif decide (0≤(i:Int)∧(i:Int)<((Baz l).length:Int)) then Byl (Bd2 l) (Baz l) (Baz l).length (i:Int) o (Bav (Baz l) (Int.toNat (i:Int)) (Bas Bbj)) else .fail else .leaf (.inr (Bwo (Bd2 l) o))).run=_
   rw [decide_eq_true (show (i:Int)<((Baz l).length:Int) by omega),decide_eq_true (show 0≤(i:Int)∧(i:Int)<((Baz l).length:Int) by omega),show Int.toNat (i:Int)=i by omega,Bdb hi]
   obtain ⟨e1,e2,e3,e4⟩:=Cy3 (hw _ (List.getElem_mem hi))
   simp only [cond_true]
   unfold Byl w2 C5u
   rw [e1,e2,e3,e4,Bbb (n:=(i:Int)+1) (by omega) (by omega)]
   cases (Baz l)[i].2.2.2.2.1 with
   | true =>
    simp only [cond_true]
    rw [Bwp (by simp only [List.length_cons,List.length_nil,hI];omega)]
    rfl
   | false =>
    simp only [cond_false]
    rw [Bwp (by simp only [List.length_cons,List.length_nil,hI];omega)]
    rfl)
  (fun o e hI he=>by
   cases he
   show (bif decide (((Baz l).length:Int)<((Baz l).length:Int)) then _ else Tree.leaf (Sum.inr (Bwo (Bd2 l) o)):Tree (Bvs.T⊕V1 Byk)).run=_
   rw [decide_eq_false (show ¬ ((Baz l).length:Int)<((Baz l).length:Int) by omega)]
   rfl)
  (Baz l).length 0 [] (Bwo (Bd2 l) ((Baz l).flatMap w2)) ((Baz l).length+1) (by omega) (by omega) rfl (by rw [List.drop_zero,Bpf,List.nil_append])
 exact key
theorem Bym:Bai Tryz.prog 74 Bjd:=Bbd Cpl 7 (fun x=>Cy2 x.1) (fun x=>by kernel_rfl) fun x hok hw=>by
 have hl:(Baz x.1).length≤1000:=of_decide_eq_true hok
 show (Cy2 x.1).sat _
 unfold Cy2
 rw [Cpn (Cva hw.1.2.2.2.2.1) hl]
 show (C5v (((),(Baz x.1).flatMap w2,()),(Bd2 x.1,()))).sat _
 unfold C5v
 simp only
 rw [Bwp (by rw [Bnu];simp only [List.length_cons,List.length_nil];omega)]
 exact rfl
end St
end V
end Go.Proofs.YtcfanlgpkefogaaGreat
namespace Go.Proofs.YtcfanlgpkefogaaGreat
open Go.RowKit
namespace V
namespace St
def Bvt:Lay:={ keys:=[1,3,4],ks:=[.p 0 0 0 0,.o 33 Bag,.d cI],bs:=[(0,36,kLw)],n:=73,nx:=1000,marks:=[] }
def D2s:Lay:={ keys:=[1,3],ks:=[.p 0 0 0 0,.o 33 Bag],bs:=[(0,36,kLw)],n:=73,nx:=1000,marks:=[] }
def Byn:XE→Lay:=fun _=>D2s
def Chu (x:SKTs kLw) (i:Int) (o:List (TCT Bag)):Bvt.T:=(((),o,i,()),(x,()))
def Bwq (x:SKTs kLw) (o:List (TCT Bag)):V1 Byn:=⟨.exit 0,(((),o,()),(x,()))⟩
def C5x (x:SKTs kLw) (i:Int) (o w:List (TCT Bag)):Tree (Bvt.T⊕V1 Byn):=bif Bd8 o w 24 then .leaf (.inl (Chu x (W64 (i+1)) (o++w))) else .fail
def Byo (x:SKTs kLw) (i:Int) (o:List (TCT Bag)) (h:TCT Bbj):Tree (Bvt.T⊕V1 Byn) :=
 bif h.2.2.2.2.1 then C5x x i o [Bm8 h.1 (W64 (h.2.1-dW h)) h.2.2.2.1,Bm8 h.1 (W64 (h.2.1+dW h)) h.2.2.2.1]
 else C5x x i o [Bm8 (W64 (h.1-dW h)) h.2.1 h.2.2.2.1,Bm8 (W64 (h.1+dW h)) h.2.1 h.2.2.2.1]
def C1h (g:Bvt.T):Tree (Bvt.T⊕V1 Byn) :=
 bif decide (g.1.2.2.1<((g.2.1.2.2.2.2.1:List (TCT Bbj)).length:Int)) then bif decide (0≤g.1.2.2.1∧g.1.2.2.1<((g.2.1.2.2.2.2.1:List (TCT Bbj)).length:Int)) then Byo g.2.1 g.1.2.2.1 g.1.2.1 (Bav g.2.1.2.2.2.2.1 (Int.toNat g.1.2.2.1) (Bas Bbj)) else .fail else .leaf (.inr (Bwq g.2.1 g.1.2.1))
def Chv (g:Bvt.T):Nat:=(g.2.1.2.2.2.2.1:List (TCT Bbj)).length+1
noncomputable def D2t:Ctx:=ctx Tryz.prog [] []
theorem Chw:CtxOk D2t:=Bap Bao puOk_nil No
def Cpp (l:TCT Bam):Option (V1 Byn):=iter C1h ((Baz l).length+1) (Chu (Bd2 l) 0 [])
def C5y (r:D2s.T):TPo:=bif Bd8 r.1.2.1 [Bis (Bkc r.2.1)] 24 then .leaf (r.1.2.1++[Bis (Bkc r.2.1)],()) else .fail
def Cy4 (l:TCT Bam):TPo:=bif isE (.exit 0) (Cpp l) then C5y (Bca (.exit 0) (Cpp l)) else .fail
theorem Cpq {l:TCT Bam} (hl:(Baz l).length≤1000):Cpp l=some (Bwq (Bd2 l) ((Baz l).flatMap w2)):=by
 unfold Cpp
 have key:=Bec (st:=C1h) (Baz l) (fun i o=>Chu (Bd2 l) (i:Int) o) (fun _ h o=>some (.inl (o++w2 h))) (fun o=>some (Bwq (Bd2 l) o)) (fun i o=>o.length=2*i)
  (fun i o hi hI=>by
   simp only
   refine ⟨?_,by rw [List.length_append,hI,C5w];omega⟩
   show (bif decide ((i:Int)<((Baz l).length:Int)) then bif decide (0≤(i:Int)∧(i:Int)<((Baz l).length:Int)) then Byo (Bd2 l) (i:Int) o (Bav (Baz l) (Int.toNat (i:Int)) (Bas Bbj)) else .fail else .leaf (.inr (Bwq (Bd2 l) o))).run=_
   rw [decide_eq_true (show (i:Int)<((Baz l).length:Int) by omega),decide_eq_true (show 0≤(i:Int)∧(i:Int)<((Baz l).length:Int) by omega),show Int.toNat (i:Int)=i by omega,Bdb hi]
   simp only [cond_true]
   unfold Byo w2 C5x
   rw [Bbb (n:=(i:Int)+1) (by omega) (by omega)]
   cases (Baz l)[i].2.2.2.2.1 with
   | true =>
    simp only [cond_true]
    rw [Bwp (by simp only [List.length_cons,List.length_nil,hI];omega)]
    rfl
   | false =>
    simp only [cond_false]
    rw [Bwp (by simp only [List.length_cons,List.length_nil,hI];omega)]
    rfl)
  (fun o e hI he=>by
   cases he
   show (bif decide (((Baz l).length:Int)<((Baz l).length:Int)) then _ else Tree.leaf (Sum.inr (Bwq (Bd2 l) o)):Tree (Bvt.T⊕V1 Byn)).run=_
   rw [decide_eq_false (show ¬ ((Baz l).length:Int)<((Baz l).length:Int) by omega)]
   rfl)
  (Baz l).length 0 [] (Bwq (Bd2 l) ((Baz l).flatMap w2)) ((Baz l).length+1) (by omega) (by omega) rfl (by rw [List.drop_zero,Bpf,List.nil_append])
 exact key
end St
end V
end Go.Proofs.YtcfanlgpkefogaaGreat
namespace Go.Proofs.YtcfanlgpkefogaaGreat
open Go.RowKit
namespace V
namespace St
theorem is_vname:FnIs Tryz.prog (115,Tryz.f115):=⟨Tryz.func115,by kernel_rfl,by kernel_rfl⟩
theorem is_vname1:FnIs Tryz.prog (147,Tryz.f147):=⟨Tryz.func147,by kernel_rfl,by kernel_rfl⟩
theorem is_sCont:FnIs Tryz.prog (146,Tryz.f146):=⟨Tryz.func146,by kernel_rfl,by kernel_rfl⟩
theorem is_sIdx:FnIs Tryz.prog (165,Tryz.f165):=⟨Tryz.func165,by kernel_rfl,by kernel_rfl⟩
theorem is_sidx:FnIs Tryz.prog (170,Tryz.f170):=⟨Tryz.func170,by kernel_rfl,by kernel_rfl⟩
def C1j (r:Int):Bool:=(decide (r<97)||decide (r>122))&&(decide (r<48)||decide (r>57))
def Chx (r:Int):TBo:=bif decide (r<97) then bif decide (r<48) then .leaf (true,()) else .leaf (decide (r>57),()) else bif decide (r>122) then bif decide (r<48) then .leaf (true,()) else .leaf (decide (r>57),()) else .leaf (false,())
abbrev Chy:PureT:=Bbc [.i .i32] [.b] (fun _=>true) (fun x=>(C1j x.1,()))
theorem Chz (r:Int):(Chx r).sat (fun y=>y=(C1j r,())):=by
 unfold Chx C1j
 cases decide (r<97) <;> cases decide (r>122) <;> cases decide (r<48) <;> exact rfl
theorem Ci0:Bai Tryz.prog 147 Chy:=Bbd (Bap Bao puOk_nil (fns_cons is_vname1 No)) 3 (fun x=>Chx x.1) (fun x=>by kernel_rfl) fun x _ _=>Chz x.1
def plNm:List (Nat×PureT):=[(147,Chy)]
theorem puNm:Bc5 Tryz.prog plNm:=puOk_cons is_vname1.plain Ci0 puOk_nil
def nmT (t:ByteArray):Nat→Nat→TBo
 | 0,_=>.fail
 | n+1,pos=>bif Nat.ble (pos+1) t.size then
   bif Bft .i64 (pos:Int)&&Bft .i32 ((Utf8.decode t pos).1:Int) then
    bif C1j ((Utf8.decode t pos).1:Int)==true then .leaf (!decide ((pos:Int)≥0),()) else nmT t n (pos+(Utf8.decode t pos).2)
   else .fail
  else .leaf (!decide ((-1:Int)≥0),())
def Byp (t:ByteArray):TBo:=bif Bft .i64 (t.size:Int) then bif decide ((t.size:Int)≥1) then bif Bft .i64 (t.size:Int) then bif decide ((t.size:Int)≤20) then nmT t 21 0 else .leaf (false,()) else .fail else .leaf (false,()) else .fail
noncomputable def D2u:Ctx:=Cfh 21 Tryz.prog plNm [(115,Tryz.f115),(146,Tryz.f146),(165,Tryz.f165),(170,Tryz.f170)]
theorem Cpr:CtxOk D2u:=Bp5 Bao puNm (fns_cons is_vname (fns_cons is_sCont (fns_cons is_sIdx (fns_cons is_sidx No))))
theorem Cd5 (t:ByteArray):Bcx D2u 12 (.fn 115) [.val (.string t)] Bbx 0 (Bgq Tryz.prog [.b])=Byp t:=by kernel_rfl
end St
end V
end Go.Proofs.YtcfanlgpkefogaaGreat
namespace Go.Proofs.YtcfanlgpkefogaaGreat
open Go.RowKit
namespace V
namespace St
def Bco (t:ByteArray):List UInt8:=t.data.toList
def Bpg (b:UInt8):Bool:=C1j ((b.toNat:Nat):Int)
def Bhf (t:ByteArray):Bool:=decide (1≤t.size∧t.size≤20)&&!(Bco t).any Bpg
theorem Blh (t:ByteArray):(Bco t).length=t.size:=Array.length_toList
theorem Cd6 {n:Int} (h:0≤n) (h2:n≤9223372036854775807):Bft .i64 n=true:=by
 unfold Bft
 rw [decide_eq_true (show Bgd .i64≤n by simp only [Bgd];omega),decide_eq_true (show n≤Bb2 .i64 by simp only [Bb2];omega)];rfl
theorem D2v {n:Int} (h:0≤n) (h2:n≤2147483647):Bft .i32 n=true:=by
 unfold Bft
 rw [decide_eq_true (show Bgd .i32≤n by simp only [Bgd];omega),decide_eq_true (show n≤Bb2 .i32 by simp only [Bb2];omega)];rfl
theorem Cy5 {t:ByteArray} {i:Nat} (h:i<t.size):t.get! i=(Bco t)[i]'(by rw [Blh];exact h):=by
 have h':i<t.data.size:=h
 show t.data[i]! = _
 rw [getElem!_pos t.data i h']
 simp [Bco]
theorem Cy6 {t:ByteArray} {i:Nat} (h:(t.get! i).toNat<128):Utf8.decode t i=((t.get! i).toNat,1):=by
 unfold Utf8.decode
 simp only [Nat.add_zero]
 rw [if_pos h]
theorem Cy7 {t:ByteArray} {i:Nat} (h:¬ (t.get! i).toNat<128):128≤(Utf8.decode t i).1∧(Utf8.decode t i).1≤2100000:=by
 have hb:(t.get! i).toNat<256:=(t.get! i).toNat_lt
 unfold Utf8.decode
 simp only [Nat.add_zero]
 rw [if_neg h]
 have m1:=Nat.mod_lt (t.get! (i+1)).toNat (show 0<64 by omega)
 have m2:=Nat.mod_lt (t.get! (i+2)).toNat (show 0<64 by omega)
 have m3:=Nat.mod_lt (t.get! (i+3)).toNat (show 0<64 by omega)
 have r:128≤Utf8.runeError∧Utf8.runeError≤2100000:=by decide
 split
 ·split
  ·rename_i hc
   simp only
   omega
  ·exact r
 ·split
  ·split
   ·rename_i hc
    simp only [ge_iff_le,Bool.and_eq_true,decide_eq_true_eq] at hc
    simp only
    omega
   ·exact r
  ·split
   ·split
    ·rename_i hc
     simp only [ge_iff_le,Bool.and_eq_true,decide_eq_true_eq] at hc
     simp only
     omega
    ·exact r
   ·exact r
theorem Ci1 {r:Nat} (h:128≤r):C1j (r:Int)=true:=by
 unfold C1j
 rw [decide_eq_true (show (r:Int)>122 by omega),decide_eq_true (show (r:Int)>57 by omega)]
 simp
theorem Ci2 {t:ByteArray} (hs:t.size≤20):∀ (n pos:Nat),pos≤t.size→t.size-pos<n→nmT t n pos=.leaf (!((Bco t).drop pos).any Bpg,())
 | 0,_,_,h=>absurd h (Nat.not_lt_zero _)
 | n+1,pos,hp,hn=>by
  unfold nmT
  by_cases hlt:pos<t.size
  ·have hb:Nat.ble (pos+1) t.size=true:=by rw [Nat.ble_eq];omega
   have hd:(Bco t).drop pos=(Bco t)[pos]'(by rw [Blh];exact hlt)::(Bco t).drop (pos+1):=List.drop_eq_getElem_cons _
   rw [hb,cond_true,hd,List.any_cons,← Cy5 hlt]
   by_cases h8:(t.get! pos).toNat<128
   ·rw [Cy6 h8]
    simp only
    have hk:(Bft .i64 (pos:Int)&&Bft .i32 (((t.get! pos).toNat:Nat):Int))=true:=by
     rw [Cd6 (by omega) (by omega),D2v (by omega) (by omega)];rfl
    rw [hk,cond_true]
    show (bif Bpg (t.get! pos)==true then _ else _:TBo)=_
    cases hbd:Bpg (t.get! pos) with
    | true =>
     rw [decide_eq_true (show (pos:Int)≥0 by omega)]
     rfl
    | false =>
     show nmT t n (pos+1)=_
     rw [Ci2 hs n (pos+1) (by omega) (by omega),Bool.false_or]
   ·obtain ⟨h1,h2⟩:=Cy7 h8
    have hk:(Bft .i64 (pos:Int)&&Bft .i32 (((Utf8.decode t pos).1:Nat):Int))=true:=by
     rw [Cd6 (by omega) (by omega),D2v (by omega) (by omega)];rfl
    have hbu:Bpg (t.get! pos)=true:=Ci1 (by omega)
    rw [hk,cond_true,Ci1 h1,hbu,decide_eq_true (show (pos:Int)≥0 by omega)]
    rfl
  ·have hb:Nat.ble (pos+1) t.size=false:=by
    cases h:Nat.ble (pos+1) t.size with
    | false=>rfl
    | true=>rw [Nat.ble_eq] at h;omega
   rw [hb,cond_false,List.drop_eq_nil_of_le (by rw [Blh];omega)]
   rfl
theorem Cd7 {t:ByteArray} (h64:(t.size:Int)≤Bb2 .i64):(Byp t).sat (fun y=>y=(Bhf t,())):=by
 unfold Byp Bhf
 have hk:Bft .i64 (t.size:Int)=true:=Cd6 (by omega) (by simp only [Bb2] at h64;exact h64)
 rw [hk]
 simp only [cond_true]
 by_cases h1:1≤t.size
 ·rw [decide_eq_true (show (t.size:Int)≥1 by omega)]
  by_cases h2:t.size≤20
  ·rw [decide_eq_true (show (t.size:Int)≤20 by omega),decide_eq_true (show 1≤t.size∧t.size≤20 from ⟨h1,h2⟩),cond_true,cond_true,Ci2 h2 21 0 (by omega) (by omega)]
   exact rfl
  ·rw [decide_eq_false (show ¬ (t.size:Int)≤20 by omega),decide_eq_false (show ¬ (1≤t.size∧t.size≤20) from fun h=>h2 h.2)]
   exact rfl
 ·rw [decide_eq_false (show ¬ (t.size:Int)≥1 by omega),decide_eq_false (show ¬ (1≤t.size∧t.size≤20) from fun h=>h1 h.1)]
  exact rfl
end St
end V
end Go.Proofs.YtcfanlgpkefogaaGreat
namespace Go.Proofs.YtcfanlgpkefogaaGreat
open Go.RowKit
namespace V
namespace St
abbrev Byq:PureT:=Bbc [.s] [.b] (fun x=>decide ((x.1.size:Int)≤Bb2 .i64)) (fun x=>(Bhf x.1,()))
theorem Cps:Bai Tryz.prog 115 Byq:=Bbd Cpr 12 (fun x=>Byp x.1) (fun x=>Cd5 x.1) fun x hok _=>Cd7 (of_decide_eq_true hok)
def C5z:Lay:={ keys:=[0,3],ks:=[.d .s,.d cI],bs:=[],n:=41,nx:=1000,marks:=[] }
def D6c:Lay:={ keys:=[],ks:=[],bs:=[],n:=41,nx:=1000,marks:=[] }
def D2x:Lay:={ keys:=[2],ks:=[.d .b],bs:=[],n:=41,nx:=1000,marks:=[] }
def C60:XE→Lay:=fun e=>match e with | .ret=>D2x | _=>D6c
def Bwr (t:ByteArray) (i:Int):C5z.T:=((t,i,()),())
def Bsf:V1 C60:=⟨.ret,((false,()),())⟩
def C1k:V1 C60:=⟨.exit 0,((),())⟩
abbrev TNm:=Tree (C5z.T⊕V1 C60)
def byI (t:ByteArray) (i:Int):Int:=((((t.data.toList.getD (Int.toNat i) 0).toNat:Nat)):Int)
def inI (t:ByteArray) (i:Int) (k:TNm):TNm:=bif decide (0≤i∧i<(t.size:Int)) then k else .fail
def C61 (t:ByteArray) (i:Int):TNm:=inI t i (bif decide (byI t i≥48) then inI t i (bif !decide (byI t i≤57) then .leaf (.inr Bsf) else .leaf (.inl (Bwr t (W64 (i+1))))) else .leaf (.inr Bsf))
def Bsg (t:ByteArray) (i:Int):TNm :=
 bif Bft .i64 (t.size:Int) then bif decide (i<(t.size:Int)) then
  inI t i (bif decide (byI t i≥97) then inI t i (bif decide (byI t i≤122) then .leaf (.inl (Bwr t (W64 (i+1)))) else C61 t i) else C61 t i)
 else .leaf (.inr C1k) else .fail
def Bws (g:C5z.T):TNm:=Bsg g.1.1 g.1.2.1
def Ci3 (g:C5z.T):Nat:=(Bco g.1.1).length+1
noncomputable def D2y:Ctx:=ctx Tryz.prog [] []
theorem Ci4:CtxOk D2y:=Bap Bao puOk_nil No
def Ci5 (t:ByteArray):Option (V1 C60):=iter Bws ((Bco t).length+1) (Bwr t 0)
def Cy8 (t:ByteArray):TBo:=bif Bft .i64 (t.size:Int) then bif decide ((t.size:Int)<1) then .leaf (false,()) else bif Bft .i64 (t.size:Int) then bif decide ((t.size:Int)>20) then .leaf (false,()) else
 bif isE .ret (Ci5 t) then .leaf ((Bca .ret (Ci5 t)).1.1,()) else bif isE (.exit 0) (Ci5 t) then .leaf (true,()) else .fail else .fail else .fail
theorem Cy9 {t:ByteArray} {i:Nat} (h:i<(Bco t).length):byI t (i:Int)=((((Bco t)[i]).toNat:Nat):Int):=by
 unfold byI
 rw [show Int.toNat (i:Int)=i by omega]
 show ((((Bco t).getD i 0).toNat:Nat):Int)=_
 rw [List.getD_eq_getElem?_getD,List.getElem?_eq_getElem h]
 rfl
theorem Cpu {t:ByteArray} (h64:(t.size:Int)≤Bb2 .i64):Ci5 t=some (bif (Bco t).any Bpg then Bsf else C1k):=by
 have h64':(t.size:Int)≤9223372036854775807:=h64
 have hlen:=Blh t
 unfold Ci5
 have key:=Bec (st:=Bws) (Bco t) (fun i (_:Unit)=>Bwr t (i:Int)) (fun _ b _=>bif Bpg b then some (.inr Bsf) else some (.inl ())) (fun _=>some C1k) (fun _ _=>True)
  (fun i s hi _=>by
   have hI:decide (0≤(i:Int)∧(i:Int)<(t.size:Int))=true:=decide_eq_true (by omega)
   have hrun:(Bws (Bwr t (i:Int))).run=some (bif Bpg (Bco t)[i] then .inr Bsf else .inl (Bwr t ((i+1:Nat):Int))):=by
    show (Bsg t (i:Int)).run=_
    unfold Bsg C61 inI Bpg C1j
    rw [Cd6 (by omega) h64',decide_eq_true (show (i:Int)<(t.size:Int) by omega),hI,Cy9 hi,Bbb (n:=(i:Int)+1) (by omega) (by omega)]
    generalize ((((Bco t)[i]).toNat:Nat):Int)=b
    by_cases h1:b<97
    ·rw [decide_eq_true h1,decide_eq_false (show ¬ b≥97 by omega)]
     by_cases h2:b<48
     ·rw [decide_eq_true h2,decide_eq_false (show ¬ b≥48 by omega)];simp;rfl
     ·rw [decide_eq_false h2,decide_eq_true (show b≥48 by omega)]
      by_cases h3:b>57
      ·rw [decide_eq_true h3,decide_eq_false (show ¬ b≤57 by omega)];simp;rfl
      ·rw [decide_eq_false h3,decide_eq_true (show b≤57 by omega)];simp;rfl
    ·rw [decide_eq_false h1,decide_eq_true (show b≥97 by omega)]
     by_cases h2:b>122
     ·rw [decide_eq_true h2,decide_eq_false (show ¬ b≤122 by omega),decide_eq_false (show ¬ b<48 by omega),decide_eq_true (show b≥48 by omega),decide_eq_true (show b>57 by omega),decide_eq_false (show ¬ b≤57 by omega)];simp;rfl
     ·rw [decide_eq_false h2,decide_eq_true (show b≤122 by omega)];simp;rfl
   cases hb:Bpg (Bco t)[i] with
   | true =>
    rw [hb] at hrun
    simp only [cond_true]
    exact hrun
   | false =>
    rw [hb] at hrun
    simp only [cond_false]
    exact ⟨hrun,trivial⟩)
  (fun s e _ he=>by
   cases he
   show (Bsg t (((Bco t).length:Nat):Int)).run=_
   unfold Bsg
   rw [Cd6 (by omega) h64',decide_eq_false (show ¬ (((Bco t).length:Nat):Int)<(t.size:Int) by omega)]
   rfl)
  (Bco t).length 0 () (bif (Bco t).any Bpg then Bsf else C1k) ((Bco t).length+1) (by omega) (by omega) trivial (by rw [List.drop_zero];exact Bp7 Bpg (fun _=>Bsf) C1k _ 0)
 exact key
theorem Cpv {t:ByteArray} (h64:(t.size:Int)≤Bb2 .i64):(Cy8 t).sat (fun y=>y=(Bhf t,())):=by
 unfold Cy8 Bhf
 rw [Cd6 (by omega) (show (t.size:Int)≤9223372036854775807 from h64),Cpu h64]
 simp only [cond_true]
 by_cases h1:1≤t.size
 ·rw [decide_eq_false (show ¬ (t.size:Int)<1 by omega)]
  by_cases h2:t.size≤20
  ·rw [decide_eq_false (show ¬ (t.size:Int)>20 by omega),decide_eq_true (show 1≤t.size∧t.size≤20 from ⟨h1,h2⟩)]
   cases (Bco t).any Bpg <;> exact rfl
  ·rw [decide_eq_true (show (t.size:Int)>20 by omega),decide_eq_false (show ¬ (1≤t.size∧t.size≤20) from fun h=>h2 h.2)]
   exact rfl
 ·rw [decide_eq_true (show (t.size:Int)<1 by omega),decide_eq_false (show ¬ (1≤t.size∧t.size≤20) from fun h=>h1 h.1)]
  exact rfl
end St
end V
end Go.Proofs.YtcfanlgpkefogaaGreat
namespace Go.Proofs.YtcfanlgpkefogaaGreat
open Go.RowKit
namespace V
namespace St
theorem is_Touch:FnIs Tryz.prog (150,Tryz.f150):=⟨Tryz.func150,by kernel_rfl,by kernel_rfl⟩
theorem is_tCD:FnIs Tryz.prog (155,Tryz.f155):=⟨Tryz.func155,by kernel_rfl,by kernel_rfl⟩
theorem is_tsq:FnIs Tryz.prog (68,Tryz.f68):=⟨Tryz.func68,by kernel_rfl,by kernel_rfl⟩
theorem is_cmp64:FnIs Tryz.prog (142,Tryz.f142):=⟨Tryz.func142,by kernel_rfl,by kernel_rfl⟩
theorem is_nan64:FnIs Tryz.prog (161,Tryz.f161):=⟨Tryz.func161,by kernel_rfl,by kernel_rfl⟩
theorem is_lapart:FnIs Tryz.prog (122,Tryz.f122):=⟨Tryz.func122,by kernel_rfl,by kernel_rfl⟩
def Cpx (x y:Int):Int:=bif decide (x<y) then -1 else bif decide (x>y) then 1 else 0
def cdE (a:TCT Bag):Int:=Btr a.1.1 a.1.2.1 a.2.1
def sqD (a b:TCT Bag):Int:=W64 (W64 (W64 (b.1.1-a.1.1)*W64 (b.1.1-a.1.1))+W64 (W64 (b.1.2.1-a.1.2.1)*W64 (b.1.2.1-a.1.2.1)))
def srD (a b:TCT Bag):Int:=W64 (W64 (a.2.1+b.2.1)*W64 (a.2.1+b.2.1))
def Cd8 (a b:TCT Bag):Int:=bif cdE a==0&&cdE b==0 then Cpx (sqD a b) (srD a b) else 0
def Cya (a b:TCT Bag):Int:=bif cdE a==0&&cdE b==0 then 0 else 2
abbrev C99:PureT:=Bbc [Bag,Bag] [cI,cI] (fun _=>true) (fun x=>(Cd8 x.1 x.2.1,Cya x.1 x.2.1,()))
abbrev TTo:=Tree (TCTs [cI,cI])
def Cvu (x y:Int):TTo:=bif x != x then bif y != y then .leaf (0,0,()) else .leaf (-1,0,()) else bif y != y then .leaf (1,0,()) else bif decide (x<y) then .leaf (-1,0,()) else bif decide (x>y) then .leaf (1,0,()) else .leaf (0,0,())
def Byr (a b:TCT Bag):TTo:=bif cdE a != 0 then .leaf (0,2,()) else bif cdE b != 0 then .leaf (0,2,()) else Cvu (sqD a b) (srD a b)
theorem C62 (a b:TCT Bag):(Byr a b).sat (fun y=>y=(Cd8 a b,Cya a b,())):=by
 unfold Byr Cd8 Cya Cvu Cpx
 rw [bne_self_eq_false,bne_self_eq_false]
 have e:∀ n:Int,(n != 0)=!(n==0):=fun _=>rfl
 rw [e,e]
 cases cdE a==0 <;> cases cdE b==0 <;> try exact rfl
 cases decide (sqD a b<srD a b) <;> cases decide (sqD a b>srD a b) <;> exact rfl
theorem Cpy:Bai Tryz.prog 150 C99:=Bbd (Bap Bao (puOk_cons is_tCD.plain Bqp puOk_nil) (fns_cons is_Touch (fns_cons is_tsq (fns_cons is_cmp64 (fns_cons is_nan64 No))))) 5 (fun x=>Byr x.1 x.2.1) (fun x=>by kernel_rfl) fun x _ _=>C62 _ _
def plAp:List (Nat×PureT):=[(150,C99),(105,s_inR)]
theorem puAp:Bc5 Tryz.prog plAp:=puOk_cons is_Touch.plain Cpy (puOk_cons is_between2.plain q_between2 puOk_nil)
noncomputable def C9a:Code:=(Bal (bodyOf Tryz.f122)).getD 0 .skip
noncomputable def C9b:Code:=(Bal (bodyOf Tryz.f122)).getD 1 .skip
abbrev kD3:List SK:=[.d cI,.d cI,.d cI]
def d3 (d:SKTs kD3):TCT Bag:=((d.1,d.2.1,()),d.2.2.1,())
def D2z (d:TCT Bag):TCT Bag:=((d.1.1,d.1.2.1,()),d.2.1,())
def toD (d:TCT Bag):SKTs kD3:=(d.1.1,d.1.2.1,d.2.1,())
def Bvu:Lay:={ keys:=[1,2,6,11,12,13,46,47,48],ks:=[.d (.sl Bag),.p 0 0 0 0,.p 1000 0 0 0,.d (.sl Bag),.d cI,.d cI,.d (.sl Bag),.d cI,.d cI],bs:=[(0,36,kLw),(1000,33,kD3)],n:=62,nx:=2000,marks:=[] }
def D30:Lay:={ keys:=[1,2,11,12,13],ks:=[.d (.sl Bag),.p 0 0 0 0,.d (.sl Bag),.d cI,.d cI],bs:=[(0,36,kLw)],n:=62,nx:=2000,marks:=[] }
def Cvv:Lay:={ keys:=[4],ks:=[.d .b],bs:=[],n:=62,nx:=2000,marks:=[] }
def Bsh:XE→Lay:=fun e=>match e with | .ret=>Cvv | _=>D30
def Bsi:Lay:={ keys:=[1,2,11,12,13],ks:=[.d (.sl Bag),.p 0 0 0 0,.d (.sl Bag),.d cI,.d cI],bs:=[(0,36,kLw)],n:=62,nx:=1000,marks:=[] }
def D6f:Lay:={ keys:=[],ks:=[],bs:=[],n:=62,nx:=2000,marks:=[] }
def C1l:XE→Lay:=fun e=>match e with | .ret=>Cvv | _=>D6f
def Bsj (x:SKTs kLw) (d:SKTs kD3) (p q:List (TCT Bag)) (n i:Int) (r:List (TCT Bag)) (m k:Int):Bvu.T:=((p,(),(),q,n,i,r,m,k,()),(x,d,()))
def Bqg:V1 Bsh:=⟨.ret,((false,()),())⟩
def Bqh (x:SKTs kLw) (p q:List (TCT Bag)) (n i:Int):V1 Bsh:=⟨.exit 2,((p,(),q,n,i,()),(x,()))⟩
def Bsk (g:Bvu.T):Tree (Bvu.T⊕V1 Bsh) :=
 bif decide (g.1.2.2.2.2.2.2.2.2.1<g.1.2.2.2.2.2.2.2.1) then bif decide (0≤g.1.2.2.2.2.2.2.2.2.1∧g.1.2.2.2.2.2.2.2.2.1<((g.1.2.2.2.2.2.2.1:List (TCT Bag)).length:Int)) then
  bif decide (Cd8 (d3 g.2.2.1) (D2z (Bav g.1.2.2.2.2.2.2.1 (Int.toNat g.1.2.2.2.2.2.2.2.2.1) (Bas Bag)))<0) then .leaf (.inr Bqg) else .leaf (.inl (Bsj g.2.1 g.2.2.1 g.1.1 g.1.2.2.2.1 g.1.2.2.2.2.1 g.1.2.2.2.2.2.1 g.1.2.2.2.2.2.2.1 g.1.2.2.2.2.2.2.2.1 (W64 (g.1.2.2.2.2.2.2.2.2.1+1))))
 else .fail else .leaf (.inr (Bqh g.2.1 g.1.1 g.1.2.2.2.1 g.1.2.2.2.2.1 g.1.2.2.2.2.2.1))
def Ci6 (g:Bvu.T):Nat:=(g.1.2.2.2.2.2.2.1:List (TCT Bag)).length+1
noncomputable def C1m:Ctx:=ctx Tryz.prog plAp []
theorem C1n:CtxOk C1m:=Bap Bao puAp No
theorem D6g:Bb0 Tryz.prog 122 C9b (Baw Bvu Bsh (Bd4 [.ret,.exit 2] Bsk Ci6)):=Bbi C1n 7 _ Bvu Bsh (fun e=>by cases e <;> exact Nat.le_refl _) [.ret,.exit 2] Bsk Ci6 (fun g=>by kernel_rfl)
def Bfp {α:Type} (ok:Nat→α→Bool):Nat→List α→Bool
 | _,[]=>true
 | i,x::l=>ok i x&&Bfp ok (i+1) l
theorem Bsl {α E:Type} (ok:Nat→α→Bool) (r d:E):∀ (l:List α) (i:Nat),Bqd (fun i x (_:Unit)=>bif ok i x then some (.inl ()) else some (.inr r)) (fun _=>some d) i l ()=some (bif Bfp ok i l then d else r)
 | [],i=>rfl
 | x::l,i=>by
  simp only [Bqd,Bfp]
  cases ok i x with
  | true=>simp only [cond_true,Bool.true_and];exact Bsl ok r d l (i+1)
  | false=>rfl
def touB (d o:TCT Bag):Bool:=decide (Cd8 d o<0)
theorem Cpz (x:SKTs kLw) (d:TCT Bag) (p q:List (TCT Bag)) (n i:Int) (r:List (TCT Bag)) (hr:(r.length:Int)≤Bb2 .i64) :
  iter Bsk (r.length+1) (Bsj x (toD d) p q n i r r.length 0)=some (bif r.any (touB d) then Bqg else Bqh x p q n i):=by
 have hr':(r.length:Int)≤9223372036854775807:=hr
 have key:=Bec (st:=Bsk) r (fun k (_:Unit)=>Bsj x (toD d) p q n i r r.length (k:Int)) (fun _ o _=>bif touB d o then some (.inr Bqg) else some (.inl ())) (fun _=>some (Bqh x p q n i)) (fun _ _=>True)
  (fun k s hk _=>by
   have hrun:(Bsk (Bsj x (toD d) p q n i r r.length (k:Int))).run=some (bif touB d r[k] then .inr Bqg else .inl (Bsj x (toD d) p q n i r r.length ((k+1:Nat):Int))):=by
    show (bif decide ((k:Int)<(r.length:Int)) then bif decide (0≤(k:Int)∧(k:Int)<(r.length:Int)) then bif touB d (D2z (Bav r (Int.toNat (k:Int)) (Bas Bag))) then Tree.leaf (Sum.inr Bqg) else .leaf (.inl (Bsj x (toD d) p q n i r r.length (W64 ((k:Int)+1)))) else .fail else .leaf (.inr (Bqh x p q n i)):Tree (Bvu.T⊕V1 Bsh)).run=_
    rw [decide_eq_true (show (k:Int)<(r.length:Int) by omega),decide_eq_true (show 0≤(k:Int)∧(k:Int)<(r.length:Int) by omega),show Int.toNat (k:Int)=k by omega,Bdb hk,Bbb (n:=(k:Int)+1) (by omega) (by omega)]
    show (bif touB d r[k] then _ else _:Tree (Bvu.T⊕V1 Bsh)).run=_
    cases touB d r[k] <;> rfl
   cases hb:touB d r[k] with
   | true=>rw [hb] at hrun;simp only [cond_true];exact hrun
   | false=>rw [hb] at hrun;simp only [cond_false];exact ⟨hrun,trivial⟩)
  (fun s e _ he=>by
   cases he
   show (bif decide ((r.length:Int)<(r.length:Int)) then _ else Tree.leaf (Sum.inr (Bqh x p q n i)):Tree (Bvu.T⊕V1 Bsh)).run=_
   rw [decide_eq_false (show ¬ (r.length:Int)<(r.length:Int) by omega)]
   rfl)
  r.length 0 () (bif r.any (touB d) then Bqg else Bqh x p q n i) (r.length+1) (by omega) (by omega) trivial (by rw [List.drop_zero];exact Bp7 (touB d) (fun _=>Bqg) (Bqh x p q n i) _ 0)
 exact key
end St
end V
end Go.Proofs.YtcfanlgpkefogaaGreat
namespace Go.Proofs.YtcfanlgpkefogaaGreat
open Go.RowKit
namespace V
namespace St
def Bwt (x:SKTs kLw) (p q:List (TCT Bag)) (n i:Int):Bsi.T:=((p,(),q,n,i,()),(x,()))
def Bnv (b:Bool):V1 C1l:=⟨.ret,((b,()),())⟩
def Bqi:V1 C1l:=⟨.exit 0,((),())⟩
abbrev TAo:=Tree (Bsi.T⊕V1 C1l)
def D31 (x:SKTs kLw) (d:SKTs kD3) (p q:List (TCT Bag)) (n i:Int) (r:List (TCT Bag)):Option (V1 Bsh):=iter Bsk (r.length+1) (Bsj x d p q n i r r.length 0)
def D32 (r:D30.T):Bsi.T:=Bwt r.2.1 r.1.1 r.1.2.2.1 r.1.2.2.2.1 (W64 (r.1.2.2.2.2.1+1))
def D33 (y:Option (V1 Bsh)):TAo:=bif isE .ret y then .leaf (.inr (Bnv (Bca .ret y).1.1)) else bif isE (.exit 2) y then .leaf (.inl (D32 (Bca (.exit 2) y))) else .fail
def Ci7 (x:SKTs kLw) (p q:List (TCT Bag)) (n i:Int) (d:TCT Bag):TAo :=
 bif !inR d.1.1 d.2.1 (W64 (x.2.1-d.2.1)) then .leaf (.inr (Bnv false)) else bif !inR d.1.2.1 d.2.1 (W64 (x.2.2.1-d.2.1)) then .leaf (.inr (Bnv false)) else
 bif decide (0≤i∧i≤(p.length:Int)) then D33 (D31 x (toD d) p q n i (p.take (Int.toNat i))) else .fail
def Bsm (g:Bsi.T):TAo :=
 bif decide (g.1.2.2.2.2.1<g.1.2.2.2.1) then bif decide (0≤g.1.2.2.2.2.1∧g.1.2.2.2.2.1<((g.1.2.2.1:List (TCT Bag)).length:Int)) then
  Ci7 g.2.1 g.1.1 g.1.2.2.1 g.1.2.2.2.1 g.1.2.2.2.2.1 (Bav g.1.2.2.1 (Int.toNat g.1.2.2.2.2.1) (Bas Bag)) else .fail else .leaf (.inr Bqi)
def Ci8 (g:Bsi.T):Nat:=(g.1.2.2.1:List (TCT Bag)).length+1
def Cvw:Bi3:=fun k=>bif Nat.beq k 7 then some (Baw Bvu Bsh (Bd4 [.ret,.exit 2] Bsk Ci6)) else none
theorem D6h (g:Bsi.T):evC C1m.P (Bcx C1m 7) C1m.pures 122 C1m.u Cvw C9a (Bsi.of g) (Bev Bsi C1l)=Bsm g:=by kernel_rfl
theorem Ci9:Bal C9a=[C9b]:=by kernel_rfl
theorem Cia:keyOf C9b=7:=by kernel_rfl
theorem D6i:Bb0 Tryz.prog 122 C9a (Baw Bsi C1l (Bd4 [.ret,.exit 0] Bsm Ci8)) :=
 Bp6 C1n 7 _ Cvw (fun d hd f hf=>by
  rw [Ci9,List.mem_singleton] at hd
  subst hd
  rw [Cia] at hf
  cases hf
  exact D6g) Bsi C1l (fun e=>by cases e <;> exact (by decide:(1000:Nat)≤2000)) [.ret,.exit 0] Bsm Ci8 D6h
theorem loops_in {P:Program} {f:Nat} {fn:Func} {la:Code} {sum:St→Tree (XE×St)} {k:Nat} (h1:∀ d ∈ Bal (bodyOf fn),keyOf d=k→d=la) (h2:Bb0 P f la sum) :
  ∀ p ∈ [(f,fn)],∀ d ∈ Bal (bodyOf p.2),∀ g,Bby [((f,k),sum)] p.1 (keyOf d)=some g→Bb0 P p.1 d g:=by
 intro p hp d hd g hg
 simp only [List.mem_singleton] at hp
 subst hp
 simp only at hd hg
 by_cases hk:keyOf d=k
 ·rw [h1 d hd hk]
  rw [hk] at hg
  simp [Bby] at hg
  subst hg
  exact h2
 ·have:Nat.beq k (keyOf d)=false:=by
   cases h:Nat.beq k (keyOf d) with
   | false=>rfl
   | true=>exact absurd (Nat.eq_of_beq_eq_true h).symm hk
  simp only [Bby,this,Bool.and_false,cond_false] at hg
  cases hg
theorem Cib:Bal (bodyOf Tryz.f122)=[C9a,C9b]:=by kernel_rfl
noncomputable def D6j:Ctx:=Bgo Tryz.prog plAp [(122,Tryz.f122)] [((122,2),Baw Bsi C1l (Bd4 [.ret,.exit 0] Bsm Ci8))]
theorem Cq0:CtxOk D6j:=Bc8 Bao puAp (fns_cons is_lapart No) (loops_in (fun d hd hk=>by
 rw [Cib,List.mem_cons,List.mem_singleton] at hd
 rcases hd with rfl | rfl
 ·rfl
 ·rw [Cia] at hk;cases hk) D6i)
def Bmt (w l:Int) (d:TCT Bag):Bool:=inR d.1.1 d.2.1 (W64 (w-d.2.1))&&inR d.1.2.1 d.2.1 (W64 (l-d.2.1))
def apF (w l:Int) (p:List (TCT Bag)):Bool:=Bfp (fun i d=>Bmt w l d&&!(p.take i).any (touB d)) 0 p
def Cic (l:TCT Bam) (p:List (TCT Bag)):Option (V1 C1l):=iter Bsm (p.length+1) (Bwt (Bd2 l) p p p.length 0)
def Cyb (l:TCT Bam) (p:List (TCT Bag)):TBo:=bif isE .ret (Cic l p) then .leaf ((Bca .ret (Cic l p)).1.1,()) else bif isE (.exit 0) (Cic l p) then .leaf (true,()) else .fail
theorem Cq1 (l:TCT Bam) (p:List (TCT Bag)) (hp:(p.length:Int)≤Bb2 .i64):Cic l p=some (bif apF l.2.1 l.2.2.1 p then Bqi else Bnv false):=by
 have hp':(p.length:Int)≤9223372036854775807:=hp
 unfold Cic
 have key:=Bec (st:=Bsm) p (fun i (_:Unit)=>Bwt (Bd2 l) p p p.length (i:Int)) (fun i d _=>bif Bmt l.2.1 l.2.2.1 d&&!(p.take i).any (touB d) then some (.inl ()) else some (.inr (Bnv false))) (fun _=>some Bqi) (fun _ _=>True)
  (fun i s hi _=>by
   have hrun:(Bsm (Bwt (Bd2 l) p p p.length (i:Int))).run=some (bif Bmt l.2.1 l.2.2.1 p[i]&&!(p.take i).any (touB p[i]) then .inl (Bwt (Bd2 l) p p p.length ((i+1:Nat):Int)) else .inr (Bnv false)):=by
    show (bif decide ((i:Int)<(p.length:Int)) then bif decide (0≤(i:Int)∧(i:Int)<(p.length:Int)) then Ci7 (Bd2 l) p p p.length (i:Int) (Bav p (Int.toNat (i:Int)) (Bas Bag)) else .fail else .leaf (.inr Bqi):TAo).run=_
    rw [decide_eq_true (show (i:Int)<(p.length:Int) by omega),decide_eq_true (show 0≤(i:Int)∧(i:Int)<(p.length:Int) by omega),show Int.toNat (i:Int)=i by omega,Bdb hi]
    simp only [cond_true]
    unfold Ci7 Bmt
    have hw:(Bd2 l).2.1=l.2.1:=rfl
    have hl:(Bd2 l).2.2.1=l.2.2.1:=rfl
    rw [hw,hl]
    cases inR p[i].1.1 p[i].2.1 (W64 (l.2.1-p[i].2.1)) with
    | false=>rfl
    | true =>
     cases inR p[i].1.2.1 p[i].2.1 (W64 (l.2.2.1-p[i].2.1)) with
     | false=>rfl
     | true =>
      simp only [Bool.not_true,cond_false,Bool.true_and]
      have ht:(p.take i).length=i:=by rw [List.length_take];omega
      have hy:D31 (Bd2 l) (toD p[i]) p p p.length (i:Int) (p.take i)=some (bif (p.take i).any (touB p[i]) then Bqg else Bqh (Bd2 l) p p p.length (i:Int)) :=
       Cpz (Bd2 l) p[i] p p p.length (i:Int) (p.take i) (by rw [ht];show (i:Int)≤9223372036854775807;omega)
      rw [decide_eq_true (show 0≤(i:Int)∧(i:Int)≤(p.length:Int) by omega),cond_true,show Int.toNat (i:Int)=i by omega,hy]
      cases (p.take i).any (touB p[i]) with
      | true=>rfl
      | false =>
       show (Tree.leaf (Sum.inl (Bwt (Bd2 l) p p p.length (W64 ((i:Int)+1)))):TAo).run=_
       rw [Bbb (n:=(i:Int)+1) (by omega) (by omega)]
       rfl
   cases hb:Bmt l.2.1 l.2.2.1 p[i]&&!(p.take i).any (touB p[i]) with
   | true=>rw [hb] at hrun;simp only [cond_true];exact ⟨hrun,trivial⟩
   | false=>rw [hb] at hrun;simp only [cond_false];exact hrun)
  (fun s e _ he=>by
   cases he
   show (bif decide ((p.length:Int)<(p.length:Int)) then _ else Tree.leaf (Sum.inr Bqi):TAo).run=_
   rw [decide_eq_false (show ¬ (p.length:Int)<(p.length:Int) by omega)]
   rfl)
  p.length 0 () (bif apF l.2.1 l.2.2.1 p then Bqi else Bnv false) (p.length+1) (by omega) (by omega) trivial (by
   rw [List.drop_zero]
   exact Bsl (fun i d=>Bmt l.2.1 l.2.2.1 d&&!(p.take i).any (touB d)) (Bnv false) Bqi p 0)
 exact key
abbrev C9c:PureT:=Bbc [Bam,.sl Bag] [.b] (fun _=>true) (fun x=>(apF x.1.2.1 x.1.2.2.1 x.2.1,()))
theorem Cq2:Bai Tryz.prog 122 C9c:=Bbd Cq0 7 (fun x=>Cyb x.1 x.2.1) (fun x=>by kernel_rfl) fun x _ hw=>by
 show (Cyb x.1 x.2.1).sat _
 unfold Cyb
 rw [Cq1 x.1 x.2.1 (Bew hw.2.1)]
 show ((bif isE .ret (some (bif apF x.1.2.1 x.1.2.2.1 x.2.1 then Bqi else Bnv false)) then _ else _:TBo)).sat (fun y=>y=(apF x.1.2.1 x.1.2.2.1 x.2.1,()))
 cases apF x.1.2.1 x.1.2.2.1 x.2.1 <;> exact rfl
end St
end V
end Go.Proofs.YtcfanlgpkefogaaGreat
namespace Go.Proofs.YtcfanlgpkefogaaGreat
open Go.RowKit
namespace V
namespace St
theorem is_lCheck:FnIs Tryz.prog (75,Tryz.f75):=⟨Tryz.func75,by kernel_rfl,by kernel_rfl⟩
def nxL (l:TCT Bam):Int:=l.2.2.2.2.2.2.1
def nyL (l:TCT Bam):Int:=l.2.2.2.2.2.2.2.1
def Bcd (l:TCT Bam):List (TCT Bc6):=l.2.2.2.2.2.2.2.2.1
def Bk4 (l:TCT Bam):Bool:=decide (((Baz l).length:Int)<1)||(decide (((Baz l).length:Int)>12)||decide (((Bcd l).length:Int)>256))
def C63 (l:TCT Bam):Bool:=Bhf l.1&&(inR l.2.1 65536 4194304&&(inR l.2.2.1 65536 4194304&&inR l.2.2.2.1 0 (W64 (Int.tdiv (min l.2.1 l.2.2.1) 4))))
def C64 (l:TCT Bam):Bool:=!decide (nxL l<1)&&(!decide (nxL l>16)&&(!decide (nyL l<1)&&(!decide (nyL l>16)&&!(((Bcd l).length:Int)!=W64 (nxL l*nyL l)))))
def okL (l:TCT Bam):Bool:=C63 l&&(inR (Bis l).2.1 1 8192&&(C64 l&&((Baz l).all Bei&&((Bcd l).all Bf9&&apF l.2.1 l.2.2.1 (Bbk l)))))
def Bc3 (l:TCT Bam):Int:=bif Bk4 l then 6 else bif okL l then 0 else 2
abbrev Bqj:PureT:=Bbc [Bam] [cI] (fun x=>decide ((x.1.1.size:Int)≤Bb2 .i64)) (fun x=>(Bc3 x.1,()))
def plLc:List (Nat×PureT):=[(115,Byq),(105,s_inR),(74,Bjd),(122,C9c),(116,C11),(119,C17)]
theorem puLc:Bc5 Tryz.prog plLc:=puOk_cons is_vname.plain Cps (puOk_cons is_between2.plain q_between2 (puOk_cons is_lposts.plain Bym (puOk_cons is_lapart.plain Cq2 (puOk_cons is_cfHoop.plain Chd (puOk_cons is_cfCell.plain Chi puOk_nil)))))
abbrev TEr:=Tree (TCTs [cI])
def er (c:Bool) (e:Int) (k:TEr):TEr:=bif c then .leaf (e,()) else k
theorem Bk5 {a b:Bool} {e:Int} {k:TEr}:er (a||b) e k=er a e (er b e k):=by cases a <;> cases b <;> rfl
def Cyc (l:TCT Bam):TEr :=
 er (decide (((Baz l).length:Int)<1)) 6 (er (decide (((Baz l).length:Int)>12)) 6 (er (decide (((Bcd l).length:Int)>256)) 6 (
 bif decide ((l.1.size:Int)≤Bb2 .i64) then er (!Bhf l.1) 2 (er (!inR l.2.1 65536 4194304) 2 (er (!inR l.2.2.1 65536 4194304) 2 (er (!inR l.2.2.2.1 0 (W64 (Int.tdiv (min l.2.1 l.2.2.1) 4))) 2 (er (!inR (Bis l).2.1 1 8192) 2 (
  er (decide (nxL l<1)) 2 (er (decide (nxL l>16)) 2 (er (decide (nyL l<1)) 2 (er (decide (nyL l>16)) 2 (er (((Bcd l).length:Int)!=W64 (nxL l*nyL l)) 2 (
  er ((Baz l).any (Bcz ())) 2 (er ((Bcd l).any (Bd0 ())) 2 (
  bif decide ((Baz l).length≤1000) then er (!apF l.2.1 l.2.2.1 (Bbk l)) 2 (.leaf (0,())) else .fail))))))))))))
 else .fail)))
theorem Bhy {α:Type} (p:α→Bool) (l:List α):l.any (fun x=>!p x)=!l.all p:=by
 induction l with
 | nil=>rfl
 | cons x l ih=>simp only [List.any_cons,List.all_cons,ih,Bool.not_and]
theorem Cq3 {l:TCT Bam} (hs:(l.1.size:Int)≤Bb2 .i64):(Cyc l).sat (fun y=>y=(Bc3 l,())):=by
 unfold Cyc Bc3
 rw [← Bk5,← Bk5,Bool.or_assoc]
 show (er (Bk4 l) 6 _).sat _
 cases hm:Bk4 l with
 | true=>exact rfl
 | false =>
  have h12:(Baz l).length≤1000:=by
   unfold Bk4 at hm
   simp only [Bool.or_eq_false_iff,decide_eq_false_iff_not] at hm
   omega
  rw [decide_eq_true hs,decide_eq_true h12]
  show (er (!Bhf l.1) 2 _).sat (fun y=>y=((bif okL l then 0 else 2),()))
  have hh:(Baz l).any (Bcz ())=!(Baz l).all Bei:=Bhy Bei _
  have hc:(Bcd l).any (Bd0 ())=!(Bcd l).all Bf9:=Bhy Bf9 _
  rw [hh,hc]
  unfold okL C63 C64
  simp only [cond_true]
  generalize Bhf l.1=b1
  generalize inR l.2.1 65536 4194304=b2
  generalize inR l.2.2.1 65536 4194304=b3
  generalize inR l.2.2.2.1 0 (W64 (Int.tdiv (min l.2.1 l.2.2.1) 4))=b4
  generalize inR (Bis l).2.1 1 8192=b5
  generalize decide (nxL l<1)=b6
  generalize decide (nxL l>16)=b7
  generalize decide (nyL l<1)=b8
  generalize decide (nyL l>16)=b9
  generalize (((Bcd l).length:Int)!=W64 (nxL l*nyL l))=b10
  generalize (Baz l).all Bei=b11
  generalize (Bcd l).all Bf9=b12
  generalize apF l.2.1 l.2.2.1 (Bbk l)=b13
  cases b1 <;> try exact rfl
  cases b2 <;> try exact rfl
  cases b3 <;> try exact rfl
  cases b4 <;> try exact rfl
  cases b5 <;> try exact rfl
  cases b6 <;> try exact rfl
  cases b7 <;> try exact rfl
  cases b8 <;> try exact rfl
  cases b9 <;> try exact rfl
  cases b10 <;> try exact rfl
  cases b11 <;> try exact rfl
  cases b12 <;> try exact rfl
  cases b13 <;> exact rfl
theorem Bnw:Bai Tryz.prog 75 Bqj:=Bbd (Bap Bao puLc (fns_cons is_lCheck No)) 7 (fun x=>Cyc x.1) (fun x=>by kernel_rfl) fun x hok _=>Cq3 (of_decide_eq_true hok)
end St
end V
end Go.Proofs.YtcfanlgpkefogaaGreat
namespace Go.Proofs.YtcfanlgpkefogaaGreat
open Go.RowKit
namespace V
namespace St
theorem Bkm {G E α:Type} {st:G→Tree (G⊕E)} (l:List α) (d:α) (hd:Int→G) (bad:α→Bool) (rt ex:E) (hl:(l.length:Int)≤Bb2 .i64)
  (h:∀ i:Int,st (hd i)=bif decide (i<(l.length:Int)) then bif decide (0≤i∧i<(l.length:Int)) then bif bad (Bav l (Int.toNat i) d) then .leaf (.inr rt) else .leaf (.inl (hd (W64 (i+1)))) else .fail else .leaf (.inr ex)) :
  iter st (l.length+1) (hd 0)=some (bif l.any bad then rt else ex):=by
 have hl':(l.length:Int)≤9223372036854775807:=hl
 have key:=Bec (st:=st) l (fun i (_:Unit)=>hd (i:Int)) (fun _ x _=>bif bad x then some (.inr rt) else some (.inl ())) (fun _=>some ex) (fun _ _=>True)
  (fun i s hi _=>by
   have hrun:(st (hd (i:Int))).run=some (bif bad l[i] then .inr rt else .inl (hd ((i+1:Nat):Int))):=by
    rw [h,decide_eq_true (show (i:Int)<(l.length:Int) by omega),decide_eq_true (show 0≤(i:Int)∧(i:Int)<(l.length:Int) by omega),show Int.toNat (i:Int)=i by omega,Bdb hi,Bbb (n:=(i:Int)+1) (by omega) (by omega)]
    cases bad l[i] <;> rfl
   cases hb:bad l[i] with
   | true=>rw [hb] at hrun;simp only [cond_true];exact hrun
   | false=>rw [hb] at hrun;simp only [cond_false];exact ⟨hrun,trivial⟩)
  (fun s e _ he=>by
   cases he
   rw [h,decide_eq_false (show ¬ (l.length:Int)<(l.length:Int) by omega)]
   rfl)
  l.length 0 () (bif l.any bad then rt else ex) (l.length+1) (by omega) (by omega) trivial (by rw [List.drop_zero];exact Bp7 bad (fun _=>rt) ex _ 0)
 exact key
theorem Bsn {G E α:Type} {st:G→Tree (G⊕E)} (l:List α) (d:α) (hd:Int→G) (ok:Nat→α→Bool) (body:Int→α→Tree (G⊕E)) (rt ex:E) (hl:(l.length:Int)≤Bb2 .i64)
  (h:∀ i:Int,st (hd i)=bif decide (i<(l.length:Int)) then bif decide (0≤i∧i<(l.length:Int)) then body i (Bav l (Int.toNat i) d) else .fail else .leaf (.inr ex))
  (hb:∀ (i:Nat) (hi:i<l.length),(body (i:Int) l[i]).run=some (bif ok i l[i] then .inl (hd ((i+1:Nat):Int)) else .inr rt)) :
  iter st (l.length+1) (hd 0)=some (bif Bfp ok 0 l then ex else rt):=by
 have hl':(l.length:Int)≤9223372036854775807:=hl
 have key:=Bec (st:=st) l (fun i (_:Unit)=>hd (i:Int)) (fun i x _=>bif ok i x then some (.inl ()) else some (.inr rt)) (fun _=>some ex) (fun _ _=>True)
  (fun i s hi _=>by
   have hrun:(st (hd (i:Int))).run=some (bif ok i l[i] then .inl (hd ((i+1:Nat):Int)) else .inr rt):=by
    rw [h,decide_eq_true (show (i:Int)<(l.length:Int) by omega),decide_eq_true (show 0≤(i:Int)∧(i:Int)<(l.length:Int) by omega),show Int.toNat (i:Int)=i by omega,Bdb hi]
    exact hb i hi
   cases hk:ok i l[i] with
   | true=>rw [hk] at hrun;simp only [cond_true];exact ⟨hrun,trivial⟩
   | false=>rw [hk] at hrun;simp only [cond_false];exact hrun)
  (fun s e _ he=>by
   cases he
   rw [h,decide_eq_false (show ¬ (l.length:Int)<(l.length:Int) by omega)]
   rfl)
  l.length 0 () (bif Bfp ok 0 l then ex else rt) (l.length+1) (by omega) (by omega) trivial (by rw [List.drop_zero];exact Bsl ok rt ex _ 0)
 exact key
def plRc:List (Nat×PureT):=[]
theorem puRc:Bc5 Tryz.prog plRc:=puOk_nil
abbrev bL:BK:=(0,36,kLw)
def C65:Lay:={ keys:=[1,3],ks:=[.p 0 0 0 0,.d cI],bs:=[bL],n:=224,nx:=1000,marks:=[] }
def C1q:Lay:={ keys:=[1],ks:=[.p 0 0 0 0],bs:=[bL],n:=224,nx:=1000,marks:=[] }
def D6k:Lay:={ keys:=[2],ks:=[.d cI],bs:=[],n:=224,nx:=1000,marks:=[] }
def Bph:XE→Lay:=fun e=>match e with | .ret=>D6k | _=>C1q
def Cif (x:SKTs kLw) (i:Int):C65.T:=(((),i,()),(x,()))
def Bwu:V1 Bph:=⟨.ret,((2,()),())⟩
def Cig (x:SKTs kLw):V1 Bph:=⟨.exit 0,(((),()),(x,()))⟩
def D6l (h:TCT Bbj):TCT Bbj:=(h.1,h.2.1,h.2.2.1,h.2.2.2.1,h.2.2.2.2.1,())
def hsX (x:SKTs kLw):List (TCT Bbj):=x.2.2.2.2.1
def csX (x:SKTs kLw):List (TCT Bc6):=x.2.2.2.2.2.2.2.2.2.2.1
def C9e (g:C65.T):Tree (C65.T⊕V1 Bph):=bif decide (g.1.2.1<((hsX g.2.1).length:Int)) then bif decide (0≤g.1.2.1∧g.1.2.1<((hsX g.2.1).length:Int)) then
 bif !Bei (D6l (Bav (hsX g.2.1) (Int.toNat g.1.2.1) (Bas Bbj))) then .leaf (.inr Bwu) else .leaf (.inl (Cif g.2.1 (W64 (g.1.2.1+1)))) else .fail else .leaf (.inr (Cig g.2.1))
def Cih (g:C65.T):Nat:=(hsX g.2.1).length+1
def C66:Lay:={ keys:=[1,4],ks:=[.p 0 0 0 0,.d cI],bs:=[bL],n:=224,nx:=1000,marks:=[] }
def Cii (x:SKTs kLw) (i:Int):C66.T:=(((),i,()),(x,()))
def Cij (x:SKTs kLw):V1 Bph:=⟨.exit 2,(((),()),(x,()))⟩
def C9f (g:C66.T):Tree (C66.T⊕V1 Bph):=bif decide (g.1.2.1<((csX g.2.1).length:Int)) then bif decide (0≤g.1.2.1∧g.1.2.1<((csX g.2.1).length:Int)) then
 bif !Bf9 (Bav (csX g.2.1) (Int.toNat g.1.2.1) (Bas Bc6)) then .leaf (.inr Bwu) else .leaf (.inl (Cii g.2.1 (W64 (g.1.2.1+1)))) else .fail else .leaf (.inr (Cij g.2.1))
def Cik (g:C66.T):Nat:=(csX g.2.1).length+1
end St
end V
end Go.Proofs.YtcfanlgpkefogaaGreat
namespace Go.Proofs.YtcfanlgpkefogaaGreat
open Go.RowKit
namespace V
namespace St
def C1r:Lay:={ keys:=[1,5,6,7],ks:=[.p 0 0 0 0,.d (.sl Bag),.d cI,.d cI],bs:=[bL],n:=224,nx:=2000,marks:=[] }
def D34:Lay:={ keys:=[1,5,6],ks:=[.p 0 0 0 0,.d (.sl Bag),.d cI],bs:=[bL],n:=224,nx:=2000,marks:=[] }
def Cvx:Lay:={ keys:=[2],ks:=[.d cI],bs:=[],n:=224,nx:=2000,marks:=[] }
def Bys:XE→Lay:=fun e=>match e with | .ret=>Cvx | _=>D34
def Bso:Lay:={ keys:=[1,5,6],ks:=[.p 0 0 0 0,.d (.sl Bag),.d cI],bs:=[bL],n:=224,nx:=1000,marks:=[] }
def D6o:Lay:={ keys:=[],ks:=[],bs:=[],n:=224,nx:=2000,marks:=[] }
def C1s:XE→Lay:=fun e=>match e with | .ret=>Cvx | _=>D6o
def sqR (a b:TCT Bag):Int:=W64 (W64 (W64 (a.1.1-b.1.1)*W64 (a.1.1-b.1.1))+W64 (W64 (a.1.2.1-b.1.2.1)*W64 (a.1.2.1-b.1.2.1)))
def Bvv (d o:TCT Bag):Bool:=decide (sqR d o<srD d o)
def inP {β:Type} (p:List (TCT Bag)) (i:Int) (k:Tree β):Tree β:=bif decide (0≤i∧i<(p.length:Int)) then k else .fail
theorem Bfa {β:Type} {p:List (TCT Bag)} {i:Int} {k:Tree β} (h:0≤i∧i<(p.length:Int)):inP p i k=k:=by unfold inP;rw [decide_eq_true h];rfl
def gD (p:List (TCT Bag)) (i:Int):TCT Bag:=Bav p (Int.toNat i) (Bas Bag)
def C9g (x:SKTs kLw) (p:List (TCT Bag)) (i k:Int):C1r.T:=(((),p,i,k,()),(x,()))
def C9h:V1 Bys:=⟨.ret,((2,()),())⟩
def C9i (x:SKTs kLw) (p:List (TCT Bag)) (i:Int):V1 Bys:=⟨.exit 6,(((),p,i,()),(x,()))⟩
def C67 (x:SKTs kLw) (p:List (TCT Bag)) (i k:Int):Tree (C1r.T⊕V1 Bys):=bif decide (k<i) then
 inP p i (inP p k (inP p i (inP p k (inP p i (inP p k (inP p i (inP p k (bif Bvv (gD p i) (gD p k) then .leaf (.inr C9h) else .leaf (.inl (C9g x p i (W64 (k+1)))))))))))) else .leaf (.inr (C9i x p i))
def C1t (g:C1r.T):Tree (C1r.T⊕V1 Bys):=C67 g.2.1 g.1.2.1 g.1.2.2.1 g.1.2.2.2.1
def Cil (g:C1r.T):Nat:=(List.take (Int.toNat g.1.2.2.1) (g.1.2.1:List (TCT Bag))).length+1
theorem Cq4 (x:SKTs kLw) (p:List (TCT Bag)) (i:Nat) (hi:i<p.length) (hp:(p.length:Int)≤Bb2 .i64) :
  iter C1t ((p.take i).length+1) (C9g x p i 0)=some (bif (p.take i).any (Bvv p[i]) then C9h else C9i x p i):=by
 have ht:(p.take i).length=i:=by rw [List.length_take];omega
 have hp':(p.length:Int)≤9223372036854775807:=hp
 refine Bkm (p.take i) (Bas Bag) (fun k=>C9g x p i k) (Bvv p[i]) C9h (C9i x p i) (by rw [ht];show (i:Int)≤9223372036854775807;omega) fun k=>?_
 show C67 x p i k=_
 unfold C67
 rw [ht]
 by_cases hk:k<(i:Int)
 ·rw [decide_eq_true hk,cond_true,cond_true]
  by_cases h0:0≤k
  ·have hki:0≤k∧k<(p.length:Int):=by omega
   have hii:0≤(i:Int)∧(i:Int)<(p.length:Int):=by omega
   have e1:gD p (i:Int)=p[i]:=by unfold gD;rw [show Int.toNat (i:Int)=i by omega,Bdb hi]
   have e2:gD p k=Bav (p.take i) (Int.toNat k) (Bas Bag):=by
    unfold gD
    have h1:Int.toNat k<p.length:=by omega
    have h2:Int.toNat k<(p.take i).length:=by omega
    rw [Bdb h1,Bdb h2,List.getElem_take]
   rw [Bfa hii,Bfa hki,Bfa hii,Bfa hki,Bfa hii,Bfa hki,Bfa hii,Bfa hki,e1,e2,decide_eq_true (show 0≤k∧k<(i:Int) by omega)]
   rfl
  ·have hii:0≤(i:Int)∧(i:Int)<(p.length:Int):=by omega
   rw [Bfa hii,decide_eq_false (show ¬ (0≤k∧k<(i:Int)) by omega)]
   unfold inP
   rw [decide_eq_false (show ¬ (0≤k∧k<(p.length:Int)) by omega)]
   rfl
 ·rw [decide_eq_false hk];rfl
def C9j (x:SKTs kLw) (p:List (TCT Bag)) (i:Int):Bso.T:=(((),p,i,()),(x,()))
def Bwv (e:Int):V1 C1s:=⟨.ret,((e,()),())⟩
def C9k:V1 C1s:=⟨.exit 4,((),())⟩
abbrev TC3:=Tree (Bso.T⊕V1 C1s)
def Cyd (x:SKTs kLw) (p:List (TCT Bag)) (i:Int):Option (V1 Bys):=iter C1t ((p.take (Int.toNat i)).length+1) (C9g x p i 0)
def D35 (r:D34.T):Bso.T:=C9j r.2.1 r.1.2.1 (W64 (r.1.2.2.1+1))
def D36 (y:Option (V1 Bys)):TC3:=bif isE .ret y then .leaf (.inr (Bwv (Bca .ret y).1.1)) else bif isE (.exit 6) y then .leaf (.inl (D35 (Bca (.exit 6) y))) else .fail
def Cim (x:SKTs kLw) (p:List (TCT Bag)) (i:Int) (d:TCT Bag):TC3 :=
 inP p i (inP p i (bif !inR d.1.1 d.2.1 (W64 (x.2.1-d.2.1)) then .leaf (.inr (Bwv 2)) else inP p i (inP p i (inP p i (bif !inR d.1.2.1 d.2.1 (W64 (x.2.2.1-d.2.1)) then .leaf (.inr (Bwv 2)) else D36 (Cyd x p i))))))
def C1u (g:Bso.T):TC3:=bif decide (g.1.2.2.1<((g.1.2.1:List (TCT Bag)).length:Int)) then bif decide (0≤g.1.2.2.1∧g.1.2.2.1<((g.1.2.1:List (TCT Bag)).length:Int)) then Cim g.2.1 g.1.2.1 g.1.2.2.1 (gD g.1.2.1 g.1.2.2.1) else .fail else .leaf (.inr C9k)
def Cin (g:Bso.T):Nat:=(g.1.2.1:List (TCT Bag)).length+1
def Cvy:Bi3:=fun k=>bif Nat.beq k 24 then some (Baw C1r Bys (Bd4 [.ret,.exit 6] C1t Cil)) else none
end St
end V
end Go.Proofs.YtcfanlgpkefogaaGreat
namespace Go.Proofs.YtcfanlgpkefogaaGreat
open Go.RowKit
namespace V
namespace St
def Cis (x:SKTs kLw):Option (V1 Bph):=iter C9e ((hsX x).length+1) (Cif x 0)
def Cit (x:SKTs kLw):Option (V1 Bph):=iter C9f ((csX x).length+1) (Cii x 0)
def Ciu (x:SKTs kLw) (p:List (TCT Bag)):Option (V1 C1s):=iter C1u (p.length+1) (C9j x p 0)
def Civ (r:C1q.T):TEr:=bif decide ((hsX r.2.1).length≤1000) then
 bif isE .ret (Ciu r.2.1 (Bbk (Bkc r.2.1))) then .leaf ((Bca .ret (Ciu r.2.1 (Bbk (Bkc r.2.1)))).1.1,()) else bif isE (.exit 4) (Ciu r.2.1 (Bbk (Bkc r.2.1))) then .leaf (0,()) else .fail else .fail
def Ciw (r:C1q.T):TEr:=er (!inR (Bis (Bkc r.2.1)).2.1 1 8192) 2 (er (!inR (Bis (Bkc r.2.1)).1.1 0 4194304) 2 (er (!inR (Bis (Bkc r.2.1)).1.2.1 0 4194304) 2 (
 er (decide (nxL (Bkc r.2.1)<1)) 2 (er (decide (nxL (Bkc r.2.1)>16)) 2 (er (decide (nyL (Bkc r.2.1)<1)) 2 (er (decide (nyL (Bkc r.2.1)>16)) 2 (er (((csX r.2.1).length:Int)!=W64 (nxL (Bkc r.2.1)*nyL (Bkc r.2.1))) 2 (
 bif isE .ret (Cit r.2.1) then .leaf ((Bca .ret (Cit r.2.1)).1.1,()) else bif isE (.exit 2) (Cit r.2.1) then Civ (Bca (.exit 2) (Cit r.2.1)) else .fail))))))))
def Cq6 (l:TCT Bam):TEr :=
 er (decide (((Baz l).length:Int)<1)) 6 (er (decide (((Baz l).length:Int)>12)) 6 (er (decide (((Bcd l).length:Int)>256)) 6 (
 bif decide ((l.1.size:Int)≤Bb2 .i64) then er (!Bhf l.1) 2 (er (!inR l.2.1 65536 4194304) 2 (er (!inR l.2.2.1 65536 4194304) 2 (er (!inR l.2.2.2.1 0 (W64 (Int.tdiv (min l.2.1 l.2.2.1) 4))) 2 (
  bif isE .ret (Cis (Bd2 l)) then .leaf ((Bca .ret (Cis (Bd2 l))).1.1,()) else bif isE (.exit 0) (Cis (Bd2 l)) then Ciw (Bca (.exit 0) (Cis (Bd2 l))) else .fail))))
 else .fail)))
end St
end V
end Go.Proofs.YtcfanlgpkefogaaGreat
namespace Go.Proofs.YtcfanlgpkefogaaGreat
open Go.RowKit
namespace V
namespace St
def apR (w l:Int) (p:List (TCT Bag)):Bool:=Bfp (fun i d=>Bmt w l d&&!(p.take i).any (Bvv d)) 0 p
theorem Cq8 (x:SKTs kLw) (hl:((hsX x).length:Int)≤Bb2 .i64):Cis x=some (bif (hsX x).any (fun h=>!Bei h) then Bwu else Cig x) :=
 Bkm (hsX x) (Bas Bbj) (Cif x) (fun h=>!Bei h) Bwu (Cig x) hl (fun _=>rfl)
theorem Cq9 (x:SKTs kLw) (hl:((csX x).length:Int)≤Bb2 .i64):Cit x=some (bif (csX x).any (fun h=>!Bf9 h) then Bwu else Cij x) :=
 Bkm (csX x) (Bas Bc6) (Cii x) (fun h=>!Bf9 h) Bwu (Cij x) hl (fun _=>rfl)
theorem Cqa (x:SKTs kLw) (p:List (TCT Bag)) (hp:(p.length:Int)≤Bb2 .i64):Ciu x p=some (bif apR x.2.1 x.2.2.1 p then C9k else Bwv 2):=by
 have hp':(p.length:Int)≤9223372036854775807:=hp
 refine Bsn p (Bas Bag) (C9j x p) (fun i d=>Bmt x.2.1 x.2.2.1 d&&!(p.take i).any (Bvv d)) (Cim x p) (Bwv 2) C9k hp (fun _=>rfl) fun i hi=>?_
 have hii:0≤(i:Int)∧(i:Int)<(p.length:Int):=by omega
 unfold Cim Bmt
 rw [Bfa hii,Bfa hii,Bfa hii,Bfa hii,Bfa hii]
 cases inR p[i].1.1 p[i].2.1 (W64 (x.2.1-p[i].2.1)) with
 | false=>rfl
 | true =>
  cases inR p[i].1.2.1 p[i].2.1 (W64 (x.2.2.1-p[i].2.1)) with
  | false=>rfl
  | true =>
   have hy:Cyd x p (i:Int)=some (bif (p.take i).any (Bvv p[i]) then C9h else C9i x p i):=by
    unfold Cyd
    rw [show Int.toNat (i:Int)=i by omega]
    exact Cq4 x p i hi hp
   simp only [Bool.not_true,cond_false,Bool.true_and]
   rw [hy]
   cases (p.take i).any (Bvv p[i]) with
   | true=>rfl
   | false =>
    show (Tree.leaf (Sum.inl (C9j x p (W64 ((i:Int)+1)))):TC3).run=_
    rw [Bbb (n:=(i:Int)+1) (by omega) (by omega)]
    rfl
def Cqb (l:TCT Bam):Bool:=inR (Bis l).2.1 1 8192&&(inR (Bis l).1.1 0 4194304&&inR (Bis l).1.2.1 0 4194304)
def okR (l:TCT Bam):Bool:=C63 l&&((Baz l).all Bei&&(Cqb l&&(C64 l&&((Bcd l).all Bf9&&apR l.2.1 l.2.2.1 (Bbk l)))))
def Cqc (l:TCT Bam):Int:=bif Bk4 l then 6 else bif okR l then 0 else 2
theorem Bww {l:TCT Bam}:(Bbk l).length=2*(Baz l).length+1:=by
 unfold Bbk
 rw [List.length_append,Bnu]
 rfl
theorem D38 {l:TCT Bam} (h12:(Baz l).length≤1000):(Civ (((),()),(Bd2 l,()))).sat (fun y=>y=((bif apR l.2.1 l.2.2.1 (Bbk l) then (0:Int) else 2),())):=by
 unfold Civ
 have e:Bkc (((((),()),(Bd2 l,())):C1q.T).2.1)=l:=rfl
 have e2:hsX (((((),()),(Bd2 l,())):C1q.T).2.1)=Baz l:=rfl
 have hy:Ciu (((((),()),(Bd2 l,())):C1q.T).2.1) (Bbk l)=some (bif apR l.2.1 l.2.2.1 (Bbk l) then C9k else Bwv 2):=Cqa (Bd2 l) (Bbk l) (by rw [Bww];simp only [Bb2];omega)
 rw [e,e2,decide_eq_true h12,hy]
 cases apR l.2.1 l.2.2.1 (Bbk l) <;> exact rfl
theorem Bje {a b:Bool} {k:TEr} (h:k.sat (fun y=>y=((bif b then (0:Int) else 2),()))):(er (!a) 2 k).sat (fun y=>y=((bif a&&b then (0:Int) else 2),())):=by
 cases a with
 | true=>exact h
 | false=>exact rfl
theorem Bkn {a b:Bool} {k:TEr} (h:k.sat (fun y=>y=((bif b then (0:Int) else 2),()))):(er a 2 k).sat (fun y=>y=((bif !a&&b then (0:Int) else 2),())):=by
 cases a with
 | true=>exact rfl
 | false=>exact h
theorem D39 {l:TCT Bam} (h12:(Baz l).length≤1000) (hc:((Bcd l).length:Int)≤Bb2 .i64):(Ciw (((),()),(Bd2 l,()))).sat (fun y=>y=((bif Cqb l&&(C64 l&&((Bcd l).all Bf9&&apR l.2.1 l.2.2.1 (Bbk l))) then (0:Int) else 2),())):=by
 unfold Ciw Cqb C64
 have e:Bkc (((((),()),(Bd2 l,())):C1q.T).2.1)=l:=rfl
 have e2:csX (((((),()),(Bd2 l,())):C1q.T).2.1)=Bcd l:=rfl
 rw [e,e2]
 simp only [Bool.and_assoc]
 refine Bje (Bje (Bje (Bkn (Bkn (Bkn (Bkn (Bkn ?_)))))))
 rw [Cq9 (Bd2 l) hc]
 have hq:(csX (Bd2 l)).any (fun h=>!Bf9 h)=!(Bcd l).all Bf9:=Bhy Bf9 _
 rw [hq]
 cases (Bcd l).all Bf9 with
 | false=>exact rfl
 | true=>exact D38 h12
theorem Cqd {l:TCT Bam} (hs:(l.1.size:Int)≤Bb2 .i64) (hh:((Baz l).length:Int)≤Bb2 .i64) (hc:((Bcd l).length:Int)≤Bb2 .i64):(Cq6 l).sat (fun y=>y=(Cqc l,())):=by
 unfold Cq6 Cqc
 rw [← Bk5,← Bk5,Bool.or_assoc]
 show (er (Bk4 l) 6 _).sat _
 cases hm:Bk4 l with
 | true=>exact rfl
 | false =>
  have h12:(Baz l).length≤1000:=by
   unfold Bk4 at hm
   simp only [Bool.or_eq_false_iff,decide_eq_false_iff_not] at hm
   omega
  rw [decide_eq_true hs]
  show (er (!Bhf l.1) 2 _).sat (fun y=>y=((bif okR l then (0:Int) else 2),()))
  unfold okR C63
  simp only [Bool.and_assoc]
  refine Bje (Bje (Bje (Bje ?_)))
  rw [Cq8 (Bd2 l) hh]
  have hq:(hsX (Bd2 l)).any (fun h=>!Bei h)=!(Baz l).all Bei:=Bhy Bei _
  rw [hq]
  cases (Baz l).all Bei with
  | false=>exact rfl
  | true=>exact D39 h12 hc
end St
end V
end Go.Proofs.YtcfanlgpkefogaaGreat
namespace Go.Proofs.YtcfanlgpkefogaaGreat
open Go.RowKit
namespace V
namespace St
theorem Bgz {x lo hi:Int}:inR x lo hi=true ↔ lo≤x∧x≤hi:=by unfold inR;simp only [Bool.and_eq_true,decide_eq_true_eq]
theorem C9l {α:Type} {p:List α} {ok1 ok2:Nat→α→Bool} (ins:α→Bool) (h:∀ (i:Nat) (hi:i<p.length),(∀ o ∈ p.take i,ins o=true)→ok1 i p[i]=ok2 i p[i]) (h1:∀ i x,ok1 i x=true→ins x=true) :
  ∀ (k i:Nat),i+k=p.length→(∀ o ∈ p.take i,ins o=true)→Bfp ok1 i (p.drop i)=Bfp ok2 i (p.drop i)
 | 0,i,hk,_=>by
  rw [List.drop_eq_nil_of_le (by omega)];rfl
 | k+1,i,hk,hp=>by
  have hi:i<p.length:=by omega
  rw [List.drop_eq_getElem_cons hi]
  simp only [Bfp]
  rw [← h i hi hp]
  cases ho:ok1 i p[i] with
  | false=>rfl
  | true =>
   rw [Bool.true_and,Bool.true_and]
   refine C9l ins h h1 k (i+1) (by omega) fun o hm=>?_
   rw [List.take_succ_eq_append_getElem hi,List.mem_append,List.mem_singleton] at hm
   rcases hm with hm | rfl
   ·exact hp o hm
   ·exact h1 i _ ho
theorem C1v {α:Type} {ok:Nat→α→Bool}:∀ (l:List α) (i:Nat),Bfp ok i l=true→∀ x ∈ l,∃ j,ok j x=true
 | y::l,i,h,x,hx=>by
  simp only [Bfp,Bool.and_eq_true] at h
  rcases List.mem_cons.1 hx with rfl | hx
  ·exact ⟨i,h.1⟩
  ·exact C1v l (i+1) h.2 x hx
structure On (d:TCT Bag):Prop where
 x:0≤d.1.1∧d.1.1≤4194304
 y:0≤d.1.2.1∧d.1.2.1≤4194304
 r:1≤d.2.1∧d.2.1≤8192
theorem Cqe {x y r w l:Int} (hw:0≤w∧w≤4194304) (hl:0≤l∧l≤4194304) (hr:1≤r∧r≤8192) (h:(r≤x∧x≤W64 (w-r))∧r≤y∧y≤W64 (l-r)):(0≤x∧x≤4194304)∧0≤y∧y≤4194304:=by
 rw [Bbb (n:=w-r) (by omega) (by omega),Bbb (n:=l-r) (by omega) (by omega)] at h
 omega
theorem Cix {w l:Int} (hw:0≤w∧w≤4194304) (hl:0≤l∧l≤4194304) {d:TCT Bag} (hr:1≤d.2.1∧d.2.1≤8192) (h:Bmt w l d=true):On d:=by
 unfold Bmt at h
 simp only [Bool.and_eq_true,Bgz] at h
 obtain ⟨h1,h2⟩:=Cqe hw hl hr h
 exact ⟨h1,h2,hr⟩
theorem Ciy {x y r:Int} (hx:0≤x∧x≤4194304) (hy:0≤y∧y≤4194304) (hr:1≤r∧r≤8192):Btr x y r=0:=by
 unfold Btr Bil fpt Bb6
 rw [decide_eq_true (show -4194304≤x∧x≤4194304 ∧ -4194304≤y∧y≤4194304 by omega),decide_eq_false (show ¬ r<1 by omega),decide_eq_false (show ¬ 65536<r by omega)]
 rfl
theorem Ciz {a b:Int} (ha:0≤a∧a≤4194304) (hb:0≤b∧b≤4194304):W64 (b-a)*W64 (b-a)=W64 (a-b)*W64 (a-b):=by
 rw [Bbb (n:=b-a) (by omega) (by omega),Bbb (n:=a-b) (by omega) (by omega)]
 grind
theorem Cyh {d o:TCT Bag} (hd:On d) (ho:On o):touB d o=Bvv d o:=by
 have e:sqD d o=sqR d o:=by
  unfold sqD sqR
  rw [Ciz hd.x ho.x,Ciz hd.y ho.y]
 have c1:cdE d=0:=Ciy hd.x hd.y hd.r
 have c2:cdE o=0:=Ciy ho.x ho.y ho.r
 unfold touB Bvv Cd8
 rw [c1,c2,e]
 show decide (Cpx (sqR d o) (srD d o)<0)=_
 unfold Cpx
 by_cases h:sqR d o<srD d o
 ·rw [decide_eq_true h];rfl
 ·rw [decide_eq_false h,cond_false]
  cases decide (sqR d o>srD d o) <;> rfl
theorem Bli {α:Type} {p q:α→Bool}:∀ {l:List α},(∀ x ∈ l,p x=q x)→l.any p=l.any q
 | [],_=>rfl
 | x::l,h=>by rw [List.any_cons,List.any_cons,h x (List.mem_cons_self ..),Bli fun y hy=>h y (List.mem_cons_of_mem _ hy)]
theorem D3a {w l:Int} (hw:0≤w∧w≤4194304) (hl:0≤l∧l≤4194304) {p:List (TCT Bag)} (hr:∀ d ∈ p,1≤d.2.1∧d.2.1≤8192):apF w l p=apR w l p:=by
 have key:=C9l (p:=p) (ok1:=fun i d=>Bmt w l d&&!(p.take i).any (touB d)) (ok2:=fun i d=>Bmt w l d&&!(p.take i).any (Bvv d)) (Bmt w l)
  (fun i hi hp=>by
   cases hi':Bmt w l p[i] with
   | false=>rfl
   | true =>
    have hd:=Cix hw hl (hr _ (List.getElem_mem hi)) hi'
    rw [Bli fun o ho=>Cyh hd (Cix hw hl (hr o (List.mem_of_mem_take ho)) (hp o ho))])
  (fun i x h=>by simp only [Bool.and_eq_true] at h;exact h.1) p.length 0 (by omega) (fun o ho=>by rw [List.take_zero] at ho;cases ho)
 rw [List.drop_zero] at key
 exact key
theorem D6s {h:TCT Bbj} {d:TCT Bag} (hd:d ∈ w2 h):d.2.1=h.2.2.2.1:=by
 unfold w2 at hd
 cases hb:h.2.2.2.2.1 with
 | true =>
  rw [hb] at hd
  have hd:d ∈ [Bm8 h.1 (W64 (h.2.1-dW h)) h.2.2.2.1,Bm8 h.1 (W64 (h.2.1+dW h)) h.2.2.2.1]:=hd
  rcases List.mem_cons.1 hd with rfl | hd
  ·rfl
  ·rw [List.mem_singleton] at hd;subst hd;rfl
 | false =>
  rw [hb] at hd
  have hd:d ∈ [Bm8 (W64 (h.1-dW h)) h.2.1 h.2.2.2.1,Bm8 (W64 (h.1+dW h)) h.2.1 h.2.2.2.1]:=hd
  rcases List.mem_cons.1 hd with rfl | hd
  ·rfl
  ·rw [List.mem_singleton] at hd;subst hd;rfl
theorem Cqf {l:TCT Bam} (hh:(Baz l).all Bei=true) (hp:inR (Bis l).2.1 1 8192=true):∀ d ∈ Bbk l,1≤d.2.1∧d.2.1≤8192:=by
 intro d hd
 unfold Bbk at hd
 rw [List.mem_append,List.mem_singleton,List.mem_flatMap] at hd
 rcases hd with ⟨h,hm,hd⟩ | rfl
 ·have:=List.all_eq_true.1 hh h hm
  unfold Bei at this
  simp only [Bool.and_eq_true,Bgz] at this
  rw [D6s hd]
  exact this.2.2.2.2
 ·exact Bgz.1 hp
theorem Cj0 (l:TCT Bam):Cqc l=Bc3 l:=by
 unfold Cqc Bc3
 congr 2
 unfold okR okL
 cases hd:C63 l with
 | false=>rfl
 | true =>
  have hd':=hd
  unfold C63 at hd'
  simp only [Bool.and_eq_true,Bgz] at hd'
  obtain ⟨_,⟨w1,w2'⟩,⟨l1,l2⟩,_⟩:=hd'
  have hw:0≤l.2.1∧l.2.1≤4194304:=⟨Int.le_trans (by decide) w1,w2'⟩
  have hl:0≤l.2.2.1∧l.2.2.1≤4194304:=⟨Int.le_trans (by decide) l1,l2⟩
  unfold Cqb
  cases hh:(Baz l).all Bei with
  | false=>cases inR (Bis l).2.1 1 8192 <;> cases C64 l <;> rfl
  | true =>
   cases hp:inR (Bis l).2.1 1 8192 with
   | false=>rfl
   | true =>
    have hr:=Cqf hh hp
    rw [← D3a hw hl hr]
    cases ha:apF l.2.1 l.2.2.1 (Bbk l) with
    | false=>simp
    | true =>
     obtain ⟨j,hj⟩:=C1v (Bbk l) 0 ha (Bis l) (by unfold Bbk;simp)
     simp only [Bool.and_eq_true] at hj
     have on:=Cix hw hl (Bgz.1 hp) hj.1
     have e1:inR (Bis l).1.1 0 4194304=true:=Bgz.2 on.x
     have e2:inR (Bis l).1.2.1 0 4194304=true:=Bgz.2 on.y
     rw [e1,e2]
     simp
end St
end V
end Go.Proofs.YtcfanlgpkefogaaGreat
namespace Go.Proofs.YtcfanlgpkefogaaGreat
open Go.RowKit
namespace V
namespace St
theorem is_Posts:FnIs Tryz.prog (25,Tryz.f25):=⟨Tryz.func25,by kernel_rfl,by kernel_rfl⟩
def plPs:List (Nat×PureT):=[(75,Bqj),(74,Bjd)]
theorem puPs:Bc5 Tryz.prog plPs:=puOk_cons is_lCheck.plain Bnw (puOk_cons is_lposts.plain Bym (puOk_nil))
def Bgk (l:TCT Bam):List (TCT Bag):=bif Bc3 l==0 then Bbk l else []
abbrev Byt:PureT:=Bbc [Bam] [.sl Bag,cI] (fun x=>decide ((x.1.1.size:Int)≤Bb2 .i64)) (fun x=>(Bgk x.1,Bc3 x.1,()))
abbrev TPs:=Tree (TCTs [.sl Bag,cI])
def szT {β:Type} (l:TCT Bam) (k:Tree β):Tree β:=bif decide ((l.1.size:Int)≤Bb2 .i64) then k else .fail
theorem Bdd {β:Type} {l:TCT Bam} {k:Tree β} (h:(l.1.size:Int)≤Bb2 .i64):szT l k=k:=by unfold szT;rw [decide_eq_true h];rfl
def C9m (l:TCT Bam):TPs:=bif decide ((Baz l).length≤1000) then .leaf (Bbk l,0,()) else .fail
def Cyi (l:TCT Bam):TPs:=szT l (bif Bc3 l != 0 then .leaf ([],Bc3 l,()) else C9m l)
theorem Bny {l:TCT Bam} (h:Bc3 l=0):(Baz l).length≤12∧1≤(Baz l).length:=by
 unfold Bc3 at h
 cases hm:Bk4 l with
 | true=>rw [hm] at h;cases h
 | false =>
  unfold Bk4 at hm
  simp only [Bool.or_eq_false_iff,decide_eq_false_iff_not] at hm
  omega
theorem Cj2 {l:TCT Bam} (h:Bc3 l=0):(C9m l).sat (fun y=>y=(Bgk l,Bc3 l,())):=by
 have:=Bny h
 unfold C9m Bgk
 rw [decide_eq_true (show (Baz l).length≤1000 by omega),h]
 exact rfl
theorem D3b {l:TCT Bam}:(bif Bc3 l != 0 then .leaf ([],Bc3 l,()) else C9m l:TPs).sat (fun y=>y=(Bgk l,Bc3 l,())):=by
 cases h:Bc3 l==0 with
 | true =>
  have h':Bc3 l=0:=by simpa using h
  rw [show (Bc3 l != 0)=false by simp [h']]
  exact Cj2 h'
 | false =>
  rw [show (Bc3 l != 0)=true by simpa using h]
  unfold Bgk
  rw [h]
  exact rfl
theorem C9n:Bai Tryz.prog 25 Byt:=Bbd (Bap Bao puPs (fns_cons is_Posts No)) 7 (fun x=>Cyi x.1) (fun x=>by kernel_rfl) fun x hok _=>by
 show (Cyi x.1).sat _
 unfold Cyi
 rw [Bdd (of_decide_eq_true hok)]
 exact D3b
end St
end V
end Go.Proofs.YtcfanlgpkefogaaGreat
namespace Go.Proofs.YtcfanlgpkefogaaGreat
open Go.RowKit
namespace V
namespace St
theorem is_CellAt:FnIs Tryz.prog (18,Tryz.f18):=⟨Tryz.func18,by kernel_rfl,by kernel_rfl⟩
theorem is_lchk:FnIs Tryz.prog (57,Tryz.f57):=⟨Tryz.func57,by kernel_rfl,by kernel_rfl⟩
theorem is_lon:FnIs Tryz.prog (58,Tryz.f58):=⟨Tryz.func58,by kernel_rfl,by kernel_rfl⟩
def onB (l:TCT Bam) (p:TCT cPt):Bool:=inR p.1 0 l.2.1&&inR p.2.1 0 l.2.2.1
def Bqk (l:TCT Bam) (p:TCT cPt):Int:=W64 (W64 (min (W64 (Int.tdiv (W64 (p.2.1*nyL l)) l.2.2.1)) (W64 (nyL l-1))*nxL l)+min (W64 (Int.tdiv (W64 (p.1*nxL l)) l.2.1)) (W64 (nxL l-1)))
def Cqg (c:TCT Bc6):TCT Bc6:=(c.1,c.2.1,c.2.2.1,())
def zCe:TCT Bc6:=(0,0,0,())
def Byu (l:TCT Bam) (p:TCT cPt):Int:=bif Bc3 l != 0 then Bc3 l else bif fpt p.1 p.2.1 then 0 else 2
def Bdr (l:TCT Bam) (p:TCT cPt):Int:=bif Byu l p != 0 then Byu l p else bif onB l p then 0 else 5
def Bit (l:TCT Bam) (p:TCT cPt):TCT Bc6:=bif Bdr l p==0 then Cqg (Bav (Bcd l) (Int.toNat (Bqk l p)) (Bas Bc6)) else zCe
abbrev Bsp:PureT:=Bbc [Bam,cPt] [Bc6,cI] (fun x=>decide ((x.1.1.size:Int)≤Bb2 .i64)) (fun x=>(((Bit x.1 x.2.1).1,(Bit x.1 x.2.1).2.1,(Bit x.1 x.2.1).2.2.1,()),Bdr x.1 x.2.1,()))
abbrev TCe:=Tree (TCTs [Bc6,cI])
def Bpi (e:Int):TCe:=.leaf (zCe,e,())
def Cj3 (l:TCT Bam) (p:TCT cPt):TCe:=bif l.2.1 != 0 then bif l.2.2.1 != 0 then bif decide (0≤Bqk l p∧Bqk l p<((Bcd l).length:Int)) then .leaf (Cqg (Bav (Bcd l) (Int.toNat (Bqk l p)) (Bas Bc6)),0,()) else .fail else .fail else .fail
def Bwx (l:TCT Bam) (p:TCT cPt):TCe:=bif inR p.1 0 l.2.1 then bif !inR p.2.1 0 l.2.2.1 then Bpi 5 else Cj3 l p else Bpi 5
def Cqh (l:TCT Bam) (p:TCT cPt):TCe:=szT l (bif Bc3 l != 0 then bif Bc3 l != 0 then Bpi (Bc3 l) else Bwx l p else bif Bf8 p.1 p.2.1 != 0 then Bpi 2 else Bwx l p)
theorem Cqi (x:TCTs [Bam,cPt]):Bcx (Cfh 2 Tryz.prog ((43,Bi0)::(105,s_inR)::plPs) [(18,Tryz.f18),(57,Tryz.f57),(58,Tryz.f58)]) 7 (.fn 18) (Bdi [Bam,cPt] x) Bbx 0 (Bgq Tryz.prog [Bc6,cI])=Cqh x.1 x.2.1:=by kernel_rfl
theorem C9o {a b c d:Int} (h0:0≤a) (h1:a≤c) (h2:0≤b) (h3:b≤d):a*b≤c*d:=Int.mul_le_mul h1 h3 h2 (by omega)
theorem C1w {y ny l:Int} (hl:1≤l∧l≤4194304) (hy:0≤y∧y≤l) (hn:1≤ny∧ny≤16):0≤min (W64 (Int.tdiv (W64 (y*ny)) l)) (W64 (ny-1))∧min (W64 (Int.tdiv (W64 (y*ny)) l)) (W64 (ny-1))≤ny-1:=by
 have h1:0≤y*ny:=Int.mul_nonneg hy.1 (by omega)
 have h2:y*ny≤4194304*16:=C9o hy.1 (by omega) (by omega) hn.2
 rw [Bbb (n:=y*ny) (by omega) (by omega),Int.tdiv_eq_ediv_of_nonneg h1]
 have h3:=Int.ediv_nonneg h1 (show 0≤l by omega)
 have h4:=Int.ediv_le_self l h1
 rw [Bbb (n:=y*ny / l) (by omega) (by omega),Bbb (n:=ny-1) (by omega) (by omega)]
 omega
theorem Cj4 {i k nx ny:Int} (hx:1≤nx∧nx≤16) (hy:1≤ny∧ny≤16) (hi:0≤i∧i≤nx-1) (hk:0≤k∧k≤ny-1):0≤W64 (W64 (k*nx)+i)∧W64 (W64 (k*nx)+i)<W64 (nx*ny):=by
 have h1:0≤k*nx:=Int.mul_nonneg hk.1 (by omega)
 have h2:k*nx≤(ny-1)*nx:=Int.mul_le_mul_of_nonneg_right hk.2 (by omega)
 have h3:nx*ny≤16*16:=C9o (by omega) hx.2 (by omega) hy.2
 have h4:(ny-1)*nx=nx*ny-nx:=by grind
 rw [Bbb (n:=k*nx) (by omega) (by omega),Bbb (n:=k*nx+i) (by omega) (by omega),Bbb (n:=nx*ny) (by omega) (by omega)]
 omega
structure LawOk (l:TCT Bam):Prop where
 w:65536≤l.2.1∧l.2.1≤4194304
 lg:65536≤l.2.2.1∧l.2.2.1≤4194304
 nx:1≤nxL l∧nxL l≤16
 ny:1≤nyL l∧nyL l≤16
 n:((Bcd l).length:Int)=W64 (nxL l*nyL l)
 hs:(Baz l).all Bei=true
 cs:(Bcd l).all Bf9=true
 ap:apF l.2.1 l.2.2.1 (Bbk l)=true
 hn:1≤(Baz l).length∧(Baz l).length≤12
theorem C68 {l:TCT Bam} (h:Bc3 l=0):LawOk l:=by
 have hn:=Bny h
 unfold Bc3 at h
 cases hm:Bk4 l with
 | true=>rw [hm] at h;cases h
 | false =>
  rw [hm,cond_false] at h
  cases ho:okL l with
  | false=>rw [ho] at h;cases h
  | true =>
   unfold okL C63 C64 at ho
   simp only [Bool.and_eq_true,Bgz,Bool.not_eq_true',decide_eq_false_iff_not,bne_eq_false_iff_eq] at ho
   obtain ⟨⟨_,hw,hl,_⟩,hp,⟨n1,n2,n3,n4,n5⟩,h1,h2,h3⟩:=ho
   exact ⟨hw,hl,⟨Int.not_lt.1 n1,Int.not_lt.1 n2⟩,⟨Int.not_lt.1 n3,Int.not_lt.1 n4⟩,n5,h1,h2,h3,hn.2,hn.1⟩
theorem Cj5 {l:TCT Bam} {p:TCT cPt} (h:Bc3 l=0) (ho:onB l p=true):Cj3 l p=.leaf (Cqg (Bav (Bcd l) (Int.toNat (Bqk l p)) (Bas Bc6)),0,()):=by
 have k:=C68 h
 unfold onB at ho
 simp only [Bool.and_eq_true,Bgz] at ho
 have hw:1≤l.2.1∧l.2.1≤4194304:=⟨Int.le_trans (by decide) k.w.1,k.w.2⟩
 have hl:1≤l.2.2.1∧l.2.2.1≤4194304:=⟨Int.le_trans (by decide) k.lg.1,k.lg.2⟩
 have hc:=Cj4 k.nx k.ny (C1w hw ho.1 k.nx) (C1w hl ho.2 k.ny)
 rw [← k.n] at hc
 have e1:(l.2.1 != 0)=true:=by
  rw [bne_iff_ne];intro e;rw [e] at hw;exact absurd hw.1 (by decide)
 have e2:(l.2.2.1 != 0)=true:=by
  rw [bne_iff_ne];intro e;rw [e] at hl;exact absurd hl.1 (by decide)
 unfold Cj3
 rw [e1,e2,decide_eq_true (show 0≤Bqk l p∧Bqk l p<((Bcd l).length:Int) from hc)]
 rfl
theorem Cj6 {l:TCT Bam} {p:TCT cPt} (h:Bc3 l=0):Bwx l p=bif onB l p then .leaf (Cqg (Bav (Bcd l) (Int.toNat (Bqk l p)) (Bas Bc6)),0,()) else Bpi 5:=by
 cases ho:onB l p with
 | true =>
  have:=Cj5 h ho
  unfold Bwx
  unfold onB at ho
  simp only [Bool.and_eq_true] at ho
  rw [ho.1,ho.2,this]
  rfl
 | false =>
  unfold Bwx
  unfold onB at ho
  cases h1:inR p.1 0 l.2.1 with
  | false=>rfl
  | true =>
   rw [h1,Bool.true_and] at ho
   rw [ho]
   rfl
def C69 (l:TCT Bam) (p:TCT cPt):TCTs [Bc6,cI]:=(((Bit l p).1,(Bit l p).2.1,(Bit l p).2.2.1,()),Bdr l p,())
theorem Cyj {l:TCT Bam} {p:TCT cPt}:(bif Byu l p != 0 then Bpi (Byu l p) else Bwx l p:TCe).sat (fun y=>y=C69 l p):=by
 unfold C69 Bit Bdr
 cases h1:Byu l p != 0 with
 | true =>
  have hne:(Byu l p==0)=false:=by
   rw [bne_iff_ne] at h1
   exact beq_eq_false_iff_ne.2 h1
  simp only [cond_true]
  rw [hne]
  exact rfl
 | false =>
  have hl:Bc3 l=0:=by
   unfold Byu at h1
   cases h2:Bc3 l != 0 with
   | true=>rw [h2,cond_true] at h1;rw [h2] at h1;cases h1
   | false=>exact bne_eq_false_iff_eq.1 h2
  simp only [cond_false]
  rw [Cj6 hl]
  cases onB l p <;> exact rfl
theorem C9p (x y:Int):(Bf8 x y != 0)=!fpt x y:=by unfold Bf8;cases fpt x y <;> rfl
def plCe:List (Nat×PureT):=(43,Bi0)::(105,s_inR)::plPs
theorem puCe:Bc5 Tryz.prog plCe:=puOk_cons is_tChk.plain Bji (puOk_cons is_between2.plain q_between2 puPs)
theorem Cqj {l:TCT Bam} {p:TCT cPt} (hs:(l.1.size:Int)≤Bb2 .i64):(Cqh l p).sat (fun y=>y=C69 l p):=by
 have key:=Cyj (l:=l) (p:=p)
 unfold Cqh
 rw [Bdd hs,C9p]
 unfold Byu at key
 cases h:Bc3 l != 0 with
 | true =>
  rw [h] at key
  simp only [cond_true] at key ⊢
  rw [h] at key
  exact key
 | false =>
  rw [h] at key
  simp only [cond_false] at key ⊢
  cases hf:fpt p.1 p.2.1 with
  | true=>rw [hf] at key;exact key
  | false=>rw [hf] at key;exact key
theorem C1x:Bai Tryz.prog 18 Bsp:=Bbd (Bp5 (u:=2) Bao puCe (fns_cons is_CellAt (fns_cons is_lchk (fns_cons is_lon No)))) 7 (fun x=>Cqh x.1 x.2.1) Cqi fun x hok _=>Cqj (of_decide_eq_true hok)
end St
end V
end Go.Proofs.YtcfanlgpkefogaaGreat
namespace Go.Proofs.YtcfanlgpkefogaaGreat
open Go.RowKit
namespace V
namespace St
theorem is_cGround:FnIs Tryz.prog (78,Tryz.f78):=⟨Tryz.func78,by kernel_rfl,by kernel_rfl⟩
def Fp (g:TCT cGr):List (TCT Fq):=g.2.1
def okG (g:TCT cGr):Bool:=(Fp g).all Bfo&&Bfj g.2.2.1.1 g.2.2.1.2.1
def groE (g:TCT cGr):Int:=bif Bc3 g.1 != 0 then Bc3 g.1 else bif decide (((Fp g).length:Int)<1)||decide (((Fp g).length:Int)>8) then 6 else bif okG g then 0 else 2
abbrev Cqk:PureT:=Bbc [cGr] [cI] (fun x=>decide ((x.1.1.1.size:Int)≤Bb2 .i64)) (fun x=>(groE x.1,()))
def plG:List (Nat×PureT):=[(75,Bqj),(126,Bdv),(123,C1c)]
theorem puG:Bc5 Tryz.prog plG:=puOk_cons is_lCheck.plain Bnw (puOk_cons is_CheckBounce.plain Bin (puOk_cons is_cfBall.plain Chn (puOk_nil)))
def Cj7 (g:TCT cGr):TEr:=bif okE (Bfj g.2.2.1.1 g.2.2.1.2.1)!=0 then .leaf (2,()) else .leaf (0,())
def T_G (g:TCT cGr):TEr:=szT g.1 (bif Bc3 g.1 != 0 then .leaf (Bc3 g.1,()) else er (decide (((Fp g).length:Int)<1)) 6 (er (decide (((Fp g).length:Int)>8)) 6 (er ((Fp g).any (Bd1 ())) 2 (Cj7 g))))
theorem Cyk (x:TCTs [cGr]):Bcx (ctx Tryz.prog plG [(78,Tryz.f78)]) 7 (.fn 78) (Bdi [cGr] x) Bbx 0 (Bgq Tryz.prog [cI])=T_G x.1:=by kernel_rfl
theorem Cyl {g:TCT cGr} (hs:(g.1.1.size:Int)≤Bb2 .i64):(T_G g).sat (fun y=>y=(groE g,())):=by
 unfold T_G groE okG Cj7
 have hq:(Fp g).any (Bd1 ())=!(Fp g).all Bfo:=Bhy Bfo _
 rw [Bdd hs,hq,Bse,← Bk5]
 cases Bc3 g.1 != 0 with
 | true=>exact rfl
 | false =>
  simp only [cond_false]
  cases decide (((Fp g).length:Int)<1)||decide (((Fp g).length:Int)>8) with
  | true=>exact rfl
  | false=>cases (Fp g).all Bfo <;> cases Bfj g.2.2.1.1 g.2.2.1.2.1 <;> exact rfl
theorem D6t:Bai Tryz.prog 78 Cqk:=Bbd (Bap Bao puG (fns_cons is_cGround No)) 7 (fun x=>T_G x.1) Cyk fun x hok _=>Cyl (of_decide_eq_true hok)
abbrev kGr:List SK:=[.d .s,.d cI,.d cI,.d cI,.d (.sl Bbj),.d cI,.d cI,.d cI,.d cI,.d cI,.d (.sl Bc6),.d (.sl Fq),.d cI,.d cI]
def Cql (x:SKTs kGr):TCT cGr:=((x.1,x.2.1,x.2.2.1,x.2.2.2.1,x.2.2.2.2.1,((x.2.2.2.2.2.1,x.2.2.2.2.2.2.1,()),x.2.2.2.2.2.2.2.1,()),x.2.2.2.2.2.2.2.2.1,x.2.2.2.2.2.2.2.2.2.1,x.2.2.2.2.2.2.2.2.2.2.1,()),x.2.2.2.2.2.2.2.2.2.2.2.1,(x.2.2.2.2.2.2.2.2.2.2.2.2.1,x.2.2.2.2.2.2.2.2.2.2.2.2.2.1,()),())
def Bcb (g:TCT cGr):SKTs kGr:=(g.1.1,g.1.2.1,g.1.2.2.1,g.1.2.2.2.1,g.1.2.2.2.2.1,g.1.2.2.2.2.2.1.1.1,g.1.2.2.2.2.2.1.1.2.1,g.1.2.2.2.2.2.1.2.1,g.1.2.2.2.2.2.2.1,g.1.2.2.2.2.2.2.2.1,g.1.2.2.2.2.2.2.2.2.1,g.2.1,g.2.2.1.1,g.2.2.1.2.1,())
def C6a:Lay:={ keys:=[1,3],ks:=[.p 0 0 0 0,.d cI],bs:=[(0,41,kGr)],n:=39,nx:=1000,marks:=[] }
def D6u:Lay:={ keys:=[1],ks:=[.p 0 0 0 0],bs:=[(0,41,kGr)],n:=39,nx:=1000,marks:=[] }
def D3d:Lay:={ keys:=[2],ks:=[.d cI],bs:=[],n:=39,nx:=1000,marks:=[] }
def C6b:XE→Lay:=fun e=>match e with | .ret=>D3d | _=>D6u
def Cj8 (x:SKTs kGr) (i:Int):C6a.T:=(((),i,()),(x,()))
def Cj9:V1 C6b:=⟨.ret,((2,()),())⟩
def Cja (x:SKTs kGr):V1 C6b:=⟨.exit 0,(((),()),(x,()))⟩
def blX (x:SKTs kGr):List (TCT Fq):=x.2.2.2.2.2.2.2.2.2.2.2.1
def C9q (b:TCT Fq):Bool:=okE (Bgs b.1 b.2.1)!=0
def C9r (g:C6a.T):Tree (C6a.T⊕V1 C6b):=bif decide (g.1.2.1<((blX g.2.1).length:Int)) then bif decide (0≤g.1.2.1∧g.1.2.1<((blX g.2.1).length:Int)) then
 bif C9q (Bav (blX g.2.1) (Int.toNat g.1.2.1) (Bas Fq)) then .leaf (.inr Cj9) else .leaf (.inl (Cj8 g.2.1 (W64 (g.1.2.1+1)))) else .fail else .leaf (.inr (Cja g.2.1))
def Cjb (g:C6a.T):Nat:=(blX g.2.1).length+1
def Cjc (x:SKTs kGr):Option (V1 C6b):=iter C9r ((blX x).length+1) (Cj8 x 0)
def Cqn (g:TCT cGr):TEr:=szT g.1 (bif Bc3 g.1 != 0 then szT g.1 (.leaf (Bc3 g.1,())) else er (decide (((Fp g).length:Int)<1)) 6 (er (decide (((Fp g).length:Int)>8)) 6 (
 bif isE .ret (Cjc (Bcb g)) then .leaf ((Bca .ret (Cjc (Bcb g))).1.1,()) else bif isE (.exit 0) (Cjc (Bcb g)) then Cj7 (Cql (Bca (.exit 0) (Cjc (Bcb g))).2.1) else .fail)))
theorem Cqp {g:TCT cGr} (hs:(g.1.1.size:Int)≤Bb2 .i64) (hb:((Fp g).length:Int)≤Bb2 .i64):(Cqn g).sat (fun y=>y=(groE g,())):=by
 have hy:Cjc (Bcb g)=some (bif (blX (Bcb g)).any C9q then Cj9 else Cja (Bcb g)):=Bkm (blX (Bcb g)) (Bas Fq) (Cj8 (Bcb g)) C9q Cj9 (Cja (Bcb g)) hb (fun _=>rfl)
 have hq:(blX (Bcb g)).any C9q=!(Fp g).all Bfo:=by
  rw [← Bhy Bfo]
  exact Bli fun b _=>Bse _
 rw [hq] at hy
 unfold Cqn groE okG
 rw [Bdd hs,Bdd hs,hy,← Bk5]
 cases Bc3 g.1 != 0 with
 | true=>exact rfl
 | false =>
  simp only [cond_false]
  cases decide (((Fp g).length:Int)<1)||decide (((Fp g).length:Int)>8) with
  | true=>exact rfl
  | false =>
   cases (Fp g).all Bfo with
   | false=>exact rfl
   | true =>
    show (Cj7 g).sat _
    unfold Cj7
    rw [Bse]
    cases Bfj g.2.2.1.1 g.2.2.1.2.1 <;> exact rfl
end St
end V
end Go.Proofs.YtcfanlgpkefogaaGreat
namespace Go.Proofs.YtcfanlgpkefogaaGreat
open Go.RowKit
namespace V
namespace St
theorem is_sOn:FnIs Tryz.prog (79,Tryz.f79):=⟨Tryz.func79,by kernel_rfl,by kernel_rfl⟩
abbrev C1y:PureT:=Bbc [Bam,cPt] [.b] (fun _=>true) (fun x=>(onB x.1 x.2.1,()))
def D3g (l:TCT Bam) (p:TCT cPt):TBo:=Bnn (decide (0≤p.1)) (Bnn (decide (p.1≤l.2.1)) (Bnn (decide (0≤p.2.1)) (.leaf (decide (p.2.1≤l.2.2.1),()))))
theorem Cym (l:TCT Bam) (p:TCT cPt):onB l p=(decide (0≤p.1)&&(decide (p.1≤l.2.1)&&(decide (0≤p.2.1)&&decide (p.2.1≤l.2.2.1)))):=by
 unfold onB inR
 simp only [Bool.and_assoc]
theorem Cvz:Bai Tryz.prog 79 C1y:=Bbd (Bap Bao puOk_nil (fns_cons is_sOn No)) 4 (fun x=>D3g x.1 x.2.1) (fun x=>by kernel_rfl) fun x _ _=>by
 show (D3g x.1 x.2.1).sat (fun y=>y=(onB x.1 x.2.1,()))
 rw [Cym]
 exact Beq (Beq (Beq (Bwh _)))
end St
end V
end Go.Proofs.YtcfanlgpkefogaaGreat
namespace Go.Proofs.YtcfanlgpkefogaaGreat
open Go.RowKit
namespace V
namespace St
theorem is_cState:FnIs Tryz.prog (42,Tryz.f42):=⟨Tryz.func42,by kernel_rfl,by kernel_rfl⟩
abbrev kSt:List SK:=[.d (.sl Baq),.d (.sl .b),.d cI,.d cI,.d cI]
abbrev bsS:List BK:=[(0,41,kGr),(1,45,kSt)]
def plS1:List (Nat×PureT):=[(78,Cqk),(55,Bek),(79,C1y)]
theorem puS1:Bc5 Tryz.prog plS1:=puOk_cons is_cGround.plain D6t (puOk_cons is_CheckMotion.plain Bmd (puOk_cons is_sOn.plain Cvz (puOk_nil)))
def inN {β:Type} (n:Nat) (i:Int) (k:Tree β):Tree β:=bif decide (0≤i∧i<(n:Int)) then k else .fail
theorem Bde {β:Type} {n:Nat} {i:Int} {k:Tree β} (h:0≤i∧i<(n:Int)):inN n i k=k:=by unfold inN;rw [decide_eq_true h];rfl
def Biu (b:TCT Fq) (m:TCT Baq):Bool:=Bn2 b.1 b.2.1 m.1.1 m.1.2.1 m.2.1.1 m.2.1.2.1 m.2.2.1.1 m.2.2.1.2.1
def atM (m:TCT Baq):TCT cPt:=(m.1.1,m.1.2.1,())
def C6c {β:Type} (no:Nat) (i:Int) (o:Bool) (m:TCT Baq) (rt nx:Tree β):Tree β:=inN no i (bif o then bif !(m.2.1.1==0&&(m.2.1.2.1==0&&true)) then rt else nx else nx)
def Bsq {β:Type} (nb no:Nat) (i:Int) (l:TCT Bam) (b:TCT Fq) (o:Bool) (m:TCT Baq) (rt nx:Tree β):Tree β :=
 inN nb i (bif okE (Biu b m)!=0 then rt else inN no i (bif !o then bif !onB l (atM m) then rt else C6c no i o m rt nx else C6c no i o m rt nx))
def lwG (x:SKTs kGr):TCT Bam:=(Cql x).1
noncomputable def D3i:Code:=(Bal (bodyOf Tryz.f42)).getD 0 .skip
def C1z:Lay:={ keys:=[2,3,30,31,32],ks:=[.p 0 0 0 0,.p 1 0 0 0,.d (.sl Baq),.d cI,.d cI],bs:=bsS,n:=106,nx:=1000,marks:=[] }
def D6w:Lay:={ keys:=[2,3],ks:=[.p 0 0 0 0,.p 1 0 0 0],bs:=bsS,n:=106,nx:=1000,marks:=[] }
def D3j:Lay:={ keys:=[4],ks:=[.d cI],bs:=[],n:=106,nx:=1000,marks:=[] }
def Byv:XE→Lay:=fun e=>match e with | .ret=>D3j | _=>D6w
def C9s (x:SKTs kGr) (s:SKTs kSt) (m:List (TCT Baq)) (n i:Int):C1z.T:=(((),(),m,n,i,()),(x,s,()))
def C9t:V1 Byv:=⟨.ret,((2,()),())⟩
def Cjd (x:SKTs kGr) (s:SKTs kSt):V1 Byv:=⟨.exit 0,(((),(),()),(x,s,()))⟩
def otS (s:SKTs kSt):List Bool:=s.2.1
def C9u (g:C1z.T):Tree (C1z.T⊕V1 Byv):=bif decide (g.1.2.2.2.2.1<g.1.2.2.2.1) then bif decide (0≤g.1.2.2.2.2.1∧g.1.2.2.2.2.1<((g.1.2.2.1:List (TCT Baq)).length:Int)) then
 Bsq (blX g.2.1).length (otS g.2.2.1).length g.1.2.2.2.2.1 (lwG g.2.1) (Bav (blX g.2.1) (Int.toNat g.1.2.2.2.2.1) (Bas Fq)) (Bav (otS g.2.2.1) (Int.toNat g.1.2.2.2.2.1) (Bas .b)) (Bav g.1.2.2.1 (Int.toNat g.1.2.2.2.2.1) (Bas Baq))
  (.leaf (.inr C9t)) (.leaf (.inl (C9s g.2.1 g.2.2.1 g.1.2.2.1 g.1.2.2.2.1 (W64 (g.1.2.2.2.2.1+1))))) else .fail else .leaf (.inr (Cjd g.2.1 g.2.2.1))
def Cje (g:C1z.T):Nat:=(g.1.2.2.1:List (TCT Baq)).length+1
theorem D6x:Bb0 Tryz.prog 42 D3i (Baw C1z Byv (Bd4 [.ret,.exit 0] C9u Cje)):=Bbi (Bap Bao puS1 No) 7 _ C1z Byv (fun e=>by cases e <;> exact Nat.le_refl _) [.ret,.exit 0] C9u Cje (fun g=>by kernel_rfl)
end St
end V
end Go.Proofs.YtcfanlgpkefogaaGreat
namespace Go.Proofs.YtcfanlgpkefogaaGreat
open Go.RowKit
namespace V
namespace St
def Byw:Lay:={ keys:=[2,3,5],ks:=[.p 0 0 0 0,.p 1 0 0 0,.d cI],bs:=bsS,n:=103,nx:=1000,marks:=[] }
def D6y:Lay:={ keys:=[2,3],ks:=[.p 0 0 0 0,.p 1 0 0 0],bs:=bsS,n:=103,nx:=1000,marks:=[] }
def D3l:Lay:={ keys:=[4],ks:=[.d cI],bs:=[],n:=103,nx:=1000,marks:=[] }
def Bvw:XE→Lay:=fun e=>match e with | .ret=>D3l | _=>D6y
def C20 (x:SKTs kGr) (s:SKTs kSt) (i:Int):Byw.T:=(((),(),i,()),(x,s,()))
def C21:V1 Bvw:=⟨.ret,((2,()),())⟩
def C9v (x:SKTs kGr) (s:SKTs kSt):V1 Bvw:=⟨.exit 0,(((),(),()),(x,s,()))⟩
def msS (s:SKTs kSt):List (TCT Baq):=s.1
def C9w (g:Byw.T):Tree (Byw.T⊕V1 Bvw):=bif decide (g.1.2.2.1<((blX g.2.1).length:Int)) then inN (msS g.2.2.1).length g.1.2.2.1 (
 Bsq (blX g.2.1).length (otS g.2.2.1).length g.1.2.2.1 (lwG g.2.1) (Bav (blX g.2.1) (Int.toNat g.1.2.2.1) (Bas Fq)) (Bav (otS g.2.2.1) (Int.toNat g.1.2.2.1) (Bas .b)) (Bav (msS g.2.2.1) (Int.toNat g.1.2.2.1) (Bas Baq))
  (.leaf (.inr C21)) (.leaf (.inl (C20 g.2.1 g.2.2.1 (W64 (g.1.2.2.1+1)))))) else .leaf (.inr (C9v g.2.1 g.2.2.1))
def Cjf (g:Byw.T):Nat:=(blX g.2.1).length+1
end St
end V
end Go.Proofs.YtcfanlgpkefogaaGreat
namespace Go.Proofs.YtcfanlgpkefogaaGreat
open Go.RowKit
namespace V
namespace St
def Bnz (s:TCT cSt):SKTs kSt:=(s.1,s.2.1,s.2.2.1,s.2.2.2.1,s.2.2.2.2.1,())
def C22 (s:SKTs kSt):TCT cSt:=(s.1,s.2.1,s.2.2.1,s.2.2.2.1,s.2.2.2.2.1,())
def msT (s:TCT cSt):List (TCT Baq):=s.1
def osT (s:TCT cSt):List Bool:=s.2.1
def okO (l:TCT Bam) (b:TCT Fq) (o:Bool) (m:TCT Baq):Bool:=Biu b m&&(bif o then m.2.1.1==0&&(m.2.1.2.1==0&&true) else onB l (atM m))
def okS (g:TCT cGr) (os:List Bool) (i:Nat) (m:TCT Baq):Bool:=okO g.1 (Bav (Fp g) i (Bas Fq)) (Bav os i (Bas .b)) m
theorem Bwy {G E:Type} {nb no:Nat} {i:Int} {l:TCT Bam} {b:TCT Fq} {o:Bool} {m:TCT Baq} {rt:E} {nx:G} (h1:0≤i∧i<(nb:Int)) (h2:0≤i∧i<(no:Int)) :
  (Bsq nb no i l b o m (.leaf (.inr rt)) (.leaf (.inl nx)):Tree (G⊕E)).run=some (bif okO l b o m then .inl nx else .inr rt):=by
 unfold Bsq C6c okO
 rw [Bde h1,Bse,Bde h2,Bde h2]
 cases Biu b m with
 | false=>rfl
 | true =>
  cases o with
  | false=>cases onB l (atM m) <;> rfl
  | true=>cases m.2.1.1==0&&(m.2.1.2.1==0&&true) <;> rfl
def D3m (g:TCT cGr) (s:TCT cSt):Option (V1 Byv):=iter C9u ((msT s).length+1) (C9s (Bcb g) (Bnz s) s.1 (msT s).length 0)
def Cyn (g:TCT cGr) (s:TCT cSt):Option (V1 Bvw):=iter C9w ((Fp g).length+1) (C20 (Bcb g) (Bnz s) 0)
theorem Cqq {g:TCT cGr} {s:TCT cSt} (h1:(msT s).length=(Fp g).length) (h2:(osT s).length=(Fp g).length) (hm:((msT s).length:Int)≤Bb2 .i64) :
  D3m g s=some (bif Bfp (okS g (osT s)) 0 (msT s) then Cjd (Bcb g) (Bnz s) else C9t):=by
 refine Bsn (msT s) (Bas Baq) (fun i=>C9s (Bcb g) (Bnz s) s.1 (msT s).length i) (okS g (osT s))
  (fun i m=>Bsq (Fp g).length (osT s).length i g.1 (Bav (Fp g) (Int.toNat i) (Bas Fq)) (Bav (osT s) (Int.toNat i) (Bas .b)) m (.leaf (.inr C9t)) (.leaf (.inl (C9s (Bcb g) (Bnz s) s.1 (msT s).length (W64 (i+1))))):Int→TCT Baq→Tree (C1z.T⊕V1 Byv)) C9t (Cjd (Bcb g) (Bnz s)) hm (fun i=>rfl) fun i hi=>?_
 rw [Bwy (by omega) (by omega),show Int.toNat (i:Int)=i from rfl,Bdc hi hm]
 rfl
theorem Cqr {g:TCT cGr} {s:TCT cSt} (h1:(msT s).length=(Fp g).length) (h2:(osT s).length=(Fp g).length) (hm:((msT s).length:Int)≤Bb2 .i64) :
  Cyn g s=some (bif Bfp (okS g (osT s)) 0 (msT s) then C9v (Bcb g) (Bnz s) else C21):=by
 unfold Cyn
 rw [← h1]
 refine Bsn (msT s) (Bas Baq) (fun i=>C20 (Bcb g) (Bnz s) i) (okS g (osT s))
  (fun i m=>Bsq (Fp g).length (osT s).length i g.1 (Bav (Fp g) (Int.toNat i) (Bas Fq)) (Bav (osT s) (Int.toNat i) (Bas .b)) m (.leaf (.inr C21)) (.leaf (.inl (C20 (Bcb g) (Bnz s) (W64 (i+1))))):Int→TCT Baq→Tree (Byw.T⊕V1 Bvw)) C21 (C9v (Bcb g) (Bnz s)) hm (fun i=>?_) fun i hi=>?_
 ·show (bif decide (i<((Fp g).length:Int)) then inN (msT s).length i (Bsq (Fp g).length (osT s).length i g.1 (Bav (Fp g) (Int.toNat i) (Bas Fq)) (Bav (osT s) (Int.toNat i) (Bas .b)) (Bav (msT s) (Int.toNat i) (Bas Baq)) (.leaf (.inr C21)) (.leaf (.inl (C20 (Bcb g) (Bnz s) (W64 (i+1)))))) else .leaf (.inr (C9v (Bcb g) (Bnz s))):Tree (Byw.T⊕V1 Bvw))=_
  rw [← h1]
  rfl
 ·rw [Bwy (by omega) (by omega),show Int.toNat (i:Int)=i from rfl,Bdc hi hm]
  rfl
def Bvx (n:Int) (s:TCT cSt):Bool:=decide (s.2.2.1<0)||(decide (s.2.2.1≥n)||(decide (s.2.2.2.1<0)||(decide (s.2.2.2.1>8)||(decide (s.2.2.2.2.1<0)||decide (s.2.2.2.2.1>4000)))))
def Bvy (g:TCT cGr) (s:TCT cSt):Bool:=(((msT s).length:Int)==((Fp g).length:Int))&&(((osT s).length:Int)==((Fp g).length:Int))
def vaE (g:TCT cGr) (s:TCT cSt):Int:=bif Bvy g s then bif Bfp (okS g (osT s)) 0 (msT s) then bif Bvx (Fp g).length s then 2 else 0 else 2 else 17
def Bih (g:TCT cGr) (s:TCT cSt):Int:=bif groE g != 0 then groE g else vaE g s
abbrev D3n:PureT:=Bbc [cGr,cSt] [cI] (fun _=>true) (fun x=>(vaE x.1 x.2.1,()))
abbrev C9x:PureT:=Bbc [cGr,cSt] [cI] (fun x=>decide ((x.1.1.1.size:Int)≤Bb2 .i64)) (fun x=>(Bih x.1 x.2.1,()))
end St
end V
end Go.Proofs.YtcfanlgpkefogaaGreat
namespace Go.Proofs.YtcfanlgpkefogaaGreat
open Go.RowKit
namespace V
namespace St
def Cjg (n:Int) (s:TCT cSt):TEr:=er (decide (s.2.2.1<0)) 2 (er (decide (s.2.2.1≥n)) 2 (er (decide (s.2.2.2.1<0)) 2 (er (decide (s.2.2.2.1>8)) 2 (er (decide (s.2.2.2.2.1<0)) 2 (er (decide (s.2.2.2.2.1>4000)) 2 (.leaf (0,())))))))
theorem Cqs (n:Int) (s:TCT cSt):Cjg n s=er (Bvx n s) 2 (.leaf (0,())):=by
 unfold Cjg Bvx
 rw [Bk5,Bk5,Bk5,Bk5,Bk5]
def Cjh (g:TCT cGr) (s:TCT cSt) (k:TEr):TEr:=er (((msT s).length:Int)!=((Fp g).length:Int)) 17 (er (((osT s).length:Int)!=((Fp g).length:Int)) 17 k)
theorem Cqt (g:TCT cGr) (s:TCT cSt) (k:TEr):Cjh g s k=er (!Bvy g s) 17 k:=by
 unfold Cjh Bvy
 rw [← Bk5]
 congr 1
 cases h1:((msT s).length:Int)==((Fp g).length:Int) <;> cases h2:((osT s).length:Int)==((Fp g).length:Int) <;> simp [bne,h1,h2]
theorem Bsr {g:TCT cGr} {s:TCT cSt} (h:Bvy g s=true):(msT s).length=(Fp g).length∧(osT s).length=(Fp g).length:=by
 unfold Bvy at h
 simp only [Bool.and_eq_true,beq_iff_eq] at h
 omega
def D70 (g:TCT cGr) (y:Option (V1 Byv)):TEr:=bif isE .ret y then .leaf ((Bca .ret y).1.1,()) else bif isE (.exit 0) y then Cjg (blX (Bca (.exit 0) y).2.1).length (C22 (Bca (.exit 0) y).2.2.1) else .fail
def D71 (g:TCT cGr) (y:Option (V1 Bvw)):TEr:=bif isE .ret y then .leaf ((Bca .ret y).1.1,()) else bif isE (.exit 0) y then Cjg (blX (Bca (.exit 0) y).2.1).length (C22 (Bca (.exit 0) y).2.2.1) else .fail
def Cyo (g:TCT cGr) (s:TCT cSt):TEr:=szT g.1 (bif groE g != 0 then .leaf (groE g,()) else Cjh g s (D70 g (D3m g s)))
def Cyp (g:TCT cGr) (s:TCT cSt):TEr:=Cjh g s (D71 g (Cyn g s))
theorem Cji {g:TCT cGr} {s:TCT cSt} {k:TEr} (h:Bvy g s=true→k=bif Bfp (okS g (osT s)) 0 (msT s) then Cjg (Fp g).length s else .leaf (2,())):(Cjh g s k).sat (fun y=>y=(vaE g s,())):=by
 rw [Cqt]
 unfold vaE
 cases he:Bvy g s with
 | false=>exact rfl
 | true =>
  rw [h he]
  cases Bfp (okS g (osT s)) 0 (msT s) with
  | false=>exact rfl
  | true =>
   simp only [Bool.not_true,cond_true]
   rw [Cqs]
   cases Bvx (Fp g).length s <;> exact rfl
theorem Cqu {g:TCT cGr} {s:TCT cSt} (hs:(g.1.1.size:Int)≤Bb2 .i64) (hm:((msT s).length:Int)≤Bb2 .i64):(Cyo g s).sat (fun y=>y=(Bih g s,())):=by
 unfold Cyo Bih
 rw [Bdd hs]
 cases groE g != 0 with
 | true=>exact rfl
 | false =>
  simp only [cond_false]
  refine Cji fun he=>?_
  obtain ⟨h1,h2⟩:=Bsr he
  rw [Cqq h1 h2 hm]
  cases Bfp (okS g (osT s)) 0 (msT s) <;> rfl
theorem Cqv {g:TCT cGr} {s:TCT cSt} (hm:((msT s).length:Int)≤Bb2 .i64):(Cyp g s).sat (fun y=>y=(vaE g s,())):=by
 unfold Cyp
 refine Cji fun he=>?_
 obtain ⟨h1,h2⟩:=Bsr he
 rw [Cqr h1 h2 hm]
 cases Bfp (okS g (osT s)) 0 (msT s) <;> rfl
noncomputable def D72:Ctx:=Bgo Tryz.prog plS1 [(42,Tryz.f42)] [((42,7),Baw C1z Byv (Bd4 [.ret,.exit 0] C9u Cje))]
theorem Cqw:CtxOk D72:=Bc8 Bao puS1 (fns_cons is_cState No) (Bbt (by kernel_rfl) (by kernel_rfl) D6x)
theorem Cqx:Bai Tryz.prog 42 C9x:=Bbd Cqw 7 (fun x=>Cyo x.1 x.2.1) (fun x=>by kernel_rfl) fun x hok hw=>Cqu (of_decide_eq_true hok) (Bew hw.2.1.1)
def plS2:List (Nat×PureT):=plS1
theorem puS2:Bc5 Tryz.prog plS2:=puS1
end St
end V
end Go.Proofs.YtcfanlgpkefogaaGreat
namespace Go.Proofs.YtcfanlgpkefogaaGreat
open Go.RowKit
namespace V
def Bat {S B:Type} (f:Nat→S→S⊕B):Nat→Nat→S→S⊕B
 | _,0,s=>.inl s
 | i,k+1,s=>match f i s with
  | .inl s'=>Bat f (i+1) k s'
  | .inr b=>.inr b
def Cjl {G E S B:Type} (hd:Nat→S→G) (res:S⊕B→E) (i:Nat):S⊕B→G⊕E
 | .inl s=>.inl (hd (i+1) s)
 | .inr b=>.inr (res (.inr b))
theorem Bfq {G E S B:Type} {st:G→Tree (G⊕E)} (n:Nat) (hd:Nat→S→G) (f:Nat→S→S⊕B) (res:S⊕B→E) (Inv:Nat→S→Prop)
  (h1:∀ i s,i<n→Inv i s→(st (hd i s)).run=some (Cjl hd res i (f i s)))
  (h2:∀ i s s',i<n→Inv i s→f i s=.inl s'→Inv (i+1) s')
  (h3:∀ s,Inv n s→(st (hd n s)).run=some (.inr (res (.inl s)))) :
  ∀ (k i:Nat) (s:S),i+k=n→Inv i s→iter st (k+1) (hd i s)=some (res (Bat f i k s))
 | 0,i,s,hk,hi=>by
  have e:i=n:=by omega
  subst e
  exact Bgj (h3 s hi)
 | k+1,i,s,hk,hi=>by
  have hlt:i<n:=by omega
  have hr:=h1 i s hlt hi
  unfold Bat
  cases hf:f i s with
  | inl s' =>
   rw [hf] at hr
   rw [Bs1 hr]
   exact Bfq n hd f res Inv h1 h2 h3 k (i+1) s' (by omega) (h2 i s s' hlt hi hf)
  | inr b =>
   rw [hf] at hr
   exact Bgj hr
theorem Bax {S B:Type} {f:Nat→S→S⊕B} {Inv:Nat→S→Prop} {n:Nat} (h2:∀ i s s',i<n→Inv i s→f i s=.inl s'→Inv (i+1) s'):∀ (k i:Nat) (s s':S),i+k=n→Inv i s→Bat f i k s=.inl s'→Inv n s'
 | 0,i,s,s',hk,hi,h=>by
  have e:i=n:=by omega
  subst e
  cases h
  exact hi
 | k+1,i,s,s',hk,hi,h=>by
  unfold Bat at h
  cases hf:f i s with
  | inl t=>rw [hf] at h;exact Bax h2 k (i+1) t s' (by omega) (h2 i s t (by omega) hi hf) h
  | inr b=>rw [hf] at h;cases h
theorem Bko {β:Type} {h w:List β} {b:Nat} (k:h.length+w.length≤1000000) (hb:b≤48):Bd8 h w b=true:=by
 rw [Be3,decide_eq_true_iff]
 have h1:((h.length+w.length:Nat):Int)≤1000000:=by omega
 have h2:(b:Int)≤48:=by omega
 calc ((h.length+w.length:Nat):Int)*b≤1000000*48:=Int.mul_le_mul h1 h2 (by omega) (by decide)
  _≤140737488355328:=by decide
namespace St
theorem is_sLie:FnIs Tryz.prog (28,Tryz.f28):=⟨Tryz.func28,by kernel_rfl,by kernel_rfl⟩
theorem is_sstill:FnIs Tryz.prog (44,Tryz.f44):=⟨Tryz.func44,by kernel_rfl,by kernel_rfl⟩
abbrev kSo:List SK:=[.o 60 Baq,.o 4 .b,.d cI,.d cI,.d cI]
noncomputable def D3o:Code:=(Bal (bodyOf Tryz.f28)).getD 0 .skip
abbrev D3p:List BK:=[(0,41,kGr),(1,45,kSt),(3,45,kSo)]
def C6d:Lay:={ keys:=[2,4,7,27,28,29],ks:=[.p 0 0 0 0,.p 1 0 0 0,.p 3 0 0 0,.d (.sl cPt),.d cI,.d cI],bs:=D3p,n:=48,nx:=1000,marks:=[] }
def D74:Lay:={ keys:=[4,7],ks:=[.p 1 0 0 0,.p 3 0 0 0],bs:=[(1,45,kSt),(3,45,kSo)],n:=48,nx:=1000,marks:=[] }
def D3q:Lay:={ keys:=[4,5],ks:=[.p 1 0 0 0,.d cI],bs:=[(1,45,kSt)],n:=48,nx:=1000,marks:=[] }
def Byx:XE→Lay:=fun e=>match e with | .ret=>D3q | _=>D74
def Cd9 (p:TCT cPt):TCT Baq:=((p.1,p.2.1,()),(0,0,()),(0,0,()),())
def Cjm (p:TCT cPt):TCT cPt:=(p.1,p.2.1,())
def Cw0 {β:Type} (p:TCT cPt) (ms:List (TCT Baq)) (nx:List (TCT Baq)→Tree β):Tree β:=bif Bd8 ms [Cd9 p] 48 then nx (ms++[Cd9 p]) else .fail
def C9y (x:SKTs kGr) (r q:SKTs kSt) (p:List (TCT cPt)) (n i:Int) (ms:List (TCT Baq)):C6d.T:=(((),(),(),p,n,i,()),(x,r,(ms,q.2),()))
def Cw1:V1 Byx:=⟨.ret,(((),2,()),(([],[],0,0,0,()),()))⟩
def Cw2 (r q:SKTs kSt) (ms:List (TCT Baq)):V1 Byx:=⟨.exit 0,(((),(),()),(r,(ms,q.2),()))⟩
abbrev TLi:=Tree (C6d.T⊕V1 Byx)
def Bss (x:SKTs kGr) (r q:SKTs kSt) (p:List (TCT cPt)) (n i:Int) (ms:List (TCT Baq)):TLi:=bif decide (i<n) then inN p.length i (
 bif !onB (lwG x) (Cjm (Bav p (Int.toNat i) (Bas cPt))) then .leaf (.inr Cw1) else Cw0 (Bav p (Int.toNat i) (Bas cPt)) ms fun ms'=>.leaf (.inl (C9y x r q p n (W64 (i+1)) ms'))) else .leaf (.inr (Cw2 r q ms))
def C23 (g:C6d.T):TLi:=Bss g.2.1 g.2.2.1 g.2.2.2.1 g.1.2.2.2.1 g.1.2.2.2.2.1 g.1.2.2.2.2.2.1 g.2.2.2.1.1
def Cjn (g:C6d.T):Nat:=(g.1.2.2.2.1:List (TCT cPt)).length+1
theorem D75:Bb0 Tryz.prog 28 D3o (Baw C6d Byx (Bd4 [.ret,.exit 0] C23 Cjn)):=Bbi (Bap Bao puS1 No) 7 _ C6d Byx (fun e=>by cases e <;> exact Nat.le_refl _) [.ret,.exit 0] C23 Cjn (fun g=>by kernel_rfl)
def Cqz (l:TCT Bam) (p:List (TCT cPt)) (i:Nat):Bool:=onB l (Cjm (Bav p i (Bas cPt)))
def f_li (l:TCT Bam) (p:List (TCT cPt)) (i:Nat) (ms:List (TCT Baq)):List (TCT Baq)⊕Unit:=bif Cqz l p i then .inl (ms++[Cd9 (Bav p i (Bas cPt))]) else .inr ()
def C6e (r q:SKTs kSt):List (TCT Baq)⊕Unit→V1 Byx
 | .inl ms=>Cw2 r q ms
 | .inr _=>Cw1
theorem Cyq {l:TCT Bam} {p:List (TCT cPt)} (i:Nat) (s s':List (TCT Baq)) (_:i<p.length) (hi:s.length=i) (h:f_li l p i s=.inl s'):s'.length=i+1:=by
 unfold f_li at h
 cases ho:Cqz l p i with
 | true=>rw [ho] at h;cases h;simp [hi]
 | false=>rw [ho] at h;cases h
theorem D3r {x:SKTs kGr} {r q:SKTs kSt} {p:List (TCT cPt)} (hp:p.length≤100):iter C23 (p.length+1) (C9y x r q p p.length 0 [])=some (C6e r q (Bat (f_li (lwG x) p) 0 p.length [])):=by
 have hp':(p.length:Int)≤Bb2 .i64:=by show (p.length:Int)≤9223372036854775807;omega
 refine Bfq p.length (fun i ms=>C9y x r q p p.length i ms) (f_li (lwG x) p) (C6e r q) (fun i ms=>ms.length=i) (fun i ms hi hl=>?_) Cyq (fun ms hl=>?_) p.length 0 [] (by omega) rfl
 ·show (Bss x r q p p.length (i:Int) ms).run=_
  unfold Bss f_li Cqz Cw0
  rw [decide_eq_true (show (i:Int)<(p.length:Int) by omega),Bde (by omega),show Int.toNat (i:Int)=i from rfl,Bko (by simp;omega) (by decide),Bdc hi hp']
  cases onB (lwG x) (Cjm (Bav p i (Bas cPt))) <;> rfl
 ·show (Bss x r q p p.length (p.length:Int) ms).run=_
  unfold Bss
  rw [decide_eq_false (show ¬ (p.length:Int)<(p.length:Int) by omega)]
  rfl
end St
end V
end Go.Proofs.YtcfanlgpkefogaaGreat
namespace Go.Proofs.YtcfanlgpkefogaaGreat
open Go.RowKit
namespace V
namespace St
abbrev plS3:List (Nat×PureT):=(42,C9x)::(93,C98)::plS2
theorem puS3:Bc5 Tryz.prog plS3:=puOk_cons is_cState.plain Cqx (puOk_cons is_cfMot.plain Cpk puS2)
def r0:SKTs kSt:=([],[],0,0,0,())
def q0 (p:List (TCT cPt)):SKTs kSt:=([],List.replicate (Int.toNat (p.length:Int)) false,0,0,0,())
def zS:TCT cSt:=([],[],0,0,0,())
abbrev TLs:=Tree (TCTs [cSt,cI])
def erS (c:Bool) (e:Int) (k:TLs):TLs:=bif c then .leaf (zS,e,()) else k
def D3s (g:TCT cGr) (p:List (TCT cPt)):Option (V1 Byx):=iter C23 (p.length+1) (C9y (Bcb g) r0 (q0 p) p p.length 0 [])
def mkT {β:Type} (n:Int) (k:Tree β):Tree β:=bif decide (0≤n∧n≤n∧n≤65536∧((1:Nat):Int)*n≤281474976710656) then k else .fail
theorem Cyr {β:Type} {n:Int} {k:Tree β} (h0:0≤n) (h:n≤65536):mkT n k=k:=by
 unfold mkT
 rw [decide_eq_true (by omega)];rfl
def stO (s:SKTs kSo):TCT cSt:=(s.1,s.2.1,s.2.2.1,s.2.2.2.1,s.2.2.2.2.1,())
def D76 (y:Option (V1 Byx)):TLs:=bif isE .ret y then .leaf (C22 (Bca .ret y).2.1,(Bca .ret y).1.2.1,()) else bif isE (.exit 0) y then .leaf (stO (Bca (.exit 0) y).2.2.1,0,()) else .fail
def C24 (a b:Nat):Bool:=(a:Int)!=(b:Int)
def Cys (g:TCT cGr) (p:List (TCT cPt)):TLs:=szT g.1 (erS (groE g != 0) (groE g) (erS (C24 p.length (Fp g).length) 17 (mkT p.length (D76 (D3s g p)))))
def D3t (p:List (TCT cPt)):List (TCT Baq)⊕Unit→TCTs [cSt,cI]
 | .inl ms=>((ms,List.replicate p.length false,0,0,0,()),0,())
 | .inr _=>(zS,2,())
def Bf7 (g:TCT cGr) (p:List (TCT cPt)):TCTs [cSt,cI]:=bif groE g != 0 then (zS,groE g,()) else bif C24 p.length (Fp g).length then (zS,17,()) else D3t p (Bat (f_li g.1 p) 0 p.length [])
def etaS (s:TCT cSt):TCT cSt:=(s.1,s.2.1,s.2.2.1,s.2.2.2.1,s.2.2.2.2.1,())
abbrev Cw3:PureT:=Bbc [cGr,.sl cPt] [cSt,cI] (fun x=>decide ((x.1.1.1.size:Int)≤Bb2 .i64)) (fun x=>(etaS (Bf7 x.1 x.2.1).1,(Bf7 x.1 x.2.1).2.1,()))
theorem C9z {g:TCT cGr} (h:groE g=0):1≤(Fp g).length∧(Fp g).length≤8:=by
 unfold groE at h
 cases h1:Bc3 g.1 != 0 with
 | true=>rw [h1,cond_true] at h;rw [h] at h1;cases h1
 | false =>
  rw [h1,cond_false] at h
  cases h2:decide (((Fp g).length:Int)<1)||decide (((Fp g).length:Int)>8) with
  | true=>rw [h2] at h;cases h
  | false =>
   rw [Bool.or_eq_false_iff,decide_eq_false_iff_not,decide_eq_false_iff_not] at h2
   omega
theorem Cyt {a b:Nat} (h:C24 a b=false):a=b:=by
 unfold C24 at h
 have:=bne_eq_false_iff_eq.1 h
 omega
theorem Cr0 {g:TCT cGr} {p:List (TCT cPt)} {k:TLs} (h:groE g=0→p.length=(Fp g).length→p.length≤8→k=.leaf (D3t p (Bat (f_li g.1 p) 0 p.length []))) :
  (bif groE g != 0 then .leaf (zS,groE g,()) else erS (C24 p.length (Fp g).length) 17 k:TLs).sat (fun y=>y=(etaS (Bf7 g p).1,(Bf7 g p).2.1,())):=by
 show Tree.sat (fun y=>y=Bf7 g p) _
 unfold Bf7
 cases h1:groE g != 0 with
 | true=>exact rfl
 | false =>
  simp only [cond_false]
  unfold erS
  cases h2:C24 p.length (Fp g).length with
  | true=>exact rfl
  | false =>
   have e:=Cyt h2
   have h0:groE g=0:=bne_eq_false_iff_eq.1 h1
   have:=C9z h0
   rw [h h0 e (by omega)]
   exact rfl
theorem Cr1 {g:TCT cGr} {p:List (TCT cPt)} (hs:(g.1.1.size:Int)≤Bb2 .i64):(Cys g p).sat (fun y=>y=(etaS (Bf7 g p).1,(Bf7 g p).2.1,())):=by
 unfold Cys
 rw [Bdd hs]
 refine Cr0 fun _ e hp=>?_
 have hy:D3s g p=some (C6e r0 (q0 p) (Bat (f_li g.1 p) 0 p.length [])):=D3r (by omega)
 rw [Cyr (by omega) (by omega),hy]
 cases Bat (f_li g.1 p) 0 p.length [] <;> rfl
noncomputable def D77:Ctx:=Bgo Tryz.prog plS3 [(28,Tryz.f28)] [((28,8),Baw C6d Byx (Bd4 [.ret,.exit 0] C23 Cjn))]
theorem Cr2:CtxOk D77:=Bc8 Bao puS3 (fns_cons is_sLie No) (Bbt (by kernel_rfl) (by kernel_rfl) D75)
theorem D3u:Bai Tryz.prog 28 Cw3:=Bbd Cr2 7 (fun x=>Cys x.1 x.2.1) (fun x=>by kernel_rfl) fun x hok _=>Cr1 (of_decide_eq_true hok)
def Bex (s:TCT cSt):Bool:=(msT s).all Bdo
abbrev Byy:PureT:=Bbc [cSt] [.b] (fun _=>true) (fun x=>(Bex x.1,()))
theorem Cda (s:TCT cSt):(!(msT s).any (Be1 ()))=Bex s:=by
 have:(msT s).any (Be1 ())=!(msT s).all Bdo:=Bhy Bdo _
 rw [this,Bool.not_not]
 rfl
theorem Cjo:Bai Tryz.prog 44 Byy:=Bbd (Bap Bao puS3 (fns_cons is_sstill (fns_cons is_still1 No))) 7 (fun x=>.leaf (!(msT x.1).any (Be1 ()),())) (fun x=>by kernel_rfl) fun x _ _=>by
 show _=_
 rw [Cda]
def C6f:Lay:={ keys:=[1,3],ks:=[.p 0 0 0 0,.d cI],bs:=[(0,45,kSt)],n:=19,nx:=1000,marks:=[] }
def D78:Lay:={ keys:=[],ks:=[],bs:=[],n:=19,nx:=1000,marks:=[] }
def D3w:Lay:={ keys:=[2],ks:=[.d .b],bs:=[],n:=19,nx:=1000,marks:=[] }
def C6g:XE→Lay:=fun e=>match e with | .ret=>D3w | _=>D78
def Cjp (s:SKTs kSt) (i:Int):C6f.T:=(((),i,()),(s,()))
def Cjq:V1 C6g:=⟨.ret,((false,()),())⟩
def Cjr:V1 C6g:=⟨.exit 0,((),())⟩
def Bii (m:TCT Baq):Bool:=!(m.2.1.1==0&&(m.2.1.2.1==0&&true))
theorem Ca0 (m:TCT Baq):Bii m=!Bdo m:=by unfold Bii Bdo;rw [Bool.and_true]
def Ca1 (g:C6f.T):Tree (C6f.T⊕V1 C6g):=bif decide (g.1.2.1<((msS g.2.1).length:Int)) then bif decide (0≤g.1.2.1∧g.1.2.1<((msS g.2.1).length:Int)) then
 bif Bii (Bav (msS g.2.1) (Int.toNat g.1.2.1) (Bas Baq)) then .leaf (.inr Cjq) else .leaf (.inl (Cjp g.2.1 (W64 (g.1.2.1+1)))) else .fail else .leaf (.inr Cjr)
def Cjs (g:C6f.T):Nat:=(msS g.2.1).length+1
def Cr4 (s:TCT cSt):Option (V1 C6g):=iter Ca1 ((msT s).length+1) (Cjp (Bnz s) 0)
def Cyu (s:TCT cSt):TBo:=bif isE .ret (Cr4 s) then .leaf ((Bca .ret (Cr4 s)).1.1,()) else bif isE (.exit 0) (Cr4 s) then .leaf (true,()) else .fail
def plS4:List (Nat×PureT):=(44,Byy)::plS3
theorem puS4:Bc5 Tryz.prog plS4:=puOk_cons is_sstill.plain Cjo (puS3)
end St
end V
end Go.Proofs.YtcfanlgpkefogaaGreat
