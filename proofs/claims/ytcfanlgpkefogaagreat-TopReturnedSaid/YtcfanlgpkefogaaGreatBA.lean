import Derived.Test.YtcfanlgpkefogaaGreatSd
import Derived.Test.YtcfanlgpkefogaaGreatTV
import Derived.Test.YtcfanlgpkefogaaGreatUj
import Derived.Test.YtcfanlgpkefogaaGreatBa
import Derived.Test.YtcfanlgpkefogaaGreatZe
namespace Go.Proofs.YtcfanlgpkefogaaGreat
open Go.RowKit
namespace V
abbrev A39:PureT:=Bv [cPt,cPt,cI] [cPt,cI] (fun _=>true) (fun x=>(((TwR x.1.1 x.1.2.1 x.2.1.1 x.2.1.2.1 x.2.2.1).1.1,(TwR x.1.1 x.1.2.1 x.2.1.1 x.2.1.2.1 x.2.2.1).1.2,()),(TwR x.1.1 x.1.2.1 x.2.1.1 x.2.1.2.1 x.2.2.1).2,()))
theorem Am0:A7 Tryz.prog 23 A39:=Afj
end V
end Go.Proofs.YtcfanlgpkefogaaGreat
namespace Go.Proofs.YtcfanlgpkefogaaGreat
open Go.RowKit
namespace V
namespace St
abbrev C9:TC:=.st [cI,cI,cI,cI,.b]
abbrev De:TC:=.st [cI,cI,cI]
abbrev A5:TC:=.st [.s,cI,cI,cI,.sl C9,A2,cI,cI,.sl De]
abbrev cGr:TC:=.st [A5,.sl A3,Co]
abbrev cSt:TC:=.st [.sl Bd,.sl .b,cI,cI,cI]
abbrev cBl:TC:=.st [cI,cPt,cI,cI]
abbrev cKn:TC:=.st [cI,cI,cI,cI,cI]
theorem is_between2:FnIs Tryz.prog (105,Tryz.f105):=⟨Tryz.func105,by kernel_rfl,by kernel_rfl⟩
theorem is_validHoop:FnIs Tryz.prog (118,Tryz.f118):=⟨Tryz.func118,by kernel_rfl,by kernel_rfl⟩
theorem is_validCell:FnIs Tryz.prog (121,Tryz.f121):=⟨Tryz.func121,by kernel_rfl,by kernel_rfl⟩
theorem is_Check1:FnIs Tryz.prog (117,Tryz.f117):=⟨Tryz.func117,by kernel_rfl,by kernel_rfl⟩
theorem is_Check2:FnIs Tryz.prog (120,Tryz.f120):=⟨Tryz.func120,by kernel_rfl,by kernel_rfl⟩
theorem is_CG1:FnIs Tryz.prog (124,Tryz.f124):=⟨Tryz.func124,by kernel_rfl,by kernel_rfl⟩
theorem is_still1:FnIs Tryz.prog (94,Tryz.f94):=⟨Tryz.func94,by kernel_rfl,by kernel_rfl⟩
theorem is_Runs1:FnIs Tryz.prog (82,Tryz.f82):=⟨Tryz.func82,by kernel_rfl,by kernel_rfl⟩
theorem is_tChk:FnIs Tryz.prog (43,Tryz.f43):=⟨Tryz.func43,by kernel_rfl,by kernel_rfl⟩
def inR (x lo hi:Int):Bool:=decide (lo≤x)&&decide (x≤hi)
abbrev s_inR:PureT:=Bv [cI,cI,cI] [.b] (fun _=>true) (fun x=>(inR x.1 x.2.1 x.2.2.1,()))
abbrev TBo:=Tree (TCTs [.b])
def Sv (a:Bool) (t:TBo):TBo:=bif a then t else .leaf (false,())
theorem Ha {a b:Bool} {t:TBo} (h:t.sat (fun y=>y=(b,()))):(Sv a t).sat (fun y=>y=(a&&b,())):=by
 unfold Sv
 cases a with
 | true=>rw [Bool.true_and];exact h
 | false=>exact rfl
theorem A3a (b:Bool):(Tree.leaf (b,()):TBo).sat (fun y=>y=(b,())):=rfl
theorem q_between2:A7 Tryz.prog 105 s_inR:=C0 (B5 Aw puOk_nil (fns_cons is_between2 A0)) 3 (fun x=>Sv (decide (x.2.1≤x.1)) (.leaf (decide (x.1≤x.2.2.1),()))) (fun x=>by kernel_rfl) fun _ _ _=>Ha (A3a _)
def plBt:List (Nat×PureT):=[(105,s_inR)]
theorem puBt:Db Tryz.prog plBt:=puOk_cons is_between2.plain q_between2 (puOk_nil)
def Gy (h:TCT C9):Bool:=inR h.1 0 4194304&&(inR h.2.1 0 4194304&&(inR h.2.2.1 2 32768&&((Int.tmod h.2.2.1 2==0)&&inR h.2.2.2.1 1 8192)))
def Hx (c:TCT De):Bool:=inR c.1 0 65536&&(inR c.2.1 (-4096) 4096&&inR c.2.2.1 (-4096) 4096)
abbrev A5e:PureT:=Bv [C9] [.b] (fun _=>true) (fun x=>(Gy x.1,()))
abbrev A5f:PureT:=Bv [De] [.b] (fun _=>true) (fun x=>(Hx x.1,()))
def A5g (h:TCT C9):TBo:=Sv (inR h.1 0 4194304) (Sv (inR h.2.1 0 4194304) (Sv (inR h.2.2.1 2 32768) (Sv (Int.tmod h.2.2.1 2==0) (.leaf (inR h.2.2.2.1 1 8192,())))))
def A5h (c:TCT De):TBo:=Sv (inR c.1 0 65536) (Sv (inR c.2.1 (-4096) 4096) (.leaf (inR c.2.2.1 (-4096) 4096,())))
theorem Yu (h:TCT C9):(A5g h).sat (fun y=>y=(Gy h,())):=Ha (Ha (Ha (Ha (A3a _))))
theorem Yv (c:TCT De):(A5h c).sat (fun y=>y=(Hx c,())):=Ha (Ha (A3a _))
theorem A8d:A7 Tryz.prog 118 A5e:=C0 (B5 Aw puBt (fns_cons is_validHoop A0)) 3 (fun x=>A5g x.1) (fun x=>by kernel_rfl) fun x _ _=>Yu x.1
theorem A8e:A7 Tryz.prog 121 A5f:=C0 (B5 Aw puBt (fns_cons is_validCell A0)) 3 (fun x=>A5h x.1) (fun x=>by kernel_rfl) fun x _ _=>Yv x.1
def Gs (m:TCT Bd):Bool:=m.2.1.1==0&&m.2.1.2.1==0
def Io (b:TCT A3):Bool:=Ju b.1 b.2.1
abbrev Ben:PureT:=Bv [C9] [.b] (fun _=>true) (fun x=>(!Gy x.1,()))
abbrev Beo:PureT:=Bv [De] [.b] (fun _=>true) (fun x=>(!Hx x.1,()))
abbrev B6x:PureT:=Bv [A3] [.b] (fun _=>true) (fun x=>(!Io x.1,()))
abbrev B6y:PureT:=Bv [Bd] [.b] (fun _=>true) (fun x=>(!Gs x.1,()))
abbrev B6z:PureT:=Bv [cPt] [.b] (fun _=>true) (fun x=>(!fpt x.1.1 x.1.2.1,()))
theorem Bji:A7 Tryz.prog 117 Ben:=C0 (B5 Aw (puOk_cons is_validHoop.plain A8d puOk_nil) (fns_cons is_Check1 A0)) 3 (fun x=>.leaf (!Gy x.1,())) (fun x=>by kernel_rfl) fun _ _ _=>rfl
theorem Bjj:A7 Tryz.prog 120 Beo:=C0 (B5 Aw (puOk_cons is_validCell.plain A8e puOk_nil) (fns_cons is_Check2 A0)) 3 (fun x=>.leaf (!Hx x.1,())) (fun x=>by kernel_rfl) fun _ _ _=>rfl
theorem Yw (b:Bool):(okE b != 0)=!b:=by unfold okE;cases b <;> rfl
theorem Bep:A7 Tryz.prog 124 B6x:=C0 (B5 Aw (puOk_cons is_CheckBall.plain Wx puOk_nil) (fns_cons is_CG1 A0)) 3 (fun x=>.leaf (okE (Ju x.1.1 x.1.2.1)!=0,())) (fun x=>by kernel_rfl) fun x _ _=>by
 show (okE (Ju x.1.1 x.1.2.1)!=0,())=(!Io x.1,())
 rw [Yw];rfl
theorem Beq:A7 Tryz.prog 94 B6y:=C0 (B5 Aw puOk_nil (fns_cons is_still1 A0)) 3 (fun x=>.leaf (!(x.1.2.1.1==0&&(x.1.2.1.2.1==0&&true)),())) (fun x=>by kernel_rfl) fun x _ _=>by
 show (!(x.1.2.1.1==0&&(x.1.2.1.2.1==0&&true)),())=(!Gs x.1,())
 rw [Bool.and_true];rfl
theorem Ber:A7 Tryz.prog 82 B6z:=C0 (B5 Aw (puOk_cons is_tChk.plain K0 puOk_nil) (fns_cons is_Runs1 A0)) 3 (fun x=>.leaf (Gu x.1.1 x.1.2.1 != 0,())) (fun x=>by kernel_rfl) fun x _ _=>by
 show (Gu x.1.1 x.1.2.1 != 0,())=(!fpt x.1.1 x.1.2.1,())
 unfold Gu
 cases fpt x.1.1 x.1.2.1 <;> rfl
def plCl:List (Nat×PureT):=[(117,Ben),(120,Beo),(124,B6x),(94,B6y),(82,B6z)]
theorem puCl:Db Tryz.prog plCl:=puOk_cons is_Check1.plain Bji (puOk_cons is_Check2.plain Bjj (puOk_cons is_CG1.plain Bep (puOk_cons is_still1.plain Beq (puOk_cons is_Runs1.plain Ber puOk_nil))))
theorem is_ixHoop:FnIs Tryz.prog (148,Tryz.f148):=⟨Tryz.func148,by kernel_rfl,by kernel_rfl⟩
theorem is_cfHoop:FnIs Tryz.prog (116,Tryz.f116):=⟨Tryz.func116,by kernel_rfl,by kernel_rfl⟩
abbrev J4:List SK:=[]
def Es (k:SKTs J4) (x:TCT (C9)):Bool:=!Gy x
noncomputable def A3b:Code:=(As (bodyOf Tryz.f148)).getD 0 .skip
def Kf:Lay:={ keys:=[0,1,7,8],ks:=[.d (.sl (C9)),.f 117 [] J4,.d cI,.d cI],bs:=[],n:=19,nx:=1000,marks:=[] }
def Am1:Lay:={ keys:=[4],ks:=[.d cI],bs:=[],n:=19,nx:=1000,marks:=[] }
def Am2:Lay:={ keys:=[],ks:=[],bs:=[],n:=19,nx:=1000,marks:=[] }
def Jc:XE→Lay
 | .ret=>Am1
 | _=>Am2
def A3c (k:SKTs J4) (l:List (TCT (C9))) (n i:Int):Kf.T:=((l,((),k),n,i,()),())
def Sw (i:Int):A1 Jc:=⟨.ret,((i,()),())⟩
def Sx:A1 Jc:=⟨.exit 0,((),())⟩
def Kz (k:SKTs J4) (l:List (TCT (C9))) (n:Int) (x:TCT (C9)) (i:Int):Tree (Kf.T⊕A1 Jc):=bif Es k x then .leaf (.inr (Sw i)) else .leaf (.inl (A3c k l n (W64 (i+1))))
def Am3 (k:SKTs J4) (l:List (TCT (C9))) (n i:Int):Tree (Kf.T⊕A1 Jc) :=
 bif decide (i<n) then bif decide (0≤i∧i<(l.length:Int)) then Kz k l n (Bc l i.toNat (B7 (C9))) i else .fail else .leaf (.inr Sx)
def Rh (g:Kf.T):Tree (A1 Jc) :=
 .br (Jt g.1.2.2.1 g.1.2.2.2.1 g.1.1) (.br (g.1.1.any (Es g.1.2.1.2)) (.leaf (Sw (g.1.1.findIdx (Es g.1.2.1.2)))) (.leaf Sx)) .fail
theorem Aqm:Bb Tryz.prog 148 A3b (B8 Kf Jc Rh):=by
 refine G1 (X:=ctx Tryz.prog plCl []) (B5 Aw puCl A0) 7 148 (fun _=>none) (fun _ _ f h=>by simp at h) Kf Jc (fun e=>by cases e <;> exact Nat.le_refl _) Rh (fun g=>Am3 g.1.2.1.2 g.1.1 g.1.2.2.1 g.1.2.2.2.1) (fun g=>by kernel_rfl) ?_
 rintro ⟨⟨l,⟨⟨⟩,k⟩,n,i,⟨⟩⟩,⟨⟩⟩ R hw hf
 obtain ⟨hf,h0⟩:=hf
 by_cases hc:n=(l.length:Int)∧i=0
 ·obtain ⟨rfl,rfl⟩:=hc
  have hf:=hf (decide_eq_true ⟨rfl,rfl⟩)
  refine Aow l (B7 (C9)) (G9 hw.1.1) (fun n i _=>A3c k l n i) (fun x i (_:Unit)=>bif Es k x then .inr (Sw i) else .inl ()) (fun _=>Sx) (fun _=>True) (fun x i _=>Kz k l l.length x i) (fun i _=>rfl) ?_ () trivial ?_
  ·intro i _ hi Q _ _ hw1 hQ
   show (Kz k l l.length l[i] i).sat Q
   unfold Kz
   rw [hw1]
   cases hp:Es k l[i] with
   | true=>rw [hp] at hQ;exact hQ
   | false=>rw [hp] at hQ;exact hQ trivial
  ·rw [Nx (Es k) (fun i=>Sw i) Sx l 0,Nat.zero_add]
   cases ha:l.any (Es k) with
   | true=>exact hf.1 ha
   | false=>exact hf.2 ha
 ·exact (h0 (decide_eq_false hc)).elim
abbrev Aqn:PureT:=Jk [.d (.sl (C9)),.f 117 [] J4] [cI] (fun _=>true) (fun x=>(bif x.1.any (Es x.2.1.2) then (x.1.findIdx (Es x.2.1.2):Int) else -1,()))
noncomputable def Aqo:Ctx:=I7 Tryz.prog plCl [(148,Tryz.f148)] [((148,keyOf A3b),B8 Kf Jc Rh)]
theorem A8f:CtxOk Aqo:=Cp Aw puCl (fns_cons is_ixHoop A0) (Cc rfl (by kernel_rfl) Aqm)
def A8g (k:SKTs J4) (l:List (TCT (C9))):Tree (Int×Unit):=bif Jt (l.length:Int) 0 l then bif l.any (Es k) then .leaf ((l.findIdx (Es k):Int),()) else .leaf (-1,()) else .fail
theorem A8h (k:SKTs J4) (l:List (TCT (C9))):(A8g k l).sat (fun y=>y=(bif l.any (Es k) then (l.findIdx (Es k):Int) else -1,())):=by
 refine Mk (decide_eq_true ⟨rfl,rfl⟩) ?_
 cases l.any (Es k) <;> exact rfl
theorem Aqp:A7 Tryz.prog 148 Aqn:=Mo A8f 8 (fun x=>A8g x.2.1.2 x.1) (fun x=>by kernel_rfl) fun x _ _=>A8h _ _
abbrev A8i:PureT:=Jk [.d (.sl (C9)),.f 117 [] J4] [.b] (fun _=>true) (fun x=>(x.1.any (Es x.2.1.2),()))
theorem A8j (k:SKTs J4) (l:List (TCT (C9))):(Tree.leaf (decide ((bif l.any (Es k) then (l.findIdx (Es k):Int) else -1)≥0),()):Tree (Bool×Unit)).sat (fun y=>y=(l.any (Es k),())):=by
 rw [Qg];exact rfl
theorem Aqq:A7 Tryz.prog 116 A8i:=Mo (B5 Aw (puOk_cons is_ixHoop.plain Aqp puOk_nil) (fns_cons is_cfHoop A0)) 8 (fun x=>.leaf (decide ((bif x.1.any (Es x.2.1.2) then (x.1.findIdx (Es x.2.1.2):Int) else -1)≥0),())) (fun x=>by kernel_rfl) fun x _ _=>A8j _ _
theorem is_ixCell:FnIs Tryz.prog (149,Tryz.f149):=⟨Tryz.func149,by kernel_rfl,by kernel_rfl⟩
theorem is_cfCell:FnIs Tryz.prog (119,Tryz.f119):=⟨Tryz.func119,by kernel_rfl,by kernel_rfl⟩
abbrev J5:List SK:=[]
def Et (k:SKTs J5) (x:TCT (De)):Bool:=!Hx x
noncomputable def A3d:Code:=(As (bodyOf Tryz.f149)).getD 0 .skip
def Kg:Lay:={ keys:=[0,1,7,8],ks:=[.d (.sl (De)),.f 120 [] J5,.d cI,.d cI],bs:=[],n:=19,nx:=1000,marks:=[] }
def Am4:Lay:={ keys:=[4],ks:=[.d cI],bs:=[],n:=19,nx:=1000,marks:=[] }
def Am5:Lay:={ keys:=[],ks:=[],bs:=[],n:=19,nx:=1000,marks:=[] }
def Jd:XE→Lay
 | .ret=>Am4
 | _=>Am5
def A3e (k:SKTs J5) (l:List (TCT (De))) (n i:Int):Kg.T:=((l,((),k),n,i,()),())
def Sy (i:Int):A1 Jd:=⟨.ret,((i,()),())⟩
def Sz:A1 Jd:=⟨.exit 0,((),())⟩
def L0 (k:SKTs J5) (l:List (TCT (De))) (n:Int) (x:TCT (De)) (i:Int):Tree (Kg.T⊕A1 Jd):=bif Et k x then .leaf (.inr (Sy i)) else .leaf (.inl (A3e k l n (W64 (i+1))))
def Am6 (k:SKTs J5) (l:List (TCT (De))) (n i:Int):Tree (Kg.T⊕A1 Jd) :=
 bif decide (i<n) then bif decide (0≤i∧i<(l.length:Int)) then L0 k l n (Bc l i.toNat (B7 (De))) i else .fail else .leaf (.inr Sz)
def Ri (g:Kg.T):Tree (A1 Jd) :=
 .br (Jt g.1.2.2.1 g.1.2.2.2.1 g.1.1) (.br (g.1.1.any (Et g.1.2.1.2)) (.leaf (Sy (g.1.1.findIdx (Et g.1.2.1.2)))) (.leaf Sz)) .fail
theorem Aqr:Bb Tryz.prog 149 A3d (B8 Kg Jd Ri):=by
 refine G1 (X:=ctx Tryz.prog plCl []) (B5 Aw puCl A0) 7 149 (fun _=>none) (fun _ _ f h=>by simp at h) Kg Jd (fun e=>by cases e <;> exact Nat.le_refl _) Ri (fun g=>Am6 g.1.2.1.2 g.1.1 g.1.2.2.1 g.1.2.2.2.1) (fun g=>by kernel_rfl) ?_
 rintro ⟨⟨l,⟨⟨⟩,k⟩,n,i,⟨⟩⟩,⟨⟩⟩ R hw hf
 obtain ⟨hf,h0⟩:=hf
 by_cases hc:n=(l.length:Int)∧i=0
 ·obtain ⟨rfl,rfl⟩:=hc
  have hf:=hf (decide_eq_true ⟨rfl,rfl⟩)
  refine Aow l (B7 (De)) (G9 hw.1.1) (fun n i _=>A3e k l n i) (fun x i (_:Unit)=>bif Et k x then .inr (Sy i) else .inl ()) (fun _=>Sz) (fun _=>True) (fun x i _=>L0 k l l.length x i) (fun i _=>rfl) ?_ () trivial ?_
  ·intro i _ hi Q _ _ hw1 hQ
   show (L0 k l l.length l[i] i).sat Q
   unfold L0
   rw [hw1]
   cases hp:Et k l[i] with
   | true=>rw [hp] at hQ;exact hQ
   | false=>rw [hp] at hQ;exact hQ trivial
  ·rw [Nx (Et k) (fun i=>Sy i) Sz l 0,Nat.zero_add]
   cases ha:l.any (Et k) with
   | true=>exact hf.1 ha
   | false=>exact hf.2 ha
 ·exact (h0 (decide_eq_false hc)).elim
abbrev Aqs:PureT:=Jk [.d (.sl (De)),.f 120 [] J5] [cI] (fun _=>true) (fun x=>(bif x.1.any (Et x.2.1.2) then (x.1.findIdx (Et x.2.1.2):Int) else -1,()))
noncomputable def Aqt:Ctx:=I7 Tryz.prog plCl [(149,Tryz.f149)] [((149,keyOf A3d),B8 Kg Jd Ri)]
theorem A8k:CtxOk Aqt:=Cp Aw puCl (fns_cons is_ixCell A0) (Cc rfl (by kernel_rfl) Aqr)
def A8l (k:SKTs J5) (l:List (TCT (De))):Tree (Int×Unit):=bif Jt (l.length:Int) 0 l then bif l.any (Et k) then .leaf ((l.findIdx (Et k):Int),()) else .leaf (-1,()) else .fail
theorem A8m (k:SKTs J5) (l:List (TCT (De))):(A8l k l).sat (fun y=>y=(bif l.any (Et k) then (l.findIdx (Et k):Int) else -1,())):=by
 refine Mk (decide_eq_true ⟨rfl,rfl⟩) ?_
 cases l.any (Et k) <;> exact rfl
theorem Aqu:A7 Tryz.prog 149 Aqs:=Mo A8k 8 (fun x=>A8l x.2.1.2 x.1) (fun x=>by kernel_rfl) fun x _ _=>A8m _ _
abbrev A8n:PureT:=Jk [.d (.sl (De)),.f 120 [] J5] [.b] (fun _=>true) (fun x=>(x.1.any (Et x.2.1.2),()))
theorem A8o (k:SKTs J5) (l:List (TCT (De))):(Tree.leaf (decide ((bif l.any (Et k) then (l.findIdx (Et k):Int) else -1)≥0),()):Tree (Bool×Unit)).sat (fun y=>y=(l.any (Et k),())):=by
 rw [Qg];exact rfl
theorem Aqv:A7 Tryz.prog 119 A8n:=Mo (B5 Aw (puOk_cons is_ixCell.plain Aqu puOk_nil) (fns_cons is_cfCell A0)) 8 (fun x=>.leaf (decide ((bif x.1.any (Et x.2.1.2) then (x.1.findIdx (Et x.2.1.2):Int) else -1)≥0),())) (fun x=>by kernel_rfl) fun x _ _=>A8o _ _
theorem is_ixBall:FnIs Tryz.prog (151,Tryz.f151):=⟨Tryz.func151,by kernel_rfl,by kernel_rfl⟩
theorem is_cfBall:FnIs Tryz.prog (123,Tryz.f123):=⟨Tryz.func123,by kernel_rfl,by kernel_rfl⟩
abbrev J6:List SK:=[]
def Eu (k:SKTs J6) (x:TCT (A3)):Bool:=!Io x
noncomputable def A3f:Code:=(As (bodyOf Tryz.f151)).getD 0 .skip
def Kh:Lay:={ keys:=[0,1,7,8],ks:=[.d (.sl (A3)),.f 124 [] J6,.d cI,.d cI],bs:=[],n:=19,nx:=1000,marks:=[] }
def Am7:Lay:={ keys:=[4],ks:=[.d cI],bs:=[],n:=19,nx:=1000,marks:=[] }
def Am8:Lay:={ keys:=[],ks:=[],bs:=[],n:=19,nx:=1000,marks:=[] }
def Je:XE→Lay
 | .ret=>Am7
 | _=>Am8
def A3g (k:SKTs J6) (l:List (TCT (A3))) (n i:Int):Kh.T:=((l,((),k),n,i,()),())
def T8 (i:Int):A1 Je:=⟨.ret,((i,()),())⟩
def T9:A1 Je:=⟨.exit 0,((),())⟩
def L6 (k:SKTs J6) (l:List (TCT (A3))) (n:Int) (x:TCT (A3)) (i:Int):Tree (Kh.T⊕A1 Je):=bif Eu k x then .leaf (.inr (T8 i)) else .leaf (.inl (A3g k l n (W64 (i+1))))
def Am9 (k:SKTs J6) (l:List (TCT (A3))) (n i:Int):Tree (Kh.T⊕A1 Je) :=
 bif decide (i<n) then bif decide (0≤i∧i<(l.length:Int)) then L6 k l n (Bc l i.toNat (B7 (A3))) i else .fail else .leaf (.inr T9)
def Rj (g:Kh.T):Tree (A1 Je) :=
 .br (Jt g.1.2.2.1 g.1.2.2.2.1 g.1.1) (.br (g.1.1.any (Eu g.1.2.1.2)) (.leaf (T8 (g.1.1.findIdx (Eu g.1.2.1.2)))) (.leaf T9)) .fail
theorem Aqw:Bb Tryz.prog 151 A3f (B8 Kh Je Rj):=by
 refine G1 (X:=ctx Tryz.prog plCl []) (B5 Aw puCl A0) 7 151 (fun _=>none) (fun _ _ f h=>by simp at h) Kh Je (fun e=>by cases e <;> exact Nat.le_refl _) Rj (fun g=>Am9 g.1.2.1.2 g.1.1 g.1.2.2.1 g.1.2.2.2.1) (fun g=>by kernel_rfl) ?_
 rintro ⟨⟨l,⟨⟨⟩,k⟩,n,i,⟨⟩⟩,⟨⟩⟩ R hw hf
 obtain ⟨hf,h0⟩:=hf
 by_cases hc:n=(l.length:Int)∧i=0
 ·obtain ⟨rfl,rfl⟩:=hc
  have hf:=hf (decide_eq_true ⟨rfl,rfl⟩)
  refine Aow l (B7 (A3)) (G9 hw.1.1) (fun n i _=>A3g k l n i) (fun x i (_:Unit)=>bif Eu k x then .inr (T8 i) else .inl ()) (fun _=>T9) (fun _=>True) (fun x i _=>L6 k l l.length x i) (fun i _=>rfl) ?_ () trivial ?_
  ·intro i _ hi Q _ _ hw1 hQ
   show (L6 k l l.length l[i] i).sat Q
   unfold L6
   rw [hw1]
   cases hp:Eu k l[i] with
   | true=>rw [hp] at hQ;exact hQ
   | false=>rw [hp] at hQ;exact hQ trivial
  ·rw [Nx (Eu k) (fun i=>T8 i) T9 l 0,Nat.zero_add]
   cases ha:l.any (Eu k) with
   | true=>exact hf.1 ha
   | false=>exact hf.2 ha
 ·exact (h0 (decide_eq_false hc)).elim
abbrev Aqx:PureT:=Jk [.d (.sl (A3)),.f 124 [] J6] [cI] (fun _=>true) (fun x=>(bif x.1.any (Eu x.2.1.2) then (x.1.findIdx (Eu x.2.1.2):Int) else -1,()))
noncomputable def Aqy:Ctx:=I7 Tryz.prog plCl [(151,Tryz.f151)] [((151,keyOf A3f),B8 Kh Je Rj)]
theorem A8p:CtxOk Aqy:=Cp Aw puCl (fns_cons is_ixBall A0) (Cc rfl (by kernel_rfl) Aqw)
def A8q (k:SKTs J6) (l:List (TCT (A3))):Tree (Int×Unit):=bif Jt (l.length:Int) 0 l then bif l.any (Eu k) then .leaf ((l.findIdx (Eu k):Int),()) else .leaf (-1,()) else .fail
theorem A8r (k:SKTs J6) (l:List (TCT (A3))):(A8q k l).sat (fun y=>y=(bif l.any (Eu k) then (l.findIdx (Eu k):Int) else -1,())):=by
 refine Mk (decide_eq_true ⟨rfl,rfl⟩) ?_
 cases l.any (Eu k) <;> exact rfl
theorem Aqz:A7 Tryz.prog 151 Aqx:=Mo A8p 8 (fun x=>A8q x.2.1.2 x.1) (fun x=>by kernel_rfl) fun x _ _=>A8r _ _
abbrev A8s:PureT:=Jk [.d (.sl (A3)),.f 124 [] J6] [.b] (fun _=>true) (fun x=>(x.1.any (Eu x.2.1.2),()))
theorem A8t (k:SKTs J6) (l:List (TCT (A3))):(Tree.leaf (decide ((bif l.any (Eu k) then (l.findIdx (Eu k):Int) else -1)≥0),()):Tree (Bool×Unit)).sat (fun y=>y=(l.any (Eu k),())):=by
 rw [Qg];exact rfl
theorem Ar0:A7 Tryz.prog 123 A8s:=Mo (B5 Aw (puOk_cons is_ixBall.plain Aqz puOk_nil) (fns_cons is_cfBall A0)) 8 (fun x=>.leaf (decide ((bif x.1.any (Eu x.2.1.2) then (x.1.findIdx (Eu x.2.1.2):Int) else -1)≥0),())) (fun x=>by kernel_rfl) fun x _ _=>A8t _ _
theorem is_ixMot:FnIs Tryz.prog (133,Tryz.f133):=⟨Tryz.func133,by kernel_rfl,by kernel_rfl⟩
theorem is_cfMot:FnIs Tryz.prog (93,Tryz.f93):=⟨Tryz.func93,by kernel_rfl,by kernel_rfl⟩
abbrev Ls:List SK:=[]
def Gb (k:SKTs Ls) (x:TCT (Bd)):Bool:=!Gs x
noncomputable def A8u:Code:=(As (bodyOf Tryz.f133)).getD 0 .skip
def Mv:Lay:={ keys:=[0,1,7,8],ks:=[.d (.sl (Bd)),.f 94 [] Ls,.d cI,.d cI],bs:=[],n:=19,nx:=1000,marks:=[] }
def Ar1:Lay:={ keys:=[4],ks:=[.d cI],bs:=[],n:=19,nx:=1000,marks:=[] }
def Ar2:Lay:={ keys:=[],ks:=[],bs:=[],n:=19,nx:=1000,marks:=[] }
def L8:XE→Lay
 | .ret=>Ar1
 | _=>Ar2
def A8v (k:SKTs Ls) (l:List (TCT (Bd))) (n i:Int):Mv.T:=((l,((),k),n,i,()),())
def Xs (i:Int):A1 L8:=⟨.ret,((i,()),())⟩
def Xt:A1 L8:=⟨.exit 0,((),())⟩
def Mw (k:SKTs Ls) (l:List (TCT (Bd))) (n:Int) (x:TCT (Bd)) (i:Int):Tree (Mv.T⊕A1 L8):=bif Gb k x then .leaf (.inr (Xs i)) else .leaf (.inl (A8v k l n (W64 (i+1))))
def Ar3 (k:SKTs Ls) (l:List (TCT (Bd))) (n i:Int):Tree (Mv.T⊕A1 L8) :=
 bif decide (i<n) then bif decide (0≤i∧i<(l.length:Int)) then Mw k l n (Bc l i.toNat (B7 (Bd))) i else .fail else .leaf (.inr Xt)
def V7 (g:Mv.T):Tree (A1 L8) :=
 .br (Jt g.1.2.2.1 g.1.2.2.2.1 g.1.1) (.br (g.1.1.any (Gb g.1.2.1.2)) (.leaf (Xs (g.1.1.findIdx (Gb g.1.2.1.2)))) (.leaf Xt)) .fail
theorem B03:Bb Tryz.prog 133 A8u (B8 Mv L8 V7):=by
 refine G1 (X:=ctx Tryz.prog plCl []) (B5 Aw puCl A0) 7 133 (fun _=>none) (fun _ _ f h=>by simp at h) Mv L8 (fun e=>by cases e <;> exact Nat.le_refl _) V7 (fun g=>Ar3 g.1.2.1.2 g.1.1 g.1.2.2.1 g.1.2.2.2.1) (fun g=>by kernel_rfl) ?_
 rintro ⟨⟨l,⟨⟨⟩,k⟩,n,i,⟨⟩⟩,⟨⟩⟩ R hw hf
 obtain ⟨hf,h0⟩:=hf
 by_cases hc:n=(l.length:Int)∧i=0
 ·obtain ⟨rfl,rfl⟩:=hc
  have hf:=hf (decide_eq_true ⟨rfl,rfl⟩)
  refine Aow l (B7 (Bd)) (G9 hw.1.1) (fun n i _=>A8v k l n i) (fun x i (_:Unit)=>bif Gb k x then .inr (Xs i) else .inl ()) (fun _=>Xt) (fun _=>True) (fun x i _=>Mw k l l.length x i) (fun i _=>rfl) ?_ () trivial ?_
  ·intro i _ hi Q _ _ hw1 hQ
   show (Mw k l l.length l[i] i).sat Q
   unfold Mw
   rw [hw1]
   cases hp:Gb k l[i] with
   | true=>rw [hp] at hQ;exact hQ
   | false=>rw [hp] at hQ;exact hQ trivial
  ·rw [Nx (Gb k) (fun i=>Xs i) Xt l 0,Nat.zero_add]
   cases ha:l.any (Gb k) with
   | true=>exact hf.1 ha
   | false=>exact hf.2 ha
 ·exact (h0 (decide_eq_false hc)).elim
abbrev B04:PureT:=Jk [.d (.sl (Bd)),.f 94 [] Ls] [cI] (fun _=>true) (fun x=>(bif x.1.any (Gb x.2.1.2) then (x.1.findIdx (Gb x.2.1.2):Int) else -1,()))
noncomputable def B05:Ctx:=I7 Tryz.prog plCl [(133,Tryz.f133)] [((133,keyOf A8u),B8 Mv L8 V7)]
theorem Adk:CtxOk B05:=Cp Aw puCl (fns_cons is_ixMot A0) (Cc rfl (by kernel_rfl) B03)
def Ahq (k:SKTs Ls) (l:List (TCT (Bd))):Tree (Int×Unit):=bif Jt (l.length:Int) 0 l then bif l.any (Gb k) then .leaf ((l.findIdx (Gb k):Int),()) else .leaf (-1,()) else .fail
theorem Adl (k:SKTs Ls) (l:List (TCT (Bd))):(Ahq k l).sat (fun y=>y=(bif l.any (Gb k) then (l.findIdx (Gb k):Int) else -1,())):=by
 refine Mk (decide_eq_true ⟨rfl,rfl⟩) ?_
 cases l.any (Gb k) <;> exact rfl
theorem B06:A7 Tryz.prog 133 B04:=Mo Adk 8 (fun x=>Ahq x.2.1.2 x.1) (fun x=>by kernel_rfl) fun x _ _=>Adl _ _
abbrev Ahr:PureT:=Jk [.d (.sl (Bd)),.f 94 [] Ls] [.b] (fun _=>true) (fun x=>(x.1.any (Gb x.2.1.2),()))
theorem Adm (k:SKTs Ls) (l:List (TCT (Bd))):(Tree.leaf (decide ((bif l.any (Gb k) then (l.findIdx (Gb k):Int) else -1)≥0),()):Tree (Bool×Unit)).sat (fun y=>y=(l.any (Gb k),())):=by
 rw [Qg];exact rfl
theorem B07:A7 Tryz.prog 93 Ahr:=Mo (B5 Aw (puOk_cons is_ixMot.plain B06 puOk_nil) (fns_cons is_cfMot A0)) 8 (fun x=>.leaf (decide ((bif x.1.any (Gb x.2.1.2) then (x.1.findIdx (Gb x.2.1.2):Int) else -1)≥0),())) (fun x=>by kernel_rfl) fun x _ _=>Adm _ _
end St
end V
end Go.Proofs.YtcfanlgpkefogaaGreat
namespace Go.Proofs.YtcfanlgpkefogaaGreat
open Go.RowKit
namespace V
namespace St
theorem is_lposts:FnIs Tryz.prog (74,Tryz.f74):=⟨Tryz.func74,by kernel_rfl,by kernel_rfl⟩
theorem is_lwires:FnIs Tryz.prog (114,Tryz.f114):=⟨Tryz.func114,by kernel_rfl,by kernel_rfl⟩
theorem is_turned:FnIs Tryz.prog (84,Tryz.f84):=⟨Tryz.func84,by kernel_rfl,by kernel_rfl⟩
abbrev kLw:List SK:=[.d .s,.d cI,.d cI,.d cI,.d (.sl C9),.d cI,.d cI,.d cI,.d cI,.d cI,.d (.sl De)]
def O8 (x:SKTs kLw):TCT A5:=(x.1,x.2.1,x.2.2.1,x.2.2.2.1,x.2.2.2.2.1,((x.2.2.2.2.2.1,x.2.2.2.2.2.2.1,()),x.2.2.2.2.2.2.2.1,()),x.2.2.2.2.2.2.2.2.1,x.2.2.2.2.2.2.2.2.2.1,x.2.2.2.2.2.2.2.2.2.2.1,())
def Ev (l:TCT A5):SKTs kLw:=(l.1,l.2.1,l.2.2.1,l.2.2.2.1,l.2.2.2.2.1,l.2.2.2.2.2.1.1.1,l.2.2.2.2.2.1.1.2.1,l.2.2.2.2.2.1.2.1,l.2.2.2.2.2.2.1,l.2.2.2.2.2.2.2.1,l.2.2.2.2.2.2.2.2.1,())
def Bh (l:TCT A5):List (TCT C9):=l.2.2.2.2.1
def M6 (l:TCT A5):TCT A2:=l.2.2.2.2.2.1
def dW (h:TCT C9):Int:=W64 (W64 (Int.tdiv h.2.2.1 2)+h.2.2.2.1)
def Qi (x y r:Int):TCT A2:=((x,y,()),r,())
def w2 (h:TCT C9):List (TCT A2):=bif h.2.2.2.2.1 then [Qi h.1 (W64 (h.2.1-dW h)) h.2.2.2.1,Qi h.1 (W64 (h.2.1+dW h)) h.2.2.2.1] else [Qi (W64 (h.1-dW h)) h.2.1 h.2.2.2.1,Qi (W64 (h.1+dW h)) h.2.1 h.2.2.2.1]
def Bz (l:TCT A5):List (TCT A2):=(Bh l).flatMap w2++[M6 l]
noncomputable def Bes:Code:=(As (bodyOf Tryz.f74)).getD 0 .skip
def A2o:Lay:={ keys:=[1,2,7,8,9],ks:=[.p 0 0 0 0,.o 33 A2,.d (.sl C9),.d cI,.d cI],bs:=[(0,36,kLw)],n:=24,nx:=1000,marks:=[] }
def Bet:Lay:={ keys:=[1,2],ks:=[.p 0 0 0 0,.o 33 A2],bs:=[(0,36,kLw)],n:=24,nx:=1000,marks:=[] }
def A5i:XE→Lay:=fun _=>Bet
def Ar4 (x:SKTs kLw) (hs:List (TCT C9)) (n:Int) (i:Int) (o:List (TCT A2)):A2o.T:=(((),o,hs,n,i,()),(x,()))
def A3h (x:SKTs kLw) (o:List (TCT A2)):A1 A5i:=⟨.exit 0,(((),o,()),(x,()))⟩
def Adn (x:SKTs kLw) (hs:List (TCT C9)) (n i:Int) (o w:List (TCT A2)):Tree (A2o.T⊕A1 A5i):=bif E8 o w 24 then .leaf (.inl (Ar4 x hs n (W64 (i+1)) (o++w))) else .fail
def A5j (x:SKTs kLw) (hs:List (TCT C9)) (n i:Int) (o:List (TCT A2)) (h:TCT C9):Tree (A2o.T⊕A1 A5i) :=
 bif h.2.2.2.2.1 then Adn x hs n i o [Qi (W64 (h.1-0)) (W64 (h.2.1-dW h)) h.2.2.2.1,Qi (W64 (h.1+0)) (W64 (h.2.1+dW h)) h.2.2.2.1]
 else Adn x hs n i o [Qi (W64 (h.1-dW h)) (W64 (h.2.1-0)) h.2.2.2.1,Qi (W64 (h.1+dW h)) (W64 (h.2.1+0)) h.2.2.2.1]
def A8w (g:A2o.T):Tree (A2o.T⊕A1 A5i) :=
 bif decide (g.1.2.2.2.2.1<g.1.2.2.2.1) then bif decide (0≤g.1.2.2.2.2.1∧g.1.2.2.2.2.1<((g.1.2.2.1:List (TCT C9)).length:Int)) then A5j g.2.1 g.1.2.2.1 g.1.2.2.2.1 g.1.2.2.2.2.1 g.1.2.1 (Bc g.1.2.2.1 (Int.toNat g.1.2.2.2.2.1) (B7 C9)) else .fail else .leaf (.inr (A3h g.2.1 g.1.2.1))
def Ar5 (g:A2o.T):Nat:=(g.1.2.2.1:List (TCT C9)).length+1
noncomputable def Beu:Ctx:=ctx Tryz.prog [] [(114,Tryz.f114),(84,Tryz.f84)]
theorem Ar6:CtxOk Beu:=B5 Aw puOk_nil (fns_cons is_lwires (fns_cons is_turned A0))
theorem Bjk:Bb Tryz.prog 74 Bes (B8 A2o A5i (Dy [.exit 0] A8w Ar5)):=Br Ar6 7 _ A2o A5i (fun _=>Nat.le_refl _) [.exit 0] A8w Ar5 (fun g=>by kernel_rfl)
noncomputable def Bjl:Ctx:=I7 Tryz.prog [] [(74,Tryz.f74)] [((74,2),B8 A2o A5i (Dy [.exit 0] A8w Ar5))]
theorem B08:CtxOk Bjl:=Cp Aw puOk_nil (fns_cons is_lposts A0) (Cc (by kernel_rfl) (by kernel_rfl) Bjk)
def B09 (l:TCT A5):Option (A1 A5i):=iter A8w ((Bh l).length+1) (Ar4 (Ev l) (Bh l) (Bh l).length 0 [])
abbrev TPo:=Tree (TCTs [.sl A2])
def Ado (r:Bet.T):TPo:=bif E8 r.1.2.1 [M6 (O8 r.2.1)] 24 then .leaf (r.1.2.1++[M6 (O8 r.2.1)],()) else .fail
def B9g (l:TCT A5):TPo:=bif isE (.exit 0) (B09 l) then Ado (D4 (.exit 0) (B09 l)) else .fail
abbrev Mx:PureT:=Bv [A5] [.sl A2] (fun x=>decide ((Bh x.1).length≤1000)) (fun x=>(Bz x.1,()))
theorem V8 {α β E:Type} (w:α→List β) (ex:List β→E):∀ (l:List α) (i:Nat) (s:List β),So (fun _ x s=>some (.inl (s++w x))) (fun s=>some (ex s)) i l s=some (ex (s++l.flatMap w))
 | [],_,s=>by simp [So]
 | x::l,i,s=>by simp only [So];rw [V8 w ex l (i+1)];simp [List.append_assoc]
theorem Adp (h:TCT C9):(w2 h).length=2:=by unfold w2;cases h.2.2.2.2.1 <;> rfl
theorem Ta (l:List (TCT C9)):(l.flatMap w2).length=2*l.length:=by
 induction l with
 | nil=>rfl
 | cons h l ih =>
  have e:((h::l).flatMap w2).length=(w2 h).length+(l.flatMap w2).length:=by rw [List.flatMap_cons,List.length_append]
  rw [e,ih,Adp,List.length_cons];omega
theorem A3i {o w:List (TCT A2)} (h:o.length+w.length≤4000):E8 o w 24=true:=by
 rw [Gd];exact decide_eq_true (by omega)
theorem B9h {h:TCT C9} (hw:WFD C9 h):W64 (h.1-0)=h.1∧W64 (h.1+0)=h.1∧W64 (h.2.1-0)=h.2.1∧W64 (h.2.1+0)=h.2.1:=by
 obtain ⟨x,y,g,w,a,⟨⟩⟩:=h
 obtain ⟨h1,h2,_⟩:=hw
 have h1 : -9223372036854775808≤x∧x≤9223372036854775807:=h1
 have h2 : -9223372036854775808≤y∧y≤9223372036854775807:=h2
 exact ⟨by rw [Int.sub_zero];exact Bi h1.1 h1.2,by rw [Int.add_zero];exact Bi h1.1 h1.2,by rw [Int.sub_zero];exact Bi h2.1 h2.2,by rw [Int.add_zero];exact Bi h2.1 h2.2⟩
theorem B0a {l:TCT A5} (hw:∀ h ∈ Bh l,WFD C9 h) (hl:(Bh l).length≤1000):B09 l=some (A3h (Ev l) ((Bh l).flatMap w2)):=by
 unfold B09
 have key:=G2 (st:=A8w) (Bh l) (fun i o=>Ar4 (Ev l) (Bh l) (Bh l).length (i:Int) o) (fun _ h o=>some (.inl (o++w2 h))) (fun o=>some (A3h (Ev l) o)) (fun i o=>o.length=2*i)
  (fun i o hi hI=>by
   simp only
   refine ⟨?_,by rw [List.length_append,hI,Adp];omega⟩
   show (bif decide ((i:Int)<((Bh l).length:Int)) then bif decide (0≤(i:Int)∧(i:Int)<((Bh l).length:Int)) then A5j (Ev l) (Bh l) (Bh l).length (i:Int) o (Bc (Bh l) (Int.toNat (i:Int)) (B7 C9)) else .fail else .leaf (.inr (A3h (Ev l) o))).run=_
   rw [decide_eq_true (show (i:Int)<((Bh l).length:Int) by omega),decide_eq_true (show 0≤(i:Int)∧(i:Int)<((Bh l).length:Int) by omega),show Int.toNat (i:Int)=i by omega,Ed hi]
   obtain ⟨e1,e2,e3,e4⟩:=B9h (hw _ (List.getElem_mem hi))
   simp only [cond_true]
   unfold A5j w2 Adn
   rw [e1,e2,e3,e4,Bi (n:=(i:Int)+1) (by omega) (by omega)]
   cases (Bh l)[i].2.2.2.2.1 with
   | true =>
    simp only [cond_true]
    rw [A3i (by simp only [List.length_cons,List.length_nil,hI];omega)]
    rfl
   | false =>
    simp only [cond_false]
    rw [A3i (by simp only [List.length_cons,List.length_nil,hI];omega)]
    rfl)
  (fun o e hI he=>by
   cases he
   show (bif decide (((Bh l).length:Int)<((Bh l).length:Int)) then _ else Tree.leaf (Sum.inr (A3h (Ev l) o)):Tree (A2o.T⊕A1 A5i)).run=_
   rw [decide_eq_false (show ¬ ((Bh l).length:Int)<((Bh l).length:Int) by omega)]
   rfl)
  (Bh l).length 0 [] (A3h (Ev l) ((Bh l).flatMap w2)) ((Bh l).length+1) (by omega) (by omega) rfl (by rw [List.drop_zero,V8,List.nil_append])
 exact key
theorem A5k:A7 Tryz.prog 74 Mx:=C0 B08 7 (fun x=>B9g x.1) (fun x=>by kernel_rfl) fun x hok hw=>by
 have hl:(Bh x.1).length≤1000:=of_decide_eq_true hok
 show (B9g x.1).sat _
 unfold B9g
 rw [B0a (B6g hw.1.2.2.2.2.1) hl]
 show (Ado (((),(Bh x.1).flatMap w2,()),(Ev x.1,()))).sat _
 unfold Ado
 simp only
 rw [A3i (by rw [Ta];simp only [List.length_cons,List.length_nil];omega)]
 exact rfl
end St
end V
end Go.Proofs.YtcfanlgpkefogaaGreat
namespace Go.Proofs.YtcfanlgpkefogaaGreat
open Go.RowKit
namespace V
namespace St
def A2p:Lay:={ keys:=[1,3,4],ks:=[.p 0 0 0 0,.o 33 A2,.d cI],bs:=[(0,36,kLw)],n:=73,nx:=1000,marks:=[] }
def Bew:Lay:={ keys:=[1,3],ks:=[.p 0 0 0 0,.o 33 A2],bs:=[(0,36,kLw)],n:=73,nx:=1000,marks:=[] }
def A5l:XE→Lay:=fun _=>Bew
def Ar7 (x:SKTs kLw) (i:Int) (o:List (TCT A2)):A2p.T:=(((),o,i,()),(x,()))
def A3j (x:SKTs kLw) (o:List (TCT A2)):A1 A5l:=⟨.exit 0,(((),o,()),(x,()))⟩
def Adq (x:SKTs kLw) (i:Int) (o w:List (TCT A2)):Tree (A2p.T⊕A1 A5l):=bif E8 o w 24 then .leaf (.inl (Ar7 x (W64 (i+1)) (o++w))) else .fail
def A5m (x:SKTs kLw) (i:Int) (o:List (TCT A2)) (h:TCT C9):Tree (A2p.T⊕A1 A5l) :=
 bif h.2.2.2.2.1 then Adq x i o [Qi h.1 (W64 (h.2.1-dW h)) h.2.2.2.1,Qi h.1 (W64 (h.2.1+dW h)) h.2.2.2.1]
 else Adq x i o [Qi (W64 (h.1-dW h)) h.2.1 h.2.2.2.1,Qi (W64 (h.1+dW h)) h.2.1 h.2.2.2.1]
def A8x (g:A2p.T):Tree (A2p.T⊕A1 A5l) :=
 bif decide (g.1.2.2.1<((g.2.1.2.2.2.2.1:List (TCT C9)).length:Int)) then bif decide (0≤g.1.2.2.1∧g.1.2.2.1<((g.2.1.2.2.2.2.1:List (TCT C9)).length:Int)) then A5m g.2.1 g.1.2.2.1 g.1.2.1 (Bc g.2.1.2.2.2.2.1 (Int.toNat g.1.2.2.1) (B7 C9)) else .fail else .leaf (.inr (A3j g.2.1 g.1.2.1))
def Ar8 (g:A2p.T):Nat:=(g.2.1.2.2.2.2.1:List (TCT C9)).length+1
noncomputable def Bex:Ctx:=ctx Tryz.prog [] []
theorem Ar9:CtxOk Bex:=B5 Aw puOk_nil A0
def B0c (l:TCT A5):Option (A1 A5l):=iter A8x ((Bh l).length+1) (Ar7 (Ev l) 0 [])
def Adr (r:Bew.T):TPo:=bif E8 r.1.2.1 [M6 (O8 r.2.1)] 24 then .leaf (r.1.2.1++[M6 (O8 r.2.1)],()) else .fail
def B9i (l:TCT A5):TPo:=bif isE (.exit 0) (B0c l) then Adr (D4 (.exit 0) (B0c l)) else .fail
theorem B0d {l:TCT A5} (hl:(Bh l).length≤1000):B0c l=some (A3j (Ev l) ((Bh l).flatMap w2)):=by
 unfold B0c
 have key:=G2 (st:=A8x) (Bh l) (fun i o=>Ar7 (Ev l) (i:Int) o) (fun _ h o=>some (.inl (o++w2 h))) (fun o=>some (A3j (Ev l) o)) (fun i o=>o.length=2*i)
  (fun i o hi hI=>by
   simp only
   refine ⟨?_,by rw [List.length_append,hI,Adp];omega⟩
   show (bif decide ((i:Int)<((Bh l).length:Int)) then bif decide (0≤(i:Int)∧(i:Int)<((Bh l).length:Int)) then A5m (Ev l) (i:Int) o (Bc (Bh l) (Int.toNat (i:Int)) (B7 C9)) else .fail else .leaf (.inr (A3j (Ev l) o))).run=_
   rw [decide_eq_true (show (i:Int)<((Bh l).length:Int) by omega),decide_eq_true (show 0≤(i:Int)∧(i:Int)<((Bh l).length:Int) by omega),show Int.toNat (i:Int)=i by omega,Ed hi]
   simp only [cond_true]
   unfold A5m w2 Adq
   rw [Bi (n:=(i:Int)+1) (by omega) (by omega)]
   cases (Bh l)[i].2.2.2.2.1 with
   | true =>
    simp only [cond_true]
    rw [A3i (by simp only [List.length_cons,List.length_nil,hI];omega)]
    rfl
   | false =>
    simp only [cond_false]
    rw [A3i (by simp only [List.length_cons,List.length_nil,hI];omega)]
    rfl)
  (fun o e hI he=>by
   cases he
   show (bif decide (((Bh l).length:Int)<((Bh l).length:Int)) then _ else Tree.leaf (Sum.inr (A3j (Ev l) o)):Tree (A2p.T⊕A1 A5l)).run=_
   rw [decide_eq_false (show ¬ ((Bh l).length:Int)<((Bh l).length:Int) by omega)]
   rfl)
  (Bh l).length 0 [] (A3j (Ev l) ((Bh l).flatMap w2)) ((Bh l).length+1) (by omega) (by omega) rfl (by rw [List.drop_zero,V8,List.nil_append])
 exact key
end St
end V
end Go.Proofs.YtcfanlgpkefogaaGreat
namespace Go.Proofs.YtcfanlgpkefogaaGreat
open Go.RowKit
namespace V
namespace St
theorem is_vname:FnIs Tryz.prog (115,Tryz.f115):=⟨Tryz.func115,by kernel_rfl,by kernel_rfl⟩
theorem is_vname1:FnIs Tryz.prog (147,Tryz.f147):=⟨Tryz.func147,by kernel_rfl,by kernel_rfl⟩
theorem is_sCont:FnIs Tryz.prog (146,Tryz.f146):=⟨Tryz.func146,by kernel_rfl,by kernel_rfl⟩
theorem is_sIdx:FnIs Tryz.prog (165,Tryz.f165):=⟨Tryz.func165,by kernel_rfl,by kernel_rfl⟩
theorem is_sidx:FnIs Tryz.prog (170,Tryz.f170):=⟨Tryz.func170,by kernel_rfl,by kernel_rfl⟩
def A8z (r:Int):Bool:=(decide (r<97)||decide (r>122))&&(decide (r<48)||decide (r>57))
def Ara (r:Int):TBo:=bif decide (r<97) then bif decide (r<48) then .leaf (true,()) else .leaf (decide (r>57),()) else bif decide (r>122) then bif decide (r<48) then .leaf (true,()) else .leaf (decide (r>57),()) else .leaf (false,())
abbrev Arb:PureT:=Bv [.i .i32] [.b] (fun _=>true) (fun x=>(A8z x.1,()))
theorem Arc (r:Int):(Ara r).sat (fun y=>y=(A8z r,())):=by
 unfold Ara A8z
 cases decide (r<97) <;> cases decide (r>122) <;> cases decide (r<48) <;> exact rfl
theorem Ard:A7 Tryz.prog 147 Arb:=C0 (B5 Aw puOk_nil (fns_cons is_vname1 A0)) 3 (fun x=>Ara x.1) (fun x=>by kernel_rfl) fun x _ _=>Arc x.1
def plNm:List (Nat×PureT):=[(147,Arb)]
theorem puNm:Db Tryz.prog plNm:=puOk_cons is_vname1.plain Ard puOk_nil
def nmT (t:ByteArray):Nat→Nat→TBo
 | 0,_=>.fail
 | n+1,pos=>bif Nat.ble (pos+1) t.size then
   bif Iw .i64 (pos:Int)&&Iw .i32 ((Utf8.decode t pos).1:Int) then
    bif A8z ((Utf8.decode t pos).1:Int)==true then .leaf (!decide ((pos:Int)≥0),()) else nmT t n (pos+(Utf8.decode t pos).2)
   else .fail
  else .leaf (!decide ((-1:Int)≥0),())
def A5n (t:ByteArray):TBo:=bif Iw .i64 (t.size:Int) then bif decide ((t.size:Int)≥1) then bif Iw .i64 (t.size:Int) then bif decide ((t.size:Int)≤20) then nmT t 21 0 else .leaf (false,()) else .fail else .leaf (false,()) else .fail
noncomputable def Bey:Ctx:=Aox 21 Tryz.prog plNm [(115,Tryz.f115),(146,Tryz.f146),(165,Tryz.f165),(170,Tryz.f170)]
theorem B0e:CtxOk Bey:=Uw Aw puNm (fns_cons is_vname (fns_cons is_sCont (fns_cons is_sIdx (fns_cons is_sidx A0))))
theorem Ama (t:ByteArray):Dx Bey 12 (.fn 115) [.val (.string t)] Ce 0 (J3 Tryz.prog [.b])=A5n t:=by kernel_rfl
end St
end V
end Go.Proofs.YtcfanlgpkefogaaGreat
namespace Go.Proofs.YtcfanlgpkefogaaGreat
open Go.RowKit
namespace V
namespace St
def Eb (t:ByteArray):List UInt8:=t.data.toList
def V9 (b:UInt8):Bool:=A8z ((b.toNat:Nat):Int)
def Ki (t:ByteArray):Bool:=decide (1≤t.size∧t.size≤20)&&!(Eb t).any V9
theorem Pq (t:ByteArray):(Eb t).length=t.size:=Array.length_toList
theorem Amb {n:Int} (h:0≤n) (h2:n≤9223372036854775807):Iw .i64 n=true:=by
 unfold Iw
 rw [decide_eq_true (show Jf .i64≤n by simp only [Jf];omega),decide_eq_true (show n≤Bl .i64 by simp only [Bl];omega)];rfl
theorem Bez {n:Int} (h:0≤n) (h2:n≤2147483647):Iw .i32 n=true:=by
 unfold Iw
 rw [decide_eq_true (show Jf .i32≤n by simp only [Jf];omega),decide_eq_true (show n≤Bl .i32 by simp only [Bl];omega)];rfl
theorem B9j {t:ByteArray} {i:Nat} (h:i<t.size):t.get! i=(Eb t)[i]'(by rw [Pq];exact h):=by
 have h':i<t.data.size:=h
 show t.data[i]! = _
 rw [getElem!_pos t.data i h']
 simp [Eb]
theorem B9k {t:ByteArray} {i:Nat} (h:(t.get! i).toNat<128):Utf8.decode t i=((t.get! i).toNat,1):=by
 unfold Utf8.decode
 simp only [Nat.add_zero]
 rw [if_pos h]
theorem B9l {t:ByteArray} {i:Nat} (h:¬ (t.get! i).toNat<128):128≤(Utf8.decode t i).1∧(Utf8.decode t i).1≤2100000:=by
 have hb:(t.get! i).toNat<256:=(t.get! i).toNat_lt
 unfold Utf8.decode
 simp only [Nat.add_zero]
 rw [if_neg h]
 have m1:=Nat.mod_lt (t.get! (i+1)).toNat (show 0<64 by omega)
 have m2:=Nat.mod_lt (t.get! (i+2)).toNat (show 0<64 by omega)
 have m3:=Nat.mod_lt (t.get! (i+3)).toNat (show 0<64 by omega)
 have r:128≤Utf8.runeError∧Utf8.runeError≤2100000:=by decide
 split
 ·split
  ·rename_i hc
   simp only
   omega
  ·exact r
 ·split
  ·split
   ·rename_i hc
    simp only [ge_iff_le,Bool.and_eq_true,decide_eq_true_eq] at hc
    simp only
    omega
   ·exact r
  ·split
   ·split
    ·rename_i hc
     simp only [ge_iff_le,Bool.and_eq_true,decide_eq_true_eq] at hc
     simp only
     omega
    ·exact r
   ·exact r
theorem Are {r:Nat} (h:128≤r):A8z (r:Int)=true:=by
 unfold A8z
 rw [decide_eq_true (show (r:Int)>122 by omega),decide_eq_true (show (r:Int)>57 by omega)]
 simp
theorem Arf {t:ByteArray} (hs:t.size≤20):∀ (n pos:Nat),pos≤t.size→t.size-pos<n→nmT t n pos=.leaf (!((Eb t).drop pos).any V9,())
 | 0,_,_,h=>absurd h (Nat.not_lt_zero _)
 | n+1,pos,hp,hn=>by
  unfold nmT
  by_cases hlt:pos<t.size
  ·have hb:Nat.ble (pos+1) t.size=true:=by rw [Nat.ble_eq];omega
   have hd:(Eb t).drop pos=(Eb t)[pos]'(by rw [Pq];exact hlt)::(Eb t).drop (pos+1):=List.drop_eq_getElem_cons _
   rw [hb,cond_true,hd,List.any_cons,← B9j hlt]
   by_cases h8:(t.get! pos).toNat<128
   ·rw [B9k h8]
    simp only
    have hk:(Iw .i64 (pos:Int)&&Iw .i32 (((t.get! pos).toNat:Nat):Int))=true:=by
     rw [Amb (by omega) (by omega),Bez (by omega) (by omega)];rfl
    rw [hk,cond_true]
    show (bif V9 (t.get! pos)==true then _ else _:TBo)=_
    cases hbd:V9 (t.get! pos) with
    | true =>
     rw [decide_eq_true (show (pos:Int)≥0 by omega)]
     rfl
    | false =>
     show nmT t n (pos+1)=_
     rw [Arf hs n (pos+1) (by omega) (by omega),Bool.false_or]
   ·obtain ⟨h1,h2⟩:=B9l h8
    have hk:(Iw .i64 (pos:Int)&&Iw .i32 (((Utf8.decode t pos).1:Nat):Int))=true:=by
     rw [Amb (by omega) (by omega),Bez (by omega) (by omega)];rfl
    have hbu:V9 (t.get! pos)=true:=Are (by omega)
    rw [hk,cond_true,Are h1,hbu,decide_eq_true (show (pos:Int)≥0 by omega)]
    rfl
  ·have hb:Nat.ble (pos+1) t.size=false:=by
    cases h:Nat.ble (pos+1) t.size with
    | false=>rfl
    | true=>rw [Nat.ble_eq] at h;omega
   rw [hb,cond_false,List.drop_eq_nil_of_le (by rw [Pq];omega)]
   rfl
theorem Amc {t:ByteArray} (h64:(t.size:Int)≤Bl .i64):(A5n t).sat (fun y=>y=(Ki t,())):=by
 unfold A5n Ki
 have hk:Iw .i64 (t.size:Int)=true:=Amb (by omega) (by simp only [Bl] at h64;exact h64)
 rw [hk]
 simp only [cond_true]
 by_cases h1:1≤t.size
 ·rw [decide_eq_true (show (t.size:Int)≥1 by omega)]
  by_cases h2:t.size≤20
  ·rw [decide_eq_true (show (t.size:Int)≤20 by omega),decide_eq_true (show 1≤t.size∧t.size≤20 from ⟨h1,h2⟩),cond_true,cond_true,Arf h2 21 0 (by omega) (by omega)]
   exact rfl
  ·rw [decide_eq_false (show ¬ (t.size:Int)≤20 by omega),decide_eq_false (show ¬ (1≤t.size∧t.size≤20) from fun h=>h2 h.2)]
   exact rfl
 ·rw [decide_eq_false (show ¬ (t.size:Int)≥1 by omega),decide_eq_false (show ¬ (1≤t.size∧t.size≤20) from fun h=>h1 h.1)]
  exact rfl
end St
end V
end Go.Proofs.YtcfanlgpkefogaaGreat
namespace Go.Proofs.YtcfanlgpkefogaaGreat
open Go.RowKit
namespace V
namespace St
abbrev A5o:PureT:=Bv [.s] [.b] (fun x=>decide ((x.1.size:Int)≤Bl .i64)) (fun x=>(Ki x.1,()))
theorem B0f:A7 Tryz.prog 115 A5o:=C0 B0e 12 (fun x=>A5n x.1) (fun x=>Ama x.1) fun x hok _=>Amc (of_decide_eq_true hok)
def Ads:Lay:={ keys:=[0,3],ks:=[.d .s,.d cI],bs:=[],n:=41,nx:=1000,marks:=[] }
def Bjo:Lay:={ keys:=[],ks:=[],bs:=[],n:=41,nx:=1000,marks:=[] }
def Bf1:Lay:={ keys:=[2],ks:=[.d .b],bs:=[],n:=41,nx:=1000,marks:=[] }
def Adt:XE→Lay:=fun e=>match e with | .ret=>Bf1 | _=>Bjo
def A3k (t:ByteArray) (i:Int):Ads.T:=((t,i,()),())
def Yx:A1 Adt:=⟨.ret,((false,()),())⟩
def A90:A1 Adt:=⟨.exit 0,((),())⟩
abbrev TNm:=Tree (Ads.T⊕A1 Adt)
def byI (t:ByteArray) (i:Int):Int:=((((t.data.toList.getD (Int.toNat i) 0).toNat:Nat)):Int)
def inI (t:ByteArray) (i:Int) (k:TNm):TNm:=bif decide (0≤i∧i<(t.size:Int)) then k else .fail
def Adu (t:ByteArray) (i:Int):TNm:=inI t i (bif decide (byI t i≥48) then inI t i (bif !decide (byI t i≤57) then .leaf (.inr Yx) else .leaf (.inl (A3k t (W64 (i+1))))) else .leaf (.inr Yx))
def Yy (t:ByteArray) (i:Int):TNm :=
 bif Iw .i64 (t.size:Int) then bif decide (i<(t.size:Int)) then
  inI t i (bif decide (byI t i≥97) then inI t i (bif decide (byI t i≤122) then .leaf (.inl (A3k t (W64 (i+1)))) else Adu t i) else Adu t i)
 else .leaf (.inr A90) else .fail
def A3l (g:Ads.T):TNm:=Yy g.1.1 g.1.2.1
def Arh (g:Ads.T):Nat:=(Eb g.1.1).length+1
noncomputable def Bf2:Ctx:=ctx Tryz.prog [] []
theorem Ari:CtxOk Bf2:=B5 Aw puOk_nil A0
def Arj (t:ByteArray):Option (A1 Adt):=iter A3l ((Eb t).length+1) (A3k t 0)
def B9m (t:ByteArray):TBo:=bif Iw .i64 (t.size:Int) then bif decide ((t.size:Int)<1) then .leaf (false,()) else bif Iw .i64 (t.size:Int) then bif decide ((t.size:Int)>20) then .leaf (false,()) else
 bif isE .ret (Arj t) then .leaf ((D4 .ret (Arj t)).1.1,()) else bif isE (.exit 0) (Arj t) then .leaf (true,()) else .fail else .fail else .fail
theorem B9n {t:ByteArray} {i:Nat} (h:i<(Eb t).length):byI t (i:Int)=((((Eb t)[i]).toNat:Nat):Int):=by
 unfold byI
 rw [show Int.toNat (i:Int)=i by omega]
 show ((((Eb t).getD i 0).toNat:Nat):Int)=_
 rw [List.getD_eq_getElem?_getD,List.getElem?_eq_getElem h]
 rfl
theorem B0h {t:ByteArray} (h64:(t.size:Int)≤Bl .i64):Arj t=some (bif (Eb t).any V9 then Yx else A90):=by
 have h64':(t.size:Int)≤9223372036854775807:=h64
 have hlen:=Pq t
 unfold Arj
 have key:=G2 (st:=A3l) (Eb t) (fun i (_:Unit)=>A3k t (i:Int)) (fun _ b _=>bif V9 b then some (.inr Yx) else some (.inl ())) (fun _=>some A90) (fun _ _=>True)
  (fun i s hi _=>by
   have hI:decide (0≤(i:Int)∧(i:Int)<(t.size:Int))=true:=decide_eq_true (by omega)
   have hrun:(A3l (A3k t (i:Int))).run=some (bif V9 (Eb t)[i] then .inr Yx else .inl (A3k t ((i+1:Nat):Int))):=by
    show (Yy t (i:Int)).run=_
    unfold Yy Adu inI V9 A8z
    rw [Amb (by omega) h64',decide_eq_true (show (i:Int)<(t.size:Int) by omega),hI,B9n hi,Bi (n:=(i:Int)+1) (by omega) (by omega)]
    generalize ((((Eb t)[i]).toNat:Nat):Int)=b
    by_cases h1:b<97
    ·rw [decide_eq_true h1,decide_eq_false (show ¬ b≥97 by omega)]
     by_cases h2:b<48
     ·rw [decide_eq_true h2,decide_eq_false (show ¬ b≥48 by omega)];simp;rfl
     ·rw [decide_eq_false h2,decide_eq_true (show b≥48 by omega)]
      by_cases h3:b>57
      ·rw [decide_eq_true h3,decide_eq_false (show ¬ b≤57 by omega)];simp;rfl
      ·rw [decide_eq_false h3,decide_eq_true (show b≤57 by omega)];simp;rfl
    ·rw [decide_eq_false h1,decide_eq_true (show b≥97 by omega)]
     by_cases h2:b>122
     ·rw [decide_eq_true h2,decide_eq_false (show ¬ b≤122 by omega),decide_eq_false (show ¬ b<48 by omega),decide_eq_true (show b≥48 by omega),decide_eq_true (show b>57 by omega),decide_eq_false (show ¬ b≤57 by omega)];simp;rfl
     ·rw [decide_eq_false h2,decide_eq_true (show b≤122 by omega)];simp;rfl
   cases hb:V9 (Eb t)[i] with
   | true =>
    rw [hb] at hrun
    simp only [cond_true]
    exact hrun
   | false =>
    rw [hb] at hrun
    simp only [cond_false]
    exact ⟨hrun,trivial⟩)
  (fun s e _ he=>by
   cases he
   show (Yy t (((Eb t).length:Nat):Int)).run=_
   unfold Yy
   rw [Amb (by omega) h64',decide_eq_false (show ¬ (((Eb t).length:Nat):Int)<(t.size:Int) by omega)]
   rfl)
  (Eb t).length 0 () (bif (Eb t).any V9 then Yx else A90) ((Eb t).length+1) (by omega) (by omega) trivial (by rw [List.drop_zero];exact Uy V9 (fun _=>Yx) A90 _ 0)
 exact key
theorem B0i {t:ByteArray} (h64:(t.size:Int)≤Bl .i64):(B9m t).sat (fun y=>y=(Ki t,())):=by
 unfold B9m Ki
 rw [Amb (by omega) (show (t.size:Int)≤9223372036854775807 from h64),B0h h64]
 simp only [cond_true]
 by_cases h1:1≤t.size
 ·rw [decide_eq_false (show ¬ (t.size:Int)<1 by omega)]
  by_cases h2:t.size≤20
  ·rw [decide_eq_false (show ¬ (t.size:Int)>20 by omega),decide_eq_true (show 1≤t.size∧t.size≤20 from ⟨h1,h2⟩)]
   cases (Eb t).any V9 <;> exact rfl
  ·rw [decide_eq_true (show (t.size:Int)>20 by omega),decide_eq_false (show ¬ (1≤t.size∧t.size≤20) from fun h=>h2 h.2)]
   exact rfl
 ·rw [decide_eq_true (show (t.size:Int)<1 by omega),decide_eq_false (show ¬ (1≤t.size∧t.size≤20) from fun h=>h1 h.1)]
  exact rfl
end St
end V
end Go.Proofs.YtcfanlgpkefogaaGreat
namespace Go.Proofs.YtcfanlgpkefogaaGreat
open Go.RowKit
namespace V
namespace St
theorem is_Touch:FnIs Tryz.prog (150,Tryz.f150):=⟨Tryz.func150,by kernel_rfl,by kernel_rfl⟩
theorem is_tCD:FnIs Tryz.prog (155,Tryz.f155):=⟨Tryz.func155,by kernel_rfl,by kernel_rfl⟩
theorem is_tsq:FnIs Tryz.prog (68,Tryz.f68):=⟨Tryz.func68,by kernel_rfl,by kernel_rfl⟩
theorem is_cmp64:FnIs Tryz.prog (142,Tryz.f142):=⟨Tryz.func142,by kernel_rfl,by kernel_rfl⟩
theorem is_nan64:FnIs Tryz.prog (161,Tryz.f161):=⟨Tryz.func161,by kernel_rfl,by kernel_rfl⟩
theorem is_lapart:FnIs Tryz.prog (122,Tryz.f122):=⟨Tryz.func122,by kernel_rfl,by kernel_rfl⟩
def B0k (x y:Int):Int:=bif decide (x<y) then -1 else bif decide (x>y) then 1 else 0
def cdE (a:TCT A2):Int:=A0g a.1.1 a.1.2.1 a.2.1
def sqD (a b:TCT A2):Int:=W64 (W64 (W64 (b.1.1-a.1.1)*W64 (b.1.1-a.1.1))+W64 (W64 (b.1.2.1-a.1.2.1)*W64 (b.1.2.1-a.1.2.1)))
def srD (a b:TCT A2):Int:=W64 (W64 (a.2.1+b.2.1)*W64 (a.2.1+b.2.1))
def Amd (a b:TCT A2):Int:=bif cdE a==0&&cdE b==0 then B0k (sqD a b) (srD a b) else 0
def B9o (a b:TCT A2):Int:=bif cdE a==0&&cdE b==0 then 0 else 2
abbrev Ahs:PureT:=Bv [A2,A2] [cI,cI] (fun _=>true) (fun x=>(Amd x.1 x.2.1,B9o x.1 x.2.1,()))
abbrev TTo:=Tree (TCTs [cI,cI])
def B70 (x y:Int):TTo:=bif x != x then bif y != y then .leaf (0,0,()) else .leaf (-1,0,()) else bif y != y then .leaf (1,0,()) else bif decide (x<y) then .leaf (-1,0,()) else bif decide (x>y) then .leaf (1,0,()) else .leaf (0,0,())
def A5p (a b:TCT A2):TTo:=bif cdE a != 0 then .leaf (0,2,()) else bif cdE b != 0 then .leaf (0,2,()) else B70 (sqD a b) (srD a b)
theorem Adv (a b:TCT A2):(A5p a b).sat (fun y=>y=(Amd a b,B9o a b,())):=by
 unfold A5p Amd B9o B70 B0k
 rw [bne_self_eq_false,bne_self_eq_false]
 have e:∀ n:Int,(n != 0)=!(n==0):=fun _=>rfl
 rw [e,e]
 cases cdE a==0 <;> cases cdE b==0 <;> try exact rfl
 cases decide (sqD a b<srD a b) <;> cases decide (sqD a b>srD a b) <;> exact rfl
theorem B0l:A7 Tryz.prog 150 Ahs:=C0 (B5 Aw (puOk_cons is_tCD.plain Wv puOk_nil) (fns_cons is_Touch (fns_cons is_tsq (fns_cons is_cmp64 (fns_cons is_nan64 A0))))) 5 (fun x=>A5p x.1 x.2.1) (fun x=>by kernel_rfl) fun x _ _=>Adv _ _
def plAp:List (Nat×PureT):=[(150,Ahs),(105,s_inR)]
theorem puAp:Db Tryz.prog plAp:=puOk_cons is_Touch.plain B0l (puOk_cons is_between2.plain q_between2 puOk_nil)
noncomputable def Aht:Code:=(As (bodyOf Tryz.f122)).getD 0 .skip
noncomputable def Ahu:Code:=(As (bodyOf Tryz.f122)).getD 1 .skip
abbrev kD3:List SK:=[.d cI,.d cI,.d cI]
def d3 (d:SKTs kD3):TCT A2:=((d.1,d.2.1,()),d.2.2.1,())
def Bf3 (d:TCT A2):TCT A2:=((d.1.1,d.1.2.1,()),d.2.1,())
def toD (d:TCT A2):SKTs kD3:=(d.1.1,d.1.2.1,d.2.1,())
def A2q:Lay:={ keys:=[1,2,6,11,12,13,46,47,48],ks:=[.d (.sl A2),.p 0 0 0 0,.p 1000 0 0 0,.d (.sl A2),.d cI,.d cI,.d (.sl A2),.d cI,.d cI],bs:=[(0,36,kLw),(1000,33,kD3)],n:=62,nx:=2000,marks:=[] }
def Bf4:Lay:={ keys:=[1,2,11,12,13],ks:=[.d (.sl A2),.p 0 0 0 0,.d (.sl A2),.d cI,.d cI],bs:=[(0,36,kLw)],n:=62,nx:=2000,marks:=[] }
def B71:Lay:={ keys:=[4],ks:=[.d .b],bs:=[],n:=62,nx:=2000,marks:=[] }
def Yz:XE→Lay:=fun e=>match e with | .ret=>B71 | _=>Bf4
def Z0:Lay:={ keys:=[1,2,11,12,13],ks:=[.d (.sl A2),.p 0 0 0 0,.d (.sl A2),.d cI,.d cI],bs:=[(0,36,kLw)],n:=62,nx:=1000,marks:=[] }
def Bjr:Lay:={ keys:=[],ks:=[],bs:=[],n:=62,nx:=2000,marks:=[] }
def A91:XE→Lay:=fun e=>match e with | .ret=>B71 | _=>Bjr
def Z1 (x:SKTs kLw) (d:SKTs kD3) (p q:List (TCT A2)) (n i:Int) (r:List (TCT A2)) (m k:Int):A2q.T:=((p,(),(),q,n,i,r,m,k,()),(x,d,()))
def Wl:A1 Yz:=⟨.ret,((false,()),())⟩
def Wm (x:SKTs kLw) (p q:List (TCT A2)) (n i:Int):A1 Yz:=⟨.exit 2,((p,(),q,n,i,()),(x,()))⟩
def Z2 (g:A2q.T):Tree (A2q.T⊕A1 Yz) :=
 bif decide (g.1.2.2.2.2.2.2.2.2.1<g.1.2.2.2.2.2.2.2.1) then bif decide (0≤g.1.2.2.2.2.2.2.2.2.1∧g.1.2.2.2.2.2.2.2.2.1<((g.1.2.2.2.2.2.2.1:List (TCT A2)).length:Int)) then
  bif decide (Amd (d3 g.2.2.1) (Bf3 (Bc g.1.2.2.2.2.2.2.1 (Int.toNat g.1.2.2.2.2.2.2.2.2.1) (B7 A2)))<0) then .leaf (.inr Wl) else .leaf (.inl (Z1 g.2.1 g.2.2.1 g.1.1 g.1.2.2.2.1 g.1.2.2.2.2.1 g.1.2.2.2.2.2.1 g.1.2.2.2.2.2.2.1 g.1.2.2.2.2.2.2.2.1 (W64 (g.1.2.2.2.2.2.2.2.2.1+1))))
 else .fail else .leaf (.inr (Wm g.2.1 g.1.1 g.1.2.2.2.1 g.1.2.2.2.2.1 g.1.2.2.2.2.2.1))
def Ark (g:A2q.T):Nat:=(g.1.2.2.2.2.2.2.1:List (TCT A2)).length+1
noncomputable def A92:Ctx:=ctx Tryz.prog plAp []
theorem A93:CtxOk A92:=B5 Aw puAp A0
theorem Bjs:Bb Tryz.prog 122 Ahu (B8 A2q Yz (Dy [.ret,.exit 2] Z2 Ark)):=Br A93 7 _ A2q Yz (fun e=>by cases e <;> exact Nat.le_refl _) [.ret,.exit 2] Z2 Ark (fun g=>by kernel_rfl)
def Ip {α:Type} (ok:Nat→α→Bool):Nat→List α→Bool
 | _,[]=>true
 | i,x::l=>ok i x&&Ip ok (i+1) l
theorem Z3 {α E:Type} (ok:Nat→α→Bool) (r d:E):∀ (l:List α) (i:Nat),So (fun i x (_:Unit)=>bif ok i x then some (.inl ()) else some (.inr r)) (fun _=>some d) i l ()=some (bif Ip ok i l then d else r)
 | [],i=>rfl
 | x::l,i=>by
  simp only [So,Ip]
  cases ok i x with
  | true=>simp only [cond_true,Bool.true_and];exact Z3 ok r d l (i+1)
  | false=>rfl
def touB (d o:TCT A2):Bool:=decide (Amd d o<0)
theorem B0m (x:SKTs kLw) (d:TCT A2) (p q:List (TCT A2)) (n i:Int) (r:List (TCT A2)) (hr:(r.length:Int)≤Bl .i64) :
  iter Z2 (r.length+1) (Z1 x (toD d) p q n i r r.length 0)=some (bif r.any (touB d) then Wl else Wm x p q n i):=by
 have hr':(r.length:Int)≤9223372036854775807:=hr
 have key:=G2 (st:=Z2) r (fun k (_:Unit)=>Z1 x (toD d) p q n i r r.length (k:Int)) (fun _ o _=>bif touB d o then some (.inr Wl) else some (.inl ())) (fun _=>some (Wm x p q n i)) (fun _ _=>True)
  (fun k s hk _=>by
   have hrun:(Z2 (Z1 x (toD d) p q n i r r.length (k:Int))).run=some (bif touB d r[k] then .inr Wl else .inl (Z1 x (toD d) p q n i r r.length ((k+1:Nat):Int))):=by
    show (bif decide ((k:Int)<(r.length:Int)) then bif decide (0≤(k:Int)∧(k:Int)<(r.length:Int)) then bif touB d (Bf3 (Bc r (Int.toNat (k:Int)) (B7 A2))) then Tree.leaf (Sum.inr Wl) else .leaf (.inl (Z1 x (toD d) p q n i r r.length (W64 ((k:Int)+1)))) else .fail else .leaf (.inr (Wm x p q n i)):Tree (A2q.T⊕A1 Yz)).run=_
    rw [decide_eq_true (show (k:Int)<(r.length:Int) by omega),decide_eq_true (show 0≤(k:Int)∧(k:Int)<(r.length:Int) by omega),show Int.toNat (k:Int)=k by omega,Ed hk,Bi (n:=(k:Int)+1) (by omega) (by omega)]
    show (bif touB d r[k] then _ else _:Tree (A2q.T⊕A1 Yz)).run=_
    cases touB d r[k] <;> rfl
   cases hb:touB d r[k] with
   | true=>rw [hb] at hrun;simp only [cond_true];exact hrun
   | false=>rw [hb] at hrun;simp only [cond_false];exact ⟨hrun,trivial⟩)
  (fun s e _ he=>by
   cases he
   show (bif decide ((r.length:Int)<(r.length:Int)) then _ else Tree.leaf (Sum.inr (Wm x p q n i)):Tree (A2q.T⊕A1 Yz)).run=_
   rw [decide_eq_false (show ¬ (r.length:Int)<(r.length:Int) by omega)]
   rfl)
  r.length 0 () (bif r.any (touB d) then Wl else Wm x p q n i) (r.length+1) (by omega) (by omega) trivial (by rw [List.drop_zero];exact Uy (touB d) (fun _=>Wl) (Wm x p q n i) _ 0)
 exact key
end St
end V
end Go.Proofs.YtcfanlgpkefogaaGreat
namespace Go.Proofs.YtcfanlgpkefogaaGreat
open Go.RowKit
namespace V
namespace St
def A3m (x:SKTs kLw) (p q:List (TCT A2)) (n i:Int):Z0.T:=((p,(),q,n,i,()),(x,()))
def Tb (b:Bool):A1 A91:=⟨.ret,((b,()),())⟩
def Wn:A1 A91:=⟨.exit 0,((),())⟩
abbrev TAo:=Tree (Z0.T⊕A1 A91)
def Bf5 (x:SKTs kLw) (d:SKTs kD3) (p q:List (TCT A2)) (n i:Int) (r:List (TCT A2)):Option (A1 Yz):=iter Z2 (r.length+1) (Z1 x d p q n i r r.length 0)
def Bf6 (r:Bf4.T):Z0.T:=A3m r.2.1 r.1.1 r.1.2.2.1 r.1.2.2.2.1 (W64 (r.1.2.2.2.2.1+1))
def Bf7 (y:Option (A1 Yz)):TAo:=bif isE .ret y then .leaf (.inr (Tb (D4 .ret y).1.1)) else bif isE (.exit 2) y then .leaf (.inl (Bf6 (D4 (.exit 2) y))) else .fail
def Arl (x:SKTs kLw) (p q:List (TCT A2)) (n i:Int) (d:TCT A2):TAo :=
 bif !inR d.1.1 d.2.1 (W64 (x.2.1-d.2.1)) then .leaf (.inr (Tb false)) else bif !inR d.1.2.1 d.2.1 (W64 (x.2.2.1-d.2.1)) then .leaf (.inr (Tb false)) else
 bif decide (0≤i∧i≤(p.length:Int)) then Bf7 (Bf5 x (toD d) p q n i (p.take (Int.toNat i))) else .fail
def Z4 (g:Z0.T):TAo :=
 bif decide (g.1.2.2.2.2.1<g.1.2.2.2.1) then bif decide (0≤g.1.2.2.2.2.1∧g.1.2.2.2.2.1<((g.1.2.2.1:List (TCT A2)).length:Int)) then
  Arl g.2.1 g.1.1 g.1.2.2.1 g.1.2.2.2.1 g.1.2.2.2.2.1 (Bc g.1.2.2.1 (Int.toNat g.1.2.2.2.2.1) (B7 A2)) else .fail else .leaf (.inr Wn)
def Arm (g:Z0.T):Nat:=(g.1.2.2.1:List (TCT A2)).length+1
def B72:Ld:=fun k=>bif Nat.beq k 7 then some (B8 A2q Yz (Dy [.ret,.exit 2] Z2 Ark)) else none
theorem Bjt (g:Z0.T):evC A92.P (Dx A92 7) A92.pures 122 A92.u B72 Aht (Z0.of g) (Gl Z0 A91)=Z4 g:=by kernel_rfl
theorem Arn:As Aht=[Ahu]:=by kernel_rfl
theorem Aro:keyOf Ahu=7:=by kernel_rfl
theorem Bju:Bb Tryz.prog 122 Aht (B8 Z0 A91 (Dy [.ret,.exit 0] Z4 Arm)) :=
 Ux A93 7 _ B72 (fun d hd f hf=>by
  rw [Arn,List.mem_singleton] at hd
  subst hd
  rw [Aro] at hf
  cases hf
  exact Bjs) Z0 A91 (fun e=>by cases e <;> exact (by decide:(1000:Nat)≤2000)) [.ret,.exit 0] Z4 Arm Bjt
theorem loops_in {P:Program} {f:Nat} {fn:Func} {la:Code} {sum:St→Tree (XE×St)} {k:Nat} (h1:∀ d ∈ As (bodyOf fn),keyOf d=k→d=la) (h2:Bb P f la sum) :
  ∀ p ∈ [(f,fn)],∀ d ∈ As (bodyOf p.2),∀ g,D8 [((f,k),sum)] p.1 (keyOf d)=some g→Bb P p.1 d g:=by
 intro p hp d hd g hg
 simp only [List.mem_singleton] at hp
 subst hp
 simp only at hd hg
 by_cases hk:keyOf d=k
 ·rw [h1 d hd hk]
  rw [hk] at hg
  simp [D8] at hg
  subst hg
  exact h2
 ·have:Nat.beq k (keyOf d)=false:=by
   cases h:Nat.beq k (keyOf d) with
   | false=>rfl
   | true=>exact absurd (Nat.eq_of_beq_eq_true h).symm hk
  simp only [D8,this,Bool.and_false,cond_false] at hg
  cases hg
theorem Arp:As (bodyOf Tryz.f122)=[Aht,Ahu]:=by kernel_rfl
noncomputable def Bjv:Ctx:=I7 Tryz.prog plAp [(122,Tryz.f122)] [((122,2),B8 Z0 A91 (Dy [.ret,.exit 0] Z4 Arm))]
theorem B0n:CtxOk Bjv:=Cp Aw puAp (fns_cons is_lapart A0) (loops_in (fun d hd hk=>by
 rw [Arp,List.mem_cons,List.mem_singleton] at hd
 rcases hd with rfl | rfl
 ·rfl
 ·rw [Aro] at hk;cases hk) Bju)
def Rk (w l:Int) (d:TCT A2):Bool:=inR d.1.1 d.2.1 (W64 (w-d.2.1))&&inR d.1.2.1 d.2.1 (W64 (l-d.2.1))
def apF (w l:Int) (p:List (TCT A2)):Bool:=Ip (fun i d=>Rk w l d&&!(p.take i).any (touB d)) 0 p
def Arq (l:TCT A5) (p:List (TCT A2)):Option (A1 A91):=iter Z4 (p.length+1) (A3m (Ev l) p p p.length 0)
def B9p (l:TCT A5) (p:List (TCT A2)):TBo:=bif isE .ret (Arq l p) then .leaf ((D4 .ret (Arq l p)).1.1,()) else bif isE (.exit 0) (Arq l p) then .leaf (true,()) else .fail
theorem B0o (l:TCT A5) (p:List (TCT A2)) (hp:(p.length:Int)≤Bl .i64):Arq l p=some (bif apF l.2.1 l.2.2.1 p then Wn else Tb false):=by
 have hp':(p.length:Int)≤9223372036854775807:=hp
 unfold Arq
 have key:=G2 (st:=Z4) p (fun i (_:Unit)=>A3m (Ev l) p p p.length (i:Int)) (fun i d _=>bif Rk l.2.1 l.2.2.1 d&&!(p.take i).any (touB d) then some (.inl ()) else some (.inr (Tb false))) (fun _=>some Wn) (fun _ _=>True)
  (fun i s hi _=>by
   have hrun:(Z4 (A3m (Ev l) p p p.length (i:Int))).run=some (bif Rk l.2.1 l.2.2.1 p[i]&&!(p.take i).any (touB p[i]) then .inl (A3m (Ev l) p p p.length ((i+1:Nat):Int)) else .inr (Tb false)):=by
    show (bif decide ((i:Int)<(p.length:Int)) then bif decide (0≤(i:Int)∧(i:Int)<(p.length:Int)) then Arl (Ev l) p p p.length (i:Int) (Bc p (Int.toNat (i:Int)) (B7 A2)) else .fail else .leaf (.inr Wn):TAo).run=_
    rw [decide_eq_true (show (i:Int)<(p.length:Int) by omega),decide_eq_true (show 0≤(i:Int)∧(i:Int)<(p.length:Int) by omega),show Int.toNat (i:Int)=i by omega,Ed hi]
    simp only [cond_true]
    unfold Arl Rk
    have hw:(Ev l).2.1=l.2.1:=rfl
    have hl:(Ev l).2.2.1=l.2.2.1:=rfl
    rw [hw,hl]
    cases inR p[i].1.1 p[i].2.1 (W64 (l.2.1-p[i].2.1)) with
    | false=>rfl
    | true =>
     cases inR p[i].1.2.1 p[i].2.1 (W64 (l.2.2.1-p[i].2.1)) with
     | false=>rfl
     | true =>
      simp only [Bool.not_true,cond_false,Bool.true_and]
      have ht:(p.take i).length=i:=by rw [List.length_take];omega
      have hy:Bf5 (Ev l) (toD p[i]) p p p.length (i:Int) (p.take i)=some (bif (p.take i).any (touB p[i]) then Wl else Wm (Ev l) p p p.length (i:Int)) :=
       B0m (Ev l) p[i] p p p.length (i:Int) (p.take i) (by rw [ht];show (i:Int)≤9223372036854775807;omega)
      rw [decide_eq_true (show 0≤(i:Int)∧(i:Int)≤(p.length:Int) by omega),cond_true,show Int.toNat (i:Int)=i by omega,hy]
      cases (p.take i).any (touB p[i]) with
      | true=>rfl
      | false =>
       show (Tree.leaf (Sum.inl (A3m (Ev l) p p p.length (W64 ((i:Int)+1)))):TAo).run=_
       rw [Bi (n:=(i:Int)+1) (by omega) (by omega)]
       rfl
   cases hb:Rk l.2.1 l.2.2.1 p[i]&&!(p.take i).any (touB p[i]) with
   | true=>rw [hb] at hrun;simp only [cond_true];exact ⟨hrun,trivial⟩
   | false=>rw [hb] at hrun;simp only [cond_false];exact hrun)
  (fun s e _ he=>by
   cases he
   show (bif decide ((p.length:Int)<(p.length:Int)) then _ else Tree.leaf (Sum.inr Wn):TAo).run=_
   rw [decide_eq_false (show ¬ (p.length:Int)<(p.length:Int) by omega)]
   rfl)
  p.length 0 () (bif apF l.2.1 l.2.2.1 p then Wn else Tb false) (p.length+1) (by omega) (by omega) trivial (by
   rw [List.drop_zero]
   exact Z3 (fun i d=>Rk l.2.1 l.2.2.1 d&&!(p.take i).any (touB d)) (Tb false) Wn p 0)
 exact key
abbrev Ahv:PureT:=Bv [A5,.sl A2] [.b] (fun _=>true) (fun x=>(apF x.1.2.1 x.1.2.2.1 x.2.1,()))
theorem B0p:A7 Tryz.prog 122 Ahv:=C0 B0n 7 (fun x=>B9p x.1 x.2.1) (fun x=>by kernel_rfl) fun x _ hw=>by
 show (B9p x.1 x.2.1).sat _
 unfold B9p
 rw [B0o x.1 x.2.1 (G9 hw.2.1)]
 show ((bif isE .ret (some (bif apF x.1.2.1 x.1.2.2.1 x.2.1 then Wn else Tb false)) then _ else _:TBo)).sat (fun y=>y=(apF x.1.2.1 x.1.2.2.1 x.2.1,()))
 cases apF x.1.2.1 x.1.2.2.1 x.2.1 <;> exact rfl
end St
end V
end Go.Proofs.YtcfanlgpkefogaaGreat
namespace Go.Proofs.YtcfanlgpkefogaaGreat
open Go.RowKit
namespace V
namespace St
theorem is_lCheck:FnIs Tryz.prog (75,Tryz.f75):=⟨Tryz.func75,by kernel_rfl,by kernel_rfl⟩
def nxL (l:TCT A5):Int:=l.2.2.2.2.2.2.1
def nyL (l:TCT A5):Int:=l.2.2.2.2.2.2.2.1
def Dl (l:TCT A5):List (TCT De):=l.2.2.2.2.2.2.2.2.1
def Nz (l:TCT A5):Bool:=decide (((Bh l).length:Int)<1)||(decide (((Bh l).length:Int)>12)||decide (((Dl l).length:Int)>256))
def Adw (l:TCT A5):Bool:=Ki l.1&&(inR l.2.1 65536 4194304&&(inR l.2.2.1 65536 4194304&&inR l.2.2.2.1 0 (W64 (Int.tdiv (min l.2.1 l.2.2.1) 4))))
def Adx (l:TCT A5):Bool:=!decide (nxL l<1)&&(!decide (nxL l>16)&&(!decide (nyL l<1)&&(!decide (nyL l>16)&&!(((Dl l).length:Int)!=W64 (nxL l*nyL l)))))
def okL (l:TCT A5):Bool:=Adw l&&(inR (M6 l).2.1 1 8192&&(Adx l&&((Bh l).all Gy&&((Dl l).all Hx&&apF l.2.1 l.2.2.1 (Bz l)))))
def Ck (l:TCT A5):Int:=bif Nz l then 6 else bif okL l then 0 else 2
abbrev Qq:PureT:=Bv [A5] [cI] (fun x=>decide ((x.1.1.size:Int)≤Bl .i64)) (fun x=>(Ck x.1,()))
def plLc:List (Nat×PureT):=[(115,A5o),(105,s_inR),(74,Mx),(122,Ahv),(116,A8i),(119,A8n)]
theorem puLc:Db Tryz.prog plLc:=puOk_cons is_vname.plain B0f (puOk_cons is_between2.plain q_between2 (puOk_cons is_lposts.plain A5k (puOk_cons is_lapart.plain B0p (puOk_cons is_cfHoop.plain Aqq (puOk_cons is_cfCell.plain Aqv puOk_nil)))))
abbrev TEr:=Tree (TCTs [cI])
def er (c:Bool) (e:Int) (k:TEr):TEr:=bif c then .leaf (e,()) else k
theorem O0 {a b:Bool} {e:Int} {k:TEr}:er (a||b) e k=er a e (er b e k):=by cases a <;> cases b <;> rfl
def B9q (l:TCT A5):TEr :=
 er (decide (((Bh l).length:Int)<1)) 6 (er (decide (((Bh l).length:Int)>12)) 6 (er (decide (((Dl l).length:Int)>256)) 6 (
 bif decide ((l.1.size:Int)≤Bl .i64) then er (!Ki l.1) 2 (er (!inR l.2.1 65536 4194304) 2 (er (!inR l.2.2.1 65536 4194304) 2 (er (!inR l.2.2.2.1 0 (W64 (Int.tdiv (min l.2.1 l.2.2.1) 4))) 2 (er (!inR (M6 l).2.1 1 8192) 2 (
  er (decide (nxL l<1)) 2 (er (decide (nxL l>16)) 2 (er (decide (nyL l<1)) 2 (er (decide (nyL l>16)) 2 (er (((Dl l).length:Int)!=W64 (nxL l*nyL l)) 2 (
  er ((Bh l).any (Es ())) 2 (er ((Dl l).any (Et ())) 2 (
  bif decide ((Bh l).length≤1000) then er (!apF l.2.1 l.2.2.1 (Bz l)) 2 (.leaf (0,())) else .fail))))))))))))
 else .fail)))
theorem L9 {α:Type} (p:α→Bool) (l:List α):l.any (fun x=>!p x)=!l.all p:=by
 induction l with
 | nil=>rfl
 | cons x l ih=>simp only [List.any_cons,List.all_cons,ih,Bool.not_and]
theorem B0q {l:TCT A5} (hs:(l.1.size:Int)≤Bl .i64):(B9q l).sat (fun y=>y=(Ck l,())):=by
 unfold B9q Ck
 rw [← O0,← O0,Bool.or_assoc]
 show (er (Nz l) 6 _).sat _
 cases hm:Nz l with
 | true=>exact rfl
 | false =>
  have h12:(Bh l).length≤1000:=by
   unfold Nz at hm
   simp only [Bool.or_eq_false_iff,decide_eq_false_iff_not] at hm
   omega
  rw [decide_eq_true hs,decide_eq_true h12]
  show (er (!Ki l.1) 2 _).sat (fun y=>y=((bif okL l then 0 else 2),()))
  have hh:(Bh l).any (Es ())=!(Bh l).all Gy:=L9 Gy _
  have hc:(Dl l).any (Et ())=!(Dl l).all Hx:=L9 Hx _
  rw [hh,hc]
  unfold okL Adw Adx
  simp only [cond_true]
  generalize Ki l.1=b1
  generalize inR l.2.1 65536 4194304=b2
  generalize inR l.2.2.1 65536 4194304=b3
  generalize inR l.2.2.2.1 0 (W64 (Int.tdiv (min l.2.1 l.2.2.1) 4))=b4
  generalize inR (M6 l).2.1 1 8192=b5
  generalize decide (nxL l<1)=b6
  generalize decide (nxL l>16)=b7
  generalize decide (nyL l<1)=b8
  generalize decide (nyL l>16)=b9
  generalize (((Dl l).length:Int)!=W64 (nxL l*nyL l))=b10
  generalize (Bh l).all Gy=b11
  generalize (Dl l).all Hx=b12
  generalize apF l.2.1 l.2.2.1 (Bz l)=b13
  cases b1 <;> try exact rfl
  cases b2 <;> try exact rfl
  cases b3 <;> try exact rfl
  cases b4 <;> try exact rfl
  cases b5 <;> try exact rfl
  cases b6 <;> try exact rfl
  cases b7 <;> try exact rfl
  cases b8 <;> try exact rfl
  cases b9 <;> try exact rfl
  cases b10 <;> try exact rfl
  cases b11 <;> try exact rfl
  cases b12 <;> try exact rfl
  cases b13 <;> exact rfl
theorem M7:A7 Tryz.prog 75 Qq:=C0 (B5 Aw puLc (fns_cons is_lCheck A0)) 7 (fun x=>B9q x.1) (fun x=>by kernel_rfl) fun x hok _=>B0q (of_decide_eq_true hok)
end St
end V
end Go.Proofs.YtcfanlgpkefogaaGreat
namespace Go.Proofs.YtcfanlgpkefogaaGreat
open Go.RowKit
namespace V
namespace St
theorem Oj {G E α:Type} {st:G→Tree (G⊕E)} (l:List α) (d:α) (hd:Int→G) (bad:α→Bool) (rt ex:E) (hl:(l.length:Int)≤Bl .i64)
  (h:∀ i:Int,st (hd i)=bif decide (i<(l.length:Int)) then bif decide (0≤i∧i<(l.length:Int)) then bif bad (Bc l (Int.toNat i) d) then .leaf (.inr rt) else .leaf (.inl (hd (W64 (i+1)))) else .fail else .leaf (.inr ex)) :
  iter st (l.length+1) (hd 0)=some (bif l.any bad then rt else ex):=by
 have hl':(l.length:Int)≤9223372036854775807:=hl
 have key:=G2 (st:=st) l (fun i (_:Unit)=>hd (i:Int)) (fun _ x _=>bif bad x then some (.inr rt) else some (.inl ())) (fun _=>some ex) (fun _ _=>True)
  (fun i s hi _=>by
   have hrun:(st (hd (i:Int))).run=some (bif bad l[i] then .inr rt else .inl (hd ((i+1:Nat):Int))):=by
    rw [h,decide_eq_true (show (i:Int)<(l.length:Int) by omega),decide_eq_true (show 0≤(i:Int)∧(i:Int)<(l.length:Int) by omega),show Int.toNat (i:Int)=i by omega,Ed hi,Bi (n:=(i:Int)+1) (by omega) (by omega)]
    cases bad l[i] <;> rfl
   cases hb:bad l[i] with
   | true=>rw [hb] at hrun;simp only [cond_true];exact hrun
   | false=>rw [hb] at hrun;simp only [cond_false];exact ⟨hrun,trivial⟩)
  (fun s e _ he=>by
   cases he
   rw [h,decide_eq_false (show ¬ (l.length:Int)<(l.length:Int) by omega)]
   rfl)
  l.length 0 () (bif l.any bad then rt else ex) (l.length+1) (by omega) (by omega) trivial (by rw [List.drop_zero];exact Uy bad (fun _=>rt) ex _ 0)
 exact key
theorem Z5 {G E α:Type} {st:G→Tree (G⊕E)} (l:List α) (d:α) (hd:Int→G) (ok:Nat→α→Bool) (body:Int→α→Tree (G⊕E)) (rt ex:E) (hl:(l.length:Int)≤Bl .i64)
  (h:∀ i:Int,st (hd i)=bif decide (i<(l.length:Int)) then bif decide (0≤i∧i<(l.length:Int)) then body i (Bc l (Int.toNat i) d) else .fail else .leaf (.inr ex))
  (hb:∀ (i:Nat) (hi:i<l.length),(body (i:Int) l[i]).run=some (bif ok i l[i] then .inl (hd ((i+1:Nat):Int)) else .inr rt)) :
  iter st (l.length+1) (hd 0)=some (bif Ip ok 0 l then ex else rt):=by
 have hl':(l.length:Int)≤9223372036854775807:=hl
 have key:=G2 (st:=st) l (fun i (_:Unit)=>hd (i:Int)) (fun i x _=>bif ok i x then some (.inl ()) else some (.inr rt)) (fun _=>some ex) (fun _ _=>True)
  (fun i s hi _=>by
   have hrun:(st (hd (i:Int))).run=some (bif ok i l[i] then .inl (hd ((i+1:Nat):Int)) else .inr rt):=by
    rw [h,decide_eq_true (show (i:Int)<(l.length:Int) by omega),decide_eq_true (show 0≤(i:Int)∧(i:Int)<(l.length:Int) by omega),show Int.toNat (i:Int)=i by omega,Ed hi]
    exact hb i hi
   cases hk:ok i l[i] with
   | true=>rw [hk] at hrun;simp only [cond_true];exact ⟨hrun,trivial⟩
   | false=>rw [hk] at hrun;simp only [cond_false];exact hrun)
  (fun s e _ he=>by
   cases he
   rw [h,decide_eq_false (show ¬ (l.length:Int)<(l.length:Int) by omega)]
   rfl)
  l.length 0 () (bif Ip ok 0 l then ex else rt) (l.length+1) (by omega) (by omega) trivial (by rw [List.drop_zero];exact Z3 ok rt ex _ 0)
 exact key
def plRc:List (Nat×PureT):=[]
theorem puRc:Db Tryz.prog plRc:=puOk_nil
abbrev bL:BK:=(0,36,kLw)
def Ady:Lay:={ keys:=[1,3],ks:=[.p 0 0 0 0,.d cI],bs:=[bL],n:=224,nx:=1000,marks:=[] }
def A96:Lay:={ keys:=[1],ks:=[.p 0 0 0 0],bs:=[bL],n:=224,nx:=1000,marks:=[] }
def Bjw:Lay:={ keys:=[2],ks:=[.d cI],bs:=[],n:=224,nx:=1000,marks:=[] }
def Va:XE→Lay:=fun e=>match e with | .ret=>Bjw | _=>A96
def Aru (x:SKTs kLw) (i:Int):Ady.T:=(((),i,()),(x,()))
def A3n:A1 Va:=⟨.ret,((2,()),())⟩
def Arv (x:SKTs kLw):A1 Va:=⟨.exit 0,(((),()),(x,()))⟩
def Bjx (h:TCT C9):TCT C9:=(h.1,h.2.1,h.2.2.1,h.2.2.2.1,h.2.2.2.2.1,())
def hsX (x:SKTs kLw):List (TCT C9):=x.2.2.2.2.1
def csX (x:SKTs kLw):List (TCT De):=x.2.2.2.2.2.2.2.2.2.2.1
def Ahx (g:Ady.T):Tree (Ady.T⊕A1 Va):=bif decide (g.1.2.1<((hsX g.2.1).length:Int)) then bif decide (0≤g.1.2.1∧g.1.2.1<((hsX g.2.1).length:Int)) then
 bif !Gy (Bjx (Bc (hsX g.2.1) (Int.toNat g.1.2.1) (B7 C9))) then .leaf (.inr A3n) else .leaf (.inl (Aru g.2.1 (W64 (g.1.2.1+1)))) else .fail else .leaf (.inr (Arv g.2.1))
def Arw (g:Ady.T):Nat:=(hsX g.2.1).length+1
def Adz:Lay:={ keys:=[1,4],ks:=[.p 0 0 0 0,.d cI],bs:=[bL],n:=224,nx:=1000,marks:=[] }
def Arx (x:SKTs kLw) (i:Int):Adz.T:=(((),i,()),(x,()))
def Ary (x:SKTs kLw):A1 Va:=⟨.exit 2,(((),()),(x,()))⟩
def Ahy (g:Adz.T):Tree (Adz.T⊕A1 Va):=bif decide (g.1.2.1<((csX g.2.1).length:Int)) then bif decide (0≤g.1.2.1∧g.1.2.1<((csX g.2.1).length:Int)) then
 bif !Hx (Bc (csX g.2.1) (Int.toNat g.1.2.1) (B7 De)) then .leaf (.inr A3n) else .leaf (.inl (Arx g.2.1 (W64 (g.1.2.1+1)))) else .fail else .leaf (.inr (Ary g.2.1))
def Arz (g:Adz.T):Nat:=(csX g.2.1).length+1
end St
end V
end Go.Proofs.YtcfanlgpkefogaaGreat
namespace Go.Proofs.YtcfanlgpkefogaaGreat
open Go.RowKit
namespace V
namespace St
def A97:Lay:={ keys:=[1,5,6,7],ks:=[.p 0 0 0 0,.d (.sl A2),.d cI,.d cI],bs:=[bL],n:=224,nx:=2000,marks:=[] }
def Bf8:Lay:={ keys:=[1,5,6],ks:=[.p 0 0 0 0,.d (.sl A2),.d cI],bs:=[bL],n:=224,nx:=2000,marks:=[] }
def B73:Lay:={ keys:=[2],ks:=[.d cI],bs:=[],n:=224,nx:=2000,marks:=[] }
def A5q:XE→Lay:=fun e=>match e with | .ret=>B73 | _=>Bf8
def Z6:Lay:={ keys:=[1,5,6],ks:=[.p 0 0 0 0,.d (.sl A2),.d cI],bs:=[bL],n:=224,nx:=1000,marks:=[] }
def Bk0:Lay:={ keys:=[],ks:=[],bs:=[],n:=224,nx:=2000,marks:=[] }
def A98:XE→Lay:=fun e=>match e with | .ret=>B73 | _=>Bk0
def sqR (a b:TCT A2):Int:=W64 (W64 (W64 (a.1.1-b.1.1)*W64 (a.1.1-b.1.1))+W64 (W64 (a.1.2.1-b.1.2.1)*W64 (a.1.2.1-b.1.2.1)))
def A2r (d o:TCT A2):Bool:=decide (sqR d o<srD d o)
def inP {β:Type} (p:List (TCT A2)) (i:Int) (k:Tree β):Tree β:=bif decide (0≤i∧i<(p.length:Int)) then k else .fail
theorem Hy {β:Type} {p:List (TCT A2)} {i:Int} {k:Tree β} (h:0≤i∧i<(p.length:Int)):inP p i k=k:=by unfold inP;rw [decide_eq_true h];rfl
def gD (p:List (TCT A2)) (i:Int):TCT A2:=Bc p (Int.toNat i) (B7 A2)
def Ahz (x:SKTs kLw) (p:List (TCT A2)) (i k:Int):A97.T:=(((),p,i,k,()),(x,()))
def Ai0:A1 A5q:=⟨.ret,((2,()),())⟩
def Ai1 (x:SKTs kLw) (p:List (TCT A2)) (i:Int):A1 A5q:=⟨.exit 6,(((),p,i,()),(x,()))⟩
def Ae0 (x:SKTs kLw) (p:List (TCT A2)) (i k:Int):Tree (A97.T⊕A1 A5q):=bif decide (k<i) then
 inP p i (inP p k (inP p i (inP p k (inP p i (inP p k (inP p i (inP p k (bif A2r (gD p i) (gD p k) then .leaf (.inr Ai0) else .leaf (.inl (Ahz x p i (W64 (k+1)))))))))))) else .leaf (.inr (Ai1 x p i))
def A99 (g:A97.T):Tree (A97.T⊕A1 A5q):=Ae0 g.2.1 g.1.2.1 g.1.2.2.1 g.1.2.2.2.1
def As0 (g:A97.T):Nat:=(List.take (Int.toNat g.1.2.2.1) (g.1.2.1:List (TCT A2))).length+1
theorem B0r (x:SKTs kLw) (p:List (TCT A2)) (i:Nat) (hi:i<p.length) (hp:(p.length:Int)≤Bl .i64) :
  iter A99 ((p.take i).length+1) (Ahz x p i 0)=some (bif (p.take i).any (A2r p[i]) then Ai0 else Ai1 x p i):=by
 have ht:(p.take i).length=i:=by rw [List.length_take];omega
 have hp':(p.length:Int)≤9223372036854775807:=hp
 refine Oj (p.take i) (B7 A2) (fun k=>Ahz x p i k) (A2r p[i]) Ai0 (Ai1 x p i) (by rw [ht];show (i:Int)≤9223372036854775807;omega) fun k=>?_
 show Ae0 x p i k=_
 unfold Ae0
 rw [ht]
 by_cases hk:k<(i:Int)
 ·rw [decide_eq_true hk,cond_true,cond_true]
  by_cases h0:0≤k
  ·have hki:0≤k∧k<(p.length:Int):=by omega
   have hii:0≤(i:Int)∧(i:Int)<(p.length:Int):=by omega
   have e1:gD p (i:Int)=p[i]:=by unfold gD;rw [show Int.toNat (i:Int)=i by omega,Ed hi]
   have e2:gD p k=Bc (p.take i) (Int.toNat k) (B7 A2):=by
    unfold gD
    have h1:Int.toNat k<p.length:=by omega
    have h2:Int.toNat k<(p.take i).length:=by omega
    rw [Ed h1,Ed h2,List.getElem_take]
   rw [Hy hii,Hy hki,Hy hii,Hy hki,Hy hii,Hy hki,Hy hii,Hy hki,e1,e2,decide_eq_true (show 0≤k∧k<(i:Int) by omega)]
   rfl
  ·have hii:0≤(i:Int)∧(i:Int)<(p.length:Int):=by omega
   rw [Hy hii,decide_eq_false (show ¬ (0≤k∧k<(i:Int)) by omega)]
   unfold inP
   rw [decide_eq_false (show ¬ (0≤k∧k<(p.length:Int)) by omega)]
   rfl
 ·rw [decide_eq_false hk];rfl
def Ai2 (x:SKTs kLw) (p:List (TCT A2)) (i:Int):Z6.T:=(((),p,i,()),(x,()))
def A3o (e:Int):A1 A98:=⟨.ret,((e,()),())⟩
def Ai3:A1 A98:=⟨.exit 4,((),())⟩
abbrev TC3:=Tree (Z6.T⊕A1 A98)
def B9r (x:SKTs kLw) (p:List (TCT A2)) (i:Int):Option (A1 A5q):=iter A99 ((p.take (Int.toNat i)).length+1) (Ahz x p i 0)
def Bf9 (r:Bf8.T):Z6.T:=Ai2 r.2.1 r.1.2.1 (W64 (r.1.2.2.1+1))
def Bfa (y:Option (A1 A5q)):TC3:=bif isE .ret y then .leaf (.inr (A3o (D4 .ret y).1.1)) else bif isE (.exit 6) y then .leaf (.inl (Bf9 (D4 (.exit 6) y))) else .fail
def As1 (x:SKTs kLw) (p:List (TCT A2)) (i:Int) (d:TCT A2):TC3 :=
 inP p i (inP p i (bif !inR d.1.1 d.2.1 (W64 (x.2.1-d.2.1)) then .leaf (.inr (A3o 2)) else inP p i (inP p i (inP p i (bif !inR d.1.2.1 d.2.1 (W64 (x.2.2.1-d.2.1)) then .leaf (.inr (A3o 2)) else Bfa (B9r x p i))))))
def A9a (g:Z6.T):TC3:=bif decide (g.1.2.2.1<((g.1.2.1:List (TCT A2)).length:Int)) then bif decide (0≤g.1.2.2.1∧g.1.2.2.1<((g.1.2.1:List (TCT A2)).length:Int)) then As1 g.2.1 g.1.2.1 g.1.2.2.1 (gD g.1.2.1 g.1.2.2.1) else .fail else .leaf (.inr Ai3)
def As2 (g:Z6.T):Nat:=(g.1.2.1:List (TCT A2)).length+1
def B74:Ld:=fun k=>bif Nat.beq k 24 then some (B8 A97 A5q (Dy [.ret,.exit 6] A99 As0)) else none
end St
end V
end Go.Proofs.YtcfanlgpkefogaaGreat
namespace Go.Proofs.YtcfanlgpkefogaaGreat
open Go.RowKit
namespace V
namespace St
def As7 (x:SKTs kLw):Option (A1 Va):=iter Ahx ((hsX x).length+1) (Aru x 0)
def As8 (x:SKTs kLw):Option (A1 Va):=iter Ahy ((csX x).length+1) (Arx x 0)
def As9 (x:SKTs kLw) (p:List (TCT A2)):Option (A1 A98):=iter A9a (p.length+1) (Ai2 x p 0)
def Asa (r:A96.T):TEr:=bif decide ((hsX r.2.1).length≤1000) then
 bif isE .ret (As9 r.2.1 (Bz (O8 r.2.1))) then .leaf ((D4 .ret (As9 r.2.1 (Bz (O8 r.2.1)))).1.1,()) else bif isE (.exit 4) (As9 r.2.1 (Bz (O8 r.2.1))) then .leaf (0,()) else .fail else .fail
def Asb (r:A96.T):TEr:=er (!inR (M6 (O8 r.2.1)).2.1 1 8192) 2 (er (!inR (M6 (O8 r.2.1)).1.1 0 4194304) 2 (er (!inR (M6 (O8 r.2.1)).1.2.1 0 4194304) 2 (
 er (decide (nxL (O8 r.2.1)<1)) 2 (er (decide (nxL (O8 r.2.1)>16)) 2 (er (decide (nyL (O8 r.2.1)<1)) 2 (er (decide (nyL (O8 r.2.1)>16)) 2 (er (((csX r.2.1).length:Int)!=W64 (nxL (O8 r.2.1)*nyL (O8 r.2.1))) 2 (
 bif isE .ret (As8 r.2.1) then .leaf ((D4 .ret (As8 r.2.1)).1.1,()) else bif isE (.exit 2) (As8 r.2.1) then Asa (D4 (.exit 2) (As8 r.2.1)) else .fail))))))))
def B0t (l:TCT A5):TEr :=
 er (decide (((Bh l).length:Int)<1)) 6 (er (decide (((Bh l).length:Int)>12)) 6 (er (decide (((Dl l).length:Int)>256)) 6 (
 bif decide ((l.1.size:Int)≤Bl .i64) then er (!Ki l.1) 2 (er (!inR l.2.1 65536 4194304) 2 (er (!inR l.2.2.1 65536 4194304) 2 (er (!inR l.2.2.2.1 0 (W64 (Int.tdiv (min l.2.1 l.2.2.1) 4))) 2 (
  bif isE .ret (As7 (Ev l)) then .leaf ((D4 .ret (As7 (Ev l))).1.1,()) else bif isE (.exit 0) (As7 (Ev l)) then Asb (D4 (.exit 0) (As7 (Ev l))) else .fail))))
 else .fail)))
end St
end V
end Go.Proofs.YtcfanlgpkefogaaGreat
namespace Go.Proofs.YtcfanlgpkefogaaGreat
open Go.RowKit
namespace V
namespace St
def apR (w l:Int) (p:List (TCT A2)):Bool:=Ip (fun i d=>Rk w l d&&!(p.take i).any (A2r d)) 0 p
theorem B0v (x:SKTs kLw) (hl:((hsX x).length:Int)≤Bl .i64):As7 x=some (bif (hsX x).any (fun h=>!Gy h) then A3n else Arv x) :=
 Oj (hsX x) (B7 C9) (Aru x) (fun h=>!Gy h) A3n (Arv x) hl (fun _=>rfl)
theorem B0w (x:SKTs kLw) (hl:((csX x).length:Int)≤Bl .i64):As8 x=some (bif (csX x).any (fun h=>!Hx h) then A3n else Ary x) :=
 Oj (csX x) (B7 De) (Arx x) (fun h=>!Hx h) A3n (Ary x) hl (fun _=>rfl)
theorem B0x (x:SKTs kLw) (p:List (TCT A2)) (hp:(p.length:Int)≤Bl .i64):As9 x p=some (bif apR x.2.1 x.2.2.1 p then Ai3 else A3o 2):=by
 have hp':(p.length:Int)≤9223372036854775807:=hp
 refine Z5 p (B7 A2) (Ai2 x p) (fun i d=>Rk x.2.1 x.2.2.1 d&&!(p.take i).any (A2r d)) (As1 x p) (A3o 2) Ai3 hp (fun _=>rfl) fun i hi=>?_
 have hii:0≤(i:Int)∧(i:Int)<(p.length:Int):=by omega
 unfold As1 Rk
 rw [Hy hii,Hy hii,Hy hii,Hy hii,Hy hii]
 cases inR p[i].1.1 p[i].2.1 (W64 (x.2.1-p[i].2.1)) with
 | false=>rfl
 | true =>
  cases inR p[i].1.2.1 p[i].2.1 (W64 (x.2.2.1-p[i].2.1)) with
  | false=>rfl
  | true =>
   have hy:B9r x p (i:Int)=some (bif (p.take i).any (A2r p[i]) then Ai0 else Ai1 x p i):=by
    unfold B9r
    rw [show Int.toNat (i:Int)=i by omega]
    exact B0r x p i hi hp
   simp only [Bool.not_true,cond_false,Bool.true_and]
   rw [hy]
   cases (p.take i).any (A2r p[i]) with
   | true=>rfl
   | false =>
    show (Tree.leaf (Sum.inl (Ai2 x p (W64 ((i:Int)+1)))):TC3).run=_
    rw [Bi (n:=(i:Int)+1) (by omega) (by omega)]
    rfl
def B0y (l:TCT A5):Bool:=inR (M6 l).2.1 1 8192&&(inR (M6 l).1.1 0 4194304&&inR (M6 l).1.2.1 0 4194304)
def okR (l:TCT A5):Bool:=Adw l&&((Bh l).all Gy&&(B0y l&&(Adx l&&((Dl l).all Hx&&apR l.2.1 l.2.2.1 (Bz l)))))
def B0z (l:TCT A5):Int:=bif Nz l then 6 else bif okR l then 0 else 2
theorem Vb {l:TCT A5}:(Bz l).length=2*(Bh l).length+1:=by
 unfold Bz
 rw [List.length_append,Ta]
 rfl
theorem Bfc {l:TCT A5} (h12:(Bh l).length≤1000):(Asa (((),()),(Ev l,()))).sat (fun y=>y=((bif apR l.2.1 l.2.2.1 (Bz l) then (0:Int) else 2),())):=by
 unfold Asa
 have e:O8 (((((),()),(Ev l,())):A96.T).2.1)=l:=rfl
 have e2:hsX (((((),()),(Ev l,())):A96.T).2.1)=Bh l:=rfl
 have hy:As9 (((((),()),(Ev l,())):A96.T).2.1) (Bz l)=some (bif apR l.2.1 l.2.2.1 (Bz l) then Ai3 else A3o 2):=B0x (Ev l) (Bz l) (by rw [Vb];simp only [Bl];omega)
 rw [e,e2,decide_eq_true h12,hy]
 cases apR l.2.1 l.2.2.1 (Bz l) <;> exact rfl
theorem My {a b:Bool} {k:TEr} (h:k.sat (fun y=>y=((bif b then (0:Int) else 2),()))):(er (!a) 2 k).sat (fun y=>y=((bif a&&b then (0:Int) else 2),())):=by
 cases a with
 | true=>exact h
 | false=>exact rfl
theorem Ol {a b:Bool} {k:TEr} (h:k.sat (fun y=>y=((bif b then (0:Int) else 2),()))):(er a 2 k).sat (fun y=>y=((bif !a&&b then (0:Int) else 2),())):=by
 cases a with
 | true=>exact rfl
 | false=>exact h
theorem Bfd {l:TCT A5} (h12:(Bh l).length≤1000) (hc:((Dl l).length:Int)≤Bl .i64):(Asb (((),()),(Ev l,()))).sat (fun y=>y=((bif B0y l&&(Adx l&&((Dl l).all Hx&&apR l.2.1 l.2.2.1 (Bz l))) then (0:Int) else 2),())):=by
 unfold Asb B0y Adx
 have e:O8 (((((),()),(Ev l,())):A96.T).2.1)=l:=rfl
 have e2:csX (((((),()),(Ev l,())):A96.T).2.1)=Dl l:=rfl
 rw [e,e2]
 simp only [Bool.and_assoc]
 refine My (My (My (Ol (Ol (Ol (Ol (Ol ?_)))))))
 rw [B0w (Ev l) hc]
 have hq:(csX (Ev l)).any (fun h=>!Hx h)=!(Dl l).all Hx:=L9 Hx _
 rw [hq]
 cases (Dl l).all Hx with
 | false=>exact rfl
 | true=>exact Bfc h12
theorem B10 {l:TCT A5} (hs:(l.1.size:Int)≤Bl .i64) (hh:((Bh l).length:Int)≤Bl .i64) (hc:((Dl l).length:Int)≤Bl .i64):(B0t l).sat (fun y=>y=(B0z l,())):=by
 unfold B0t B0z
 rw [← O0,← O0,Bool.or_assoc]
 show (er (Nz l) 6 _).sat _
 cases hm:Nz l with
 | true=>exact rfl
 | false =>
  have h12:(Bh l).length≤1000:=by
   unfold Nz at hm
   simp only [Bool.or_eq_false_iff,decide_eq_false_iff_not] at hm
   omega
  rw [decide_eq_true hs]
  show (er (!Ki l.1) 2 _).sat (fun y=>y=((bif okR l then (0:Int) else 2),()))
  unfold okR Adw
  simp only [Bool.and_assoc]
  refine My (My (My (My ?_)))
  rw [B0v (Ev l) hh]
  have hq:(hsX (Ev l)).any (fun h=>!Gy h)=!(Bh l).all Gy:=L9 Gy _
  rw [hq]
  cases (Bh l).all Gy with
  | false=>exact rfl
  | true=>exact Bfd h12 hc
end St
end V
end Go.Proofs.YtcfanlgpkefogaaGreat
namespace Go.Proofs.YtcfanlgpkefogaaGreat
open Go.RowKit
namespace V
namespace St
theorem F3 {x lo hi:Int}:inR x lo hi=true ↔ lo≤x∧x≤hi:=by unfold inR;simp only [Bool.and_eq_true,decide_eq_true_eq]
theorem Ai4 {α:Type} {p:List α} {ok1 ok2:Nat→α→Bool} (ins:α→Bool) (h:∀ (i:Nat) (hi:i<p.length),(∀ o ∈ p.take i,ins o=true)→ok1 i p[i]=ok2 i p[i]) (h1:∀ i x,ok1 i x=true→ins x=true) :
  ∀ (k i:Nat),i+k=p.length→(∀ o ∈ p.take i,ins o=true)→Ip ok1 i (p.drop i)=Ip ok2 i (p.drop i)
 | 0,i,hk,_=>by
  rw [List.drop_eq_nil_of_le (by omega)];rfl
 | k+1,i,hk,hp=>by
  have hi:i<p.length:=by omega
  rw [List.drop_eq_getElem_cons hi]
  simp only [Ip]
  rw [← h i hi hp]
  cases ho:ok1 i p[i] with
  | false=>rfl
  | true =>
   rw [Bool.true_and,Bool.true_and]
   refine Ai4 ins h h1 k (i+1) (by omega) fun o hm=>?_
   rw [List.take_succ_eq_append_getElem hi,List.mem_append,List.mem_singleton] at hm
   rcases hm with hm | rfl
   ·exact hp o hm
   ·exact h1 i _ ho
theorem A9b {α:Type} {ok:Nat→α→Bool}:∀ (l:List α) (i:Nat),Ip ok i l=true→∀ x ∈ l,∃ j,ok j x=true
 | y::l,i,h,x,hx=>by
  simp only [Ip,Bool.and_eq_true] at h
  rcases List.mem_cons.1 hx with rfl | hx
  ·exact ⟨i,h.1⟩
  ·exact A9b l (i+1) h.2 x hx
structure On (d:TCT A2):Prop where
 x:0≤d.1.1∧d.1.1≤4194304
 y:0≤d.1.2.1∧d.1.2.1≤4194304
 r:1≤d.2.1∧d.2.1≤8192
theorem B11 {x y r w l:Int} (hw:0≤w∧w≤4194304) (hl:0≤l∧l≤4194304) (hr:1≤r∧r≤8192) (h:(r≤x∧x≤W64 (w-r))∧r≤y∧y≤W64 (l-r)):(0≤x∧x≤4194304)∧0≤y∧y≤4194304:=by
 rw [Bi (n:=w-r) (by omega) (by omega),Bi (n:=l-r) (by omega) (by omega)] at h
 omega
theorem Asd {w l:Int} (hw:0≤w∧w≤4194304) (hl:0≤l∧l≤4194304) {d:TCT A2} (hr:1≤d.2.1∧d.2.1≤8192) (h:Rk w l d=true):On d:=by
 unfold Rk at h
 simp only [Bool.and_eq_true,F3] at h
 obtain ⟨h1,h2⟩:=B11 hw hl hr h
 exact ⟨h1,h2,hr⟩
theorem Ase {x y r:Int} (hx:0≤x∧x≤4194304) (hy:0≤y∧y≤4194304) (hr:1≤r∧r≤8192):A0g x y r=0:=by
 unfold A0g Lx fpt Bs
 rw [decide_eq_true (show -4194304≤x∧x≤4194304 ∧ -4194304≤y∧y≤4194304 by omega),decide_eq_false (show ¬ r<1 by omega),decide_eq_false (show ¬ 65536<r by omega)]
 rfl
theorem Asf {a b:Int} (ha:0≤a∧a≤4194304) (hb:0≤b∧b≤4194304):W64 (b-a)*W64 (b-a)=W64 (a-b)*W64 (a-b):=by
 rw [Bi (n:=b-a) (by omega) (by omega),Bi (n:=a-b) (by omega) (by omega)]
 grind
theorem B9v {d o:TCT A2} (hd:On d) (ho:On o):touB d o=A2r d o:=by
 have e:sqD d o=sqR d o:=by
  unfold sqD sqR
  rw [Asf hd.x ho.x,Asf hd.y ho.y]
 have c1:cdE d=0:=Ase hd.x hd.y hd.r
 have c2:cdE o=0:=Ase ho.x ho.y ho.r
 unfold touB A2r Amd
 rw [c1,c2,e]
 show decide (B0k (sqR d o) (srD d o)<0)=_
 unfold B0k
 by_cases h:sqR d o<srD d o
 ·rw [decide_eq_true h];rfl
 ·rw [decide_eq_false h,cond_false]
  cases decide (sqR d o>srD d o) <;> rfl
theorem Pr {α:Type} {p q:α→Bool}:∀ {l:List α},(∀ x ∈ l,p x=q x)→l.any p=l.any q
 | [],_=>rfl
 | x::l,h=>by rw [List.any_cons,List.any_cons,h x (List.mem_cons_self ..),Pr fun y hy=>h y (List.mem_cons_of_mem _ hy)]
theorem Bfe {w l:Int} (hw:0≤w∧w≤4194304) (hl:0≤l∧l≤4194304) {p:List (TCT A2)} (hr:∀ d ∈ p,1≤d.2.1∧d.2.1≤8192):apF w l p=apR w l p:=by
 have key:=Ai4 (p:=p) (ok1:=fun i d=>Rk w l d&&!(p.take i).any (touB d)) (ok2:=fun i d=>Rk w l d&&!(p.take i).any (A2r d)) (Rk w l)
  (fun i hi hp=>by
   cases hi':Rk w l p[i] with
   | false=>rfl
   | true =>
    have hd:=Asd hw hl (hr _ (List.getElem_mem hi)) hi'
    rw [Pr fun o ho=>B9v hd (Asd hw hl (hr o (List.mem_of_mem_take ho)) (hp o ho))])
  (fun i x h=>by simp only [Bool.and_eq_true] at h;exact h.1) p.length 0 (by omega) (fun o ho=>by rw [List.take_zero] at ho;cases ho)
 rw [List.drop_zero] at key
 exact key
theorem Bk5 {h:TCT C9} {d:TCT A2} (hd:d ∈ w2 h):d.2.1=h.2.2.2.1:=by
 unfold w2 at hd
 cases hb:h.2.2.2.2.1 with
 | true =>
  rw [hb] at hd
  have hd:d ∈ [Qi h.1 (W64 (h.2.1-dW h)) h.2.2.2.1,Qi h.1 (W64 (h.2.1+dW h)) h.2.2.2.1]:=hd
  rcases List.mem_cons.1 hd with rfl | hd
  ·rfl
  ·rw [List.mem_singleton] at hd;subst hd;rfl
 | false =>
  rw [hb] at hd
  have hd:d ∈ [Qi (W64 (h.1-dW h)) h.2.1 h.2.2.2.1,Qi (W64 (h.1+dW h)) h.2.1 h.2.2.2.1]:=hd
  rcases List.mem_cons.1 hd with rfl | hd
  ·rfl
  ·rw [List.mem_singleton] at hd;subst hd;rfl
theorem B12 {l:TCT A5} (hh:(Bh l).all Gy=true) (hp:inR (M6 l).2.1 1 8192=true):∀ d ∈ Bz l,1≤d.2.1∧d.2.1≤8192:=by
 intro d hd
 unfold Bz at hd
 rw [List.mem_append,List.mem_singleton,List.mem_flatMap] at hd
 rcases hd with ⟨h,hm,hd⟩ | rfl
 ·have:=List.all_eq_true.1 hh h hm
  unfold Gy at this
  simp only [Bool.and_eq_true,F3] at this
  rw [Bk5 hd]
  exact this.2.2.2.2
 ·exact F3.1 hp
theorem Asg (l:TCT A5):B0z l=Ck l:=by
 unfold B0z Ck
 congr 2
 unfold okR okL
 cases hd:Adw l with
 | false=>rfl
 | true =>
  have hd':=hd
  unfold Adw at hd'
  simp only [Bool.and_eq_true,F3] at hd'
  obtain ⟨_,⟨w1,w2'⟩,⟨l1,l2⟩,_⟩:=hd'
  have hw:0≤l.2.1∧l.2.1≤4194304:=⟨Int.le_trans (by decide) w1,w2'⟩
  have hl:0≤l.2.2.1∧l.2.2.1≤4194304:=⟨Int.le_trans (by decide) l1,l2⟩
  unfold B0y
  cases hh:(Bh l).all Gy with
  | false=>cases inR (M6 l).2.1 1 8192 <;> cases Adx l <;> rfl
  | true =>
   cases hp:inR (M6 l).2.1 1 8192 with
   | false=>rfl
   | true =>
    have hr:=B12 hh hp
    rw [← Bfe hw hl hr]
    cases ha:apF l.2.1 l.2.2.1 (Bz l) with
    | false=>simp
    | true =>
     obtain ⟨j,hj⟩:=A9b (Bz l) 0 ha (M6 l) (by unfold Bz;simp)
     simp only [Bool.and_eq_true] at hj
     have on:=Asd hw hl (F3.1 hp) hj.1
     have e1:inR (M6 l).1.1 0 4194304=true:=F3.2 on.x
     have e2:inR (M6 l).1.2.1 0 4194304=true:=F3.2 on.y
     rw [e1,e2]
     simp
end St
end V
end Go.Proofs.YtcfanlgpkefogaaGreat
namespace Go.Proofs.YtcfanlgpkefogaaGreat
open Go.RowKit
namespace V
namespace St
theorem is_Posts:FnIs Tryz.prog (25,Tryz.f25):=⟨Tryz.func25,by kernel_rfl,by kernel_rfl⟩
def plPs:List (Nat×PureT):=[(75,Qq),(74,Mx)]
theorem puPs:Db Tryz.prog plPs:=puOk_cons is_lCheck.plain M7 (puOk_cons is_lposts.plain A5k (puOk_nil))
def Iq (l:TCT A5):List (TCT A2):=bif Ck l==0 then Bz l else []
abbrev A5r:PureT:=Bv [A5] [.sl A2,cI] (fun x=>decide ((x.1.1.size:Int)≤Bl .i64)) (fun x=>(Iq x.1,Ck x.1,()))
abbrev TPs:=Tree (TCTs [.sl A2,cI])
def szT {β:Type} (l:TCT A5) (k:Tree β):Tree β:=bif decide ((l.1.size:Int)≤Bl .i64) then k else .fail
theorem Dg {β:Type} {l:TCT A5} {k:Tree β} (h:(l.1.size:Int)≤Bl .i64):szT l k=k:=by unfold szT;rw [decide_eq_true h];rfl
def Ai5 (l:TCT A5):TPs:=bif decide ((Bh l).length≤1000) then .leaf (Bz l,0,()) else .fail
def B9w (l:TCT A5):TPs:=szT l (bif Ck l != 0 then .leaf ([],Ck l,()) else Ai5 l)
theorem Td {l:TCT A5} (h:Ck l=0):(Bh l).length≤12∧1≤(Bh l).length:=by
 unfold Ck at h
 cases hm:Nz l with
 | true=>rw [hm] at h;cases h
 | false =>
  unfold Nz at hm
  simp only [Bool.or_eq_false_iff,decide_eq_false_iff_not] at hm
  omega
theorem Asi {l:TCT A5} (h:Ck l=0):(Ai5 l).sat (fun y=>y=(Iq l,Ck l,())):=by
 have:=Td h
 unfold Ai5 Iq
 rw [decide_eq_true (show (Bh l).length≤1000 by omega),h]
 exact rfl
theorem Bff {l:TCT A5}:(bif Ck l != 0 then .leaf ([],Ck l,()) else Ai5 l:TPs).sat (fun y=>y=(Iq l,Ck l,())):=by
 cases h:Ck l==0 with
 | true =>
  have h':Ck l=0:=by simpa using h
  rw [show (Ck l != 0)=false by simp [h']]
  exact Asi h'
 | false =>
  rw [show (Ck l != 0)=true by simpa using h]
  unfold Iq
  rw [h]
  exact rfl
theorem Ai6:A7 Tryz.prog 25 A5r:=C0 (B5 Aw puPs (fns_cons is_Posts A0)) 7 (fun x=>B9w x.1) (fun x=>by kernel_rfl) fun x hok _=>by
 show (B9w x.1).sat _
 unfold B9w
 rw [Dg (of_decide_eq_true hok)]
 exact Bff
end St
end V
end Go.Proofs.YtcfanlgpkefogaaGreat
namespace Go.Proofs.YtcfanlgpkefogaaGreat
open Go.RowKit
namespace V
namespace St
theorem is_CellAt:FnIs Tryz.prog (18,Tryz.f18):=⟨Tryz.func18,by kernel_rfl,by kernel_rfl⟩
theorem is_lchk:FnIs Tryz.prog (57,Tryz.f57):=⟨Tryz.func57,by kernel_rfl,by kernel_rfl⟩
theorem is_lon:FnIs Tryz.prog (58,Tryz.f58):=⟨Tryz.func58,by kernel_rfl,by kernel_rfl⟩
def onB (l:TCT A5) (p:TCT cPt):Bool:=inR p.1 0 l.2.1&&inR p.2.1 0 l.2.2.1
def Wo (l:TCT A5) (p:TCT cPt):Int:=W64 (W64 (min (W64 (Int.tdiv (W64 (p.2.1*nyL l)) l.2.2.1)) (W64 (nyL l-1))*nxL l)+min (W64 (Int.tdiv (W64 (p.1*nxL l)) l.2.1)) (W64 (nxL l-1)))
def B13 (c:TCT De):TCT De:=(c.1,c.2.1,c.2.2.1,())
def zCe:TCT De:=(0,0,0,())
def Gc (l:TCT A5) (p:TCT cPt):Int:=bif Ck l != 0 then Ck l else bif fpt p.1 p.2.1 then 0 else 2
def G5 (l:TCT A5) (p:TCT cPt):Int:=bif Gc l p != 0 then Gc l p else bif onB l p then 0 else 5
def La (l:TCT A5) (p:TCT cPt):TCT De:=bif G5 l p==0 then B13 (Bc (Dl l) (Int.toNat (Wo l p)) (B7 De)) else zCe
abbrev A9c:PureT:=Bv [A5,cPt] [De,cI] (fun x=>decide ((x.1.1.size:Int)≤Bl .i64)) (fun x=>(((La x.1 x.2.1).1,(La x.1 x.2.1).2.1,(La x.1 x.2.1).2.2.1,()),G5 x.1 x.2.1,()))
abbrev TCe:=Tree (TCTs [De,cI])
def Vd (e:Int):TCe:=.leaf (zCe,e,())
def Asj (l:TCT A5) (p:TCT cPt):TCe:=bif l.2.1 != 0 then bif l.2.2.1 != 0 then bif decide (0≤Wo l p∧Wo l p<((Dl l).length:Int)) then .leaf (B13 (Bc (Dl l) (Int.toNat (Wo l p)) (B7 De)),0,()) else .fail else .fail else .fail
def A3p (l:TCT A5) (p:TCT cPt):TCe:=bif inR p.1 0 l.2.1 then bif !inR p.2.1 0 l.2.2.1 then Vd 5 else Asj l p else Vd 5
def B14 (l:TCT A5) (p:TCT cPt):TCe:=szT l (bif Ck l != 0 then bif Ck l != 0 then Vd (Ck l) else A3p l p else bif Gu p.1 p.2.1 != 0 then Vd 2 else A3p l p)
theorem B15 (x:TCTs [A5,cPt]):Dx (Aox 2 Tryz.prog ((43,J9)::(105,s_inR)::plPs) [(18,Tryz.f18),(57,Tryz.f57),(58,Tryz.f58)]) 7 (.fn 18) (E7 [A5,cPt] x) Ce 0 (J3 Tryz.prog [De,cI])=B14 x.1 x.2.1:=by kernel_rfl
theorem Ai7 {a b c d:Int} (h0:0≤a) (h1:a≤c) (h2:0≤b) (h3:b≤d):a*b≤c*d:=Int.mul_le_mul h1 h3 h2 (by omega)
theorem A9d {y ny l:Int} (hl:1≤l∧l≤4194304) (hy:0≤y∧y≤l) (hn:1≤ny∧ny≤16):0≤min (W64 (Int.tdiv (W64 (y*ny)) l)) (W64 (ny-1))∧min (W64 (Int.tdiv (W64 (y*ny)) l)) (W64 (ny-1))≤ny-1:=by
 have h1:0≤y*ny:=Int.mul_nonneg hy.1 (by omega)
 have h2:y*ny≤4194304*16:=Ai7 hy.1 (by omega) (by omega) hn.2
 rw [Bi (n:=y*ny) (by omega) (by omega),Int.tdiv_eq_ediv_of_nonneg h1]
 have h3:=Int.ediv_nonneg h1 (show 0≤l by omega)
 have h4:=Int.ediv_le_self l h1
 rw [Bi (n:=y*ny / l) (by omega) (by omega),Bi (n:=ny-1) (by omega) (by omega)]
 omega
theorem Asl {i k nx ny:Int} (hx:1≤nx∧nx≤16) (hy:1≤ny∧ny≤16) (hi:0≤i∧i≤nx-1) (hk:0≤k∧k≤ny-1):0≤W64 (W64 (k*nx)+i)∧W64 (W64 (k*nx)+i)<W64 (nx*ny):=by
 have h1:0≤k*nx:=Int.mul_nonneg hk.1 (by omega)
 have h2:k*nx≤(ny-1)*nx:=Int.mul_le_mul_of_nonneg_right hk.2 (by omega)
 have h3:nx*ny≤16*16:=Ai7 (by omega) hx.2 (by omega) hy.2
 have h4:(ny-1)*nx=nx*ny-nx:=by grind
 rw [Bi (n:=k*nx) (by omega) (by omega),Bi (n:=k*nx+i) (by omega) (by omega),Bi (n:=nx*ny) (by omega) (by omega)]
 omega
structure LawOk (l:TCT A5):Prop where
 w:65536≤l.2.1∧l.2.1≤4194304
 lg:65536≤l.2.2.1∧l.2.2.1≤4194304
 nx:1≤nxL l∧nxL l≤16
 ny:1≤nyL l∧nyL l≤16
 n:((Dl l).length:Int)=W64 (nxL l*nyL l)
 hs:(Bh l).all Gy=true
 cs:(Dl l).all Hx=true
 ap:apF l.2.1 l.2.2.1 (Bz l)=true
 hn:1≤(Bh l).length∧(Bh l).length≤12
theorem Ae1 {l:TCT A5} (h:Ck l=0):LawOk l:=by
 have hn:=Td h
 unfold Ck at h
 cases hm:Nz l with
 | true=>rw [hm] at h;cases h
 | false =>
  rw [hm,cond_false] at h
  cases ho:okL l with
  | false=>rw [ho] at h;cases h
  | true =>
   unfold okL Adw Adx at ho
   simp only [Bool.and_eq_true,F3,Bool.not_eq_true',decide_eq_false_iff_not,bne_eq_false_iff_eq] at ho
   obtain ⟨⟨_,hw,hl,_⟩,hp,⟨n1,n2,n3,n4,n5⟩,h1,h2,h3⟩:=ho
   exact ⟨hw,hl,⟨Int.not_lt.1 n1,Int.not_lt.1 n2⟩,⟨Int.not_lt.1 n3,Int.not_lt.1 n4⟩,n5,h1,h2,h3,hn.2,hn.1⟩
theorem Asm {l:TCT A5} {p:TCT cPt} (h:Ck l=0) (ho:onB l p=true):Asj l p=.leaf (B13 (Bc (Dl l) (Int.toNat (Wo l p)) (B7 De)),0,()):=by
 have k:=Ae1 h
 unfold onB at ho
 simp only [Bool.and_eq_true,F3] at ho
 have hw:1≤l.2.1∧l.2.1≤4194304:=⟨Int.le_trans (by decide) k.w.1,k.w.2⟩
 have hl:1≤l.2.2.1∧l.2.2.1≤4194304:=⟨Int.le_trans (by decide) k.lg.1,k.lg.2⟩
 have hc:=Asl k.nx k.ny (A9d hw ho.1 k.nx) (A9d hl ho.2 k.ny)
 rw [← k.n] at hc
 have e1:(l.2.1 != 0)=true:=by
  rw [bne_iff_ne];intro e;rw [e] at hw;exact absurd hw.1 (by decide)
 have e2:(l.2.2.1 != 0)=true:=by
  rw [bne_iff_ne];intro e;rw [e] at hl;exact absurd hl.1 (by decide)
 unfold Asj
 rw [e1,e2,decide_eq_true (show 0≤Wo l p∧Wo l p<((Dl l).length:Int) from hc)]
 rfl
theorem Asn {l:TCT A5} {p:TCT cPt} (h:Ck l=0):A3p l p=bif onB l p then .leaf (B13 (Bc (Dl l) (Int.toNat (Wo l p)) (B7 De)),0,()) else Vd 5:=by
 cases ho:onB l p with
 | true =>
  have:=Asm h ho
  unfold A3p
  unfold onB at ho
  simp only [Bool.and_eq_true] at ho
  rw [ho.1,ho.2,this]
  rfl
 | false =>
  unfold A3p
  unfold onB at ho
  cases h1:inR p.1 0 l.2.1 with
  | false=>rfl
  | true =>
   rw [h1,Bool.true_and] at ho
   rw [ho]
   rfl
def Ae2 (l:TCT A5) (p:TCT cPt):TCTs [De,cI]:=(((La l p).1,(La l p).2.1,(La l p).2.2.1,()),G5 l p,())
theorem B9x {l:TCT A5} {p:TCT cPt}:(bif Gc l p != 0 then Vd (Gc l p) else A3p l p:TCe).sat (fun y=>y=Ae2 l p):=by
 unfold Ae2 La G5
 cases h1:Gc l p != 0 with
 | true =>
  have hne:(Gc l p==0)=false:=by
   rw [bne_iff_ne] at h1
   exact beq_eq_false_iff_ne.2 h1
  simp only [cond_true]
  rw [hne]
  exact rfl
 | false =>
  have hl:Ck l=0:=by
   unfold Gc at h1
   cases h2:Ck l != 0 with
   | true=>rw [h2,cond_true] at h1;rw [h2] at h1;cases h1
   | false=>exact bne_eq_false_iff_eq.1 h2
  simp only [cond_false]
  rw [Asn hl]
  cases onB l p <;> exact rfl
theorem Mz (x y:Int):(Gu x y != 0)=!fpt x y:=by unfold Gu;cases fpt x y <;> rfl
def plCe:List (Nat×PureT):=(43,J9)::(105,s_inR)::plPs
theorem puCe:Db Tryz.prog plCe:=puOk_cons is_tChk.plain K0 (puOk_cons is_between2.plain q_between2 puPs)
theorem B16 {l:TCT A5} {p:TCT cPt} (hs:(l.1.size:Int)≤Bl .i64):(B14 l p).sat (fun y=>y=Ae2 l p):=by
 have key:=B9x (l:=l) (p:=p)
 unfold B14
 rw [Dg hs,Mz]
 unfold Gc at key
 cases h:Ck l != 0 with
 | true =>
  rw [h] at key
  simp only [cond_true] at key ⊢
  rw [h] at key
  exact key
 | false =>
  rw [h] at key
  simp only [cond_false] at key ⊢
  cases hf:fpt p.1 p.2.1 with
  | true=>rw [hf] at key;exact key
  | false=>rw [hf] at key;exact key
theorem Aso:A7 Tryz.prog 18 A9c:=C0 (Uw (u:=2) Aw puCe (fns_cons is_CellAt (fns_cons is_lchk (fns_cons is_lon A0)))) 7 (fun x=>B14 x.1 x.2.1) B15 fun x hok _=>B16 (of_decide_eq_true hok)
end St
end V
end Go.Proofs.YtcfanlgpkefogaaGreat
namespace Go.Proofs.YtcfanlgpkefogaaGreat
open Go.RowKit
namespace V
namespace St
theorem is_cGround:FnIs Tryz.prog (78,Tryz.f78):=⟨Tryz.func78,by kernel_rfl,by kernel_rfl⟩
def A4 (g:TCT cGr):List (TCT A3):=g.2.1
def okG (g:TCT cGr):Bool:=(A4 g).all Io&&Ic g.2.2.1.1 g.2.2.1.2.1
def groE (g:TCT cGr):Int:=bif Ck g.1 != 0 then Ck g.1 else bif decide (((A4 g).length:Int)<1)||decide (((A4 g).length:Int)>8) then 6 else bif okG g then 0 else 2
abbrev B17:PureT:=Bv [cGr] [cI] (fun x=>decide ((x.1.1.1.size:Int)≤Bl .i64)) (fun x=>(groE x.1,()))
def plG:List (Nat×PureT):=[(75,Qq),(126,G0),(123,A8s)]
theorem puG:Db Tryz.prog plG:=puOk_cons is_lCheck.plain M7 (puOk_cons is_CheckBounce.plain Lz (puOk_cons is_cfBall.plain Ar0 (puOk_nil)))
def Asp (g:TCT cGr):TEr:=bif okE (Ic g.2.2.1.1 g.2.2.1.2.1)!=0 then .leaf (2,()) else .leaf (0,())
def T_G (g:TCT cGr):TEr:=szT g.1 (bif Ck g.1 != 0 then .leaf (Ck g.1,()) else er (decide (((A4 g).length:Int)<1)) 6 (er (decide (((A4 g).length:Int)>8)) 6 (er ((A4 g).any (Eu ())) 2 (Asp g))))
theorem B9y (x:TCTs [cGr]):Dx (ctx Tryz.prog plG [(78,Tryz.f78)]) 7 (.fn 78) (E7 [cGr] x) Ce 0 (J3 Tryz.prog [cI])=T_G x.1:=by kernel_rfl
theorem B9z {g:TCT cGr} (hs:(g.1.1.size:Int)≤Bl .i64):(T_G g).sat (fun y=>y=(groE g,())):=by
 unfold T_G groE okG Asp
 have hq:(A4 g).any (Eu ())=!(A4 g).all Io:=L9 Io _
 rw [Dg hs,hq,Yw,← O0]
 cases Ck g.1 != 0 with
 | true=>exact rfl
 | false =>
  simp only [cond_false]
  cases decide (((A4 g).length:Int)<1)||decide (((A4 g).length:Int)>8) with
  | true=>exact rfl
  | false=>cases (A4 g).all Io <;> cases Ic g.2.2.1.1 g.2.2.1.2.1 <;> exact rfl
theorem Bk6:A7 Tryz.prog 78 B17:=C0 (B5 Aw puG (fns_cons is_cGround A0)) 7 (fun x=>T_G x.1) B9y fun x hok _=>B9z (of_decide_eq_true hok)
abbrev kGr:List SK:=[.d .s,.d cI,.d cI,.d cI,.d (.sl C9),.d cI,.d cI,.d cI,.d cI,.d cI,.d (.sl De),.d (.sl A3),.d cI,.d cI]
def A2s (x:SKTs kGr):TCT cGr:=((x.1,x.2.1,x.2.2.1,x.2.2.2.1,x.2.2.2.2.1,((x.2.2.2.2.2.1,x.2.2.2.2.2.2.1,()),x.2.2.2.2.2.2.2.1,()),x.2.2.2.2.2.2.2.2.1,x.2.2.2.2.2.2.2.2.2.1,x.2.2.2.2.2.2.2.2.2.2.1,()),x.2.2.2.2.2.2.2.2.2.2.2.1,(x.2.2.2.2.2.2.2.2.2.2.2.2.1,x.2.2.2.2.2.2.2.2.2.2.2.2.2.1,()),())
def E5 (g:TCT cGr):SKTs kGr:=(g.1.1,g.1.2.1,g.1.2.2.1,g.1.2.2.2.1,g.1.2.2.2.2.1,g.1.2.2.2.2.2.1.1.1,g.1.2.2.2.2.2.1.1.2.1,g.1.2.2.2.2.2.1.2.1,g.1.2.2.2.2.2.2.1,g.1.2.2.2.2.2.2.2.1,g.1.2.2.2.2.2.2.2.2.1,g.2.1,g.2.2.1.1,g.2.2.1.2.1,())
def Ae3:Lay:={ keys:=[1,3],ks:=[.p 0 0 0 0,.d cI],bs:=[(0,41,kGr)],n:=39,nx:=1000,marks:=[] }
def Bk7:Lay:={ keys:=[1],ks:=[.p 0 0 0 0],bs:=[(0,41,kGr)],n:=39,nx:=1000,marks:=[] }
def Bfh:Lay:={ keys:=[2],ks:=[.d cI],bs:=[],n:=39,nx:=1000,marks:=[] }
def Ae4:XE→Lay:=fun e=>match e with | .ret=>Bfh | _=>Bk7
def Asq (x:SKTs kGr) (i:Int):Ae3.T:=(((),i,()),(x,()))
def Asr:A1 Ae4:=⟨.ret,((2,()),())⟩
def Ass (x:SKTs kGr):A1 Ae4:=⟨.exit 0,(((),()),(x,()))⟩
def blX (x:SKTs kGr):List (TCT A3):=x.2.2.2.2.2.2.2.2.2.2.2.1
def Ai8 (b:TCT A3):Bool:=okE (Ju b.1 b.2.1)!=0
def Ai9 (g:Ae3.T):Tree (Ae3.T⊕A1 Ae4):=bif decide (g.1.2.1<((blX g.2.1).length:Int)) then bif decide (0≤g.1.2.1∧g.1.2.1<((blX g.2.1).length:Int)) then
 bif Ai8 (Bc (blX g.2.1) (Int.toNat g.1.2.1) (B7 A3)) then .leaf (.inr Asr) else .leaf (.inl (Asq g.2.1 (W64 (g.1.2.1+1)))) else .fail else .leaf (.inr (Ass g.2.1))
def Ast (g:Ae3.T):Nat:=(blX g.2.1).length+1
def Asu (x:SKTs kGr):Option (A1 Ae4):=iter Ai9 ((blX x).length+1) (Asq x 0)
def B19 (g:TCT cGr):TEr:=szT g.1 (bif Ck g.1 != 0 then szT g.1 (.leaf (Ck g.1,())) else er (decide (((A4 g).length:Int)<1)) 6 (er (decide (((A4 g).length:Int)>8)) 6 (
 bif isE .ret (Asu (E5 g)) then .leaf ((D4 .ret (Asu (E5 g))).1.1,()) else bif isE (.exit 0) (Asu (E5 g)) then Asp (A2s (D4 (.exit 0) (Asu (E5 g))).2.1) else .fail)))
theorem B1b {g:TCT cGr} (hs:(g.1.1.size:Int)≤Bl .i64) (hb:((A4 g).length:Int)≤Bl .i64):(B19 g).sat (fun y=>y=(groE g,())):=by
 have hy:Asu (E5 g)=some (bif (blX (E5 g)).any Ai8 then Asr else Ass (E5 g)):=Oj (blX (E5 g)) (B7 A3) (Asq (E5 g)) Ai8 Asr (Ass (E5 g)) hb (fun _=>rfl)
 have hq:(blX (E5 g)).any Ai8=!(A4 g).all Io:=by
  rw [← L9 Io]
  exact Pr fun b _=>Yw _
 rw [hq] at hy
 unfold B19 groE okG
 rw [Dg hs,Dg hs,hy,← O0]
 cases Ck g.1 != 0 with
 | true=>exact rfl
 | false =>
  simp only [cond_false]
  cases decide (((A4 g).length:Int)<1)||decide (((A4 g).length:Int)>8) with
  | true=>exact rfl
  | false =>
   cases (A4 g).all Io with
   | false=>exact rfl
   | true =>
    show (Asp g).sat _
    unfold Asp
    rw [Yw]
    cases Ic g.2.2.1.1 g.2.2.1.2.1 <;> exact rfl
end St
end V
end Go.Proofs.YtcfanlgpkefogaaGreat
namespace Go.Proofs.YtcfanlgpkefogaaGreat
open Go.RowKit
namespace V
namespace St
theorem is_sOn:FnIs Tryz.prog (79,Tryz.f79):=⟨Tryz.func79,by kernel_rfl,by kernel_rfl⟩
abbrev A9e:PureT:=Bv [A5,cPt] [.b] (fun _=>true) (fun x=>(onB x.1 x.2.1,()))
def Bfk (l:TCT A5) (p:TCT cPt):TBo:=Sv (decide (0≤p.1)) (Sv (decide (p.1≤l.2.1)) (Sv (decide (0≤p.2.1)) (.leaf (decide (p.2.1≤l.2.2.1),()))))
theorem Ba0 (l:TCT A5) (p:TCT cPt):onB l p=(decide (0≤p.1)&&(decide (p.1≤l.2.1)&&(decide (0≤p.2.1)&&decide (p.2.1≤l.2.2.1)))):=by
 unfold onB inR
 simp only [Bool.and_assoc]
theorem B75:A7 Tryz.prog 79 A9e:=C0 (B5 Aw puOk_nil (fns_cons is_sOn A0)) 4 (fun x=>Bfk x.1 x.2.1) (fun x=>by kernel_rfl) fun x _ _=>by
 show (Bfk x.1 x.2.1).sat (fun y=>y=(onB x.1 x.2.1,()))
 rw [Ba0]
 exact Ha (Ha (Ha (A3a _)))
end St
end V
end Go.Proofs.YtcfanlgpkefogaaGreat
namespace Go.Proofs.YtcfanlgpkefogaaGreat
open Go.RowKit
namespace V
namespace St
theorem is_cState:FnIs Tryz.prog (42,Tryz.f42):=⟨Tryz.func42,by kernel_rfl,by kernel_rfl⟩
abbrev kSt:List SK:=[.d (.sl Bd),.d (.sl .b),.d cI,.d cI,.d cI]
abbrev bsS:List BK:=[(0,41,kGr),(1,45,kSt)]
def plS1:List (Nat×PureT):=[(78,B17),(55,H5),(79,A9e)]
theorem puS1:Db Tryz.prog plS1:=puOk_cons is_cGround.plain Bk6 (puOk_cons is_CheckMotion.plain Qt (puOk_cons is_sOn.plain B75 (puOk_nil)))
def inN {β:Type} (n:Nat) (i:Int) (k:Tree β):Tree β:=bif decide (0≤i∧i<(n:Int)) then k else .fail
theorem Dd {β:Type} {n:Nat} {i:Int} {k:Tree β} (h:0≤i∧i<(n:Int)):inN n i k=k:=by unfold inN;rw [decide_eq_true h];rfl
def N1 (b:TCT A3) (m:TCT Bd):Bool:=Rv b.1 b.2.1 m.1.1 m.1.2.1 m.2.1.1 m.2.1.2.1 m.2.2.1.1 m.2.2.1.2.1
def atM (m:TCT Bd):TCT cPt:=(m.1.1,m.1.2.1,())
def Ae5 {β:Type} (no:Nat) (i:Int) (o:Bool) (m:TCT Bd) (rt nx:Tree β):Tree β:=inN no i (bif o then bif !(m.2.1.1==0&&(m.2.1.2.1==0&&true)) then rt else nx else nx)
def Z7 {β:Type} (nb no:Nat) (i:Int) (l:TCT A5) (b:TCT A3) (o:Bool) (m:TCT Bd) (rt nx:Tree β):Tree β :=
 inN nb i (bif okE (N1 b m)!=0 then rt else inN no i (bif !o then bif !onB l (atM m) then rt else Ae5 no i o m rt nx else Ae5 no i o m rt nx))
def lwG (x:SKTs kGr):TCT A5:=(A2s x).1
noncomputable def Bfm:Code:=(As (bodyOf Tryz.f42)).getD 0 .skip
def A9f:Lay:={ keys:=[2,3,30,31,32],ks:=[.p 0 0 0 0,.p 1 0 0 0,.d (.sl Bd),.d cI,.d cI],bs:=bsS,n:=106,nx:=1000,marks:=[] }
def Bk9:Lay:={ keys:=[2,3],ks:=[.p 0 0 0 0,.p 1 0 0 0],bs:=bsS,n:=106,nx:=1000,marks:=[] }
def Bfn:Lay:={ keys:=[4],ks:=[.d cI],bs:=[],n:=106,nx:=1000,marks:=[] }
def A5s:XE→Lay:=fun e=>match e with | .ret=>Bfn | _=>Bk9
def Aia (x:SKTs kGr) (s:SKTs kSt) (m:List (TCT Bd)) (n i:Int):A9f.T:=(((),(),m,n,i,()),(x,s,()))
def Aib:A1 A5s:=⟨.ret,((2,()),())⟩
def Asv (x:SKTs kGr) (s:SKTs kSt):A1 A5s:=⟨.exit 0,(((),(),()),(x,s,()))⟩
def otS (s:SKTs kSt):List Bool:=s.2.1
def Aic (g:A9f.T):Tree (A9f.T⊕A1 A5s):=bif decide (g.1.2.2.2.2.1<g.1.2.2.2.1) then bif decide (0≤g.1.2.2.2.2.1∧g.1.2.2.2.2.1<((g.1.2.2.1:List (TCT Bd)).length:Int)) then
 Z7 (blX g.2.1).length (otS g.2.2.1).length g.1.2.2.2.2.1 (lwG g.2.1) (Bc (blX g.2.1) (Int.toNat g.1.2.2.2.2.1) (B7 A3)) (Bc (otS g.2.2.1) (Int.toNat g.1.2.2.2.2.1) (B7 .b)) (Bc g.1.2.2.1 (Int.toNat g.1.2.2.2.2.1) (B7 Bd))
  (.leaf (.inr Aib)) (.leaf (.inl (Aia g.2.1 g.2.2.1 g.1.2.2.1 g.1.2.2.2.1 (W64 (g.1.2.2.2.2.1+1))))) else .fail else .leaf (.inr (Asv g.2.1 g.2.2.1))
def Asw (g:A9f.T):Nat:=(g.1.2.2.1:List (TCT Bd)).length+1
theorem Bka:Bb Tryz.prog 42 Bfm (B8 A9f A5s (Dy [.ret,.exit 0] Aic Asw)):=Br (B5 Aw puS1 A0) 7 _ A9f A5s (fun e=>by cases e <;> exact Nat.le_refl _) [.ret,.exit 0] Aic Asw (fun g=>by kernel_rfl)
end St
end V
end Go.Proofs.YtcfanlgpkefogaaGreat
namespace Go.Proofs.YtcfanlgpkefogaaGreat
open Go.RowKit
namespace V
namespace St
def A5t:Lay:={ keys:=[2,3,5],ks:=[.p 0 0 0 0,.p 1 0 0 0,.d cI],bs:=bsS,n:=103,nx:=1000,marks:=[] }
def Bkb:Lay:={ keys:=[2,3],ks:=[.p 0 0 0 0,.p 1 0 0 0],bs:=bsS,n:=103,nx:=1000,marks:=[] }
def Bfp:Lay:={ keys:=[4],ks:=[.d cI],bs:=[],n:=103,nx:=1000,marks:=[] }
def A2t:XE→Lay:=fun e=>match e with | .ret=>Bfp | _=>Bkb
def A9g (x:SKTs kGr) (s:SKTs kSt) (i:Int):A5t.T:=(((),(),i,()),(x,s,()))
def A9h:A1 A2t:=⟨.ret,((2,()),())⟩
def Aid (x:SKTs kGr) (s:SKTs kSt):A1 A2t:=⟨.exit 0,(((),(),()),(x,s,()))⟩
def msS (s:SKTs kSt):List (TCT Bd):=s.1
def Aie (g:A5t.T):Tree (A5t.T⊕A1 A2t):=bif decide (g.1.2.2.1<((blX g.2.1).length:Int)) then inN (msS g.2.2.1).length g.1.2.2.1 (
 Z7 (blX g.2.1).length (otS g.2.2.1).length g.1.2.2.1 (lwG g.2.1) (Bc (blX g.2.1) (Int.toNat g.1.2.2.1) (B7 A3)) (Bc (otS g.2.2.1) (Int.toNat g.1.2.2.1) (B7 .b)) (Bc (msS g.2.2.1) (Int.toNat g.1.2.2.1) (B7 Bd))
  (.leaf (.inr A9h)) (.leaf (.inl (A9g g.2.1 g.2.2.1 (W64 (g.1.2.2.1+1)))))) else .leaf (.inr (Aid g.2.1 g.2.2.1))
def Asx (g:A5t.T):Nat:=(blX g.2.1).length+1
end St
end V
end Go.Proofs.YtcfanlgpkefogaaGreat
namespace Go.Proofs.YtcfanlgpkefogaaGreat
open Go.RowKit
namespace V
namespace St
def N2 (s:TCT cSt):SKTs kSt:=(s.1,s.2.1,s.2.2.1,s.2.2.2.1,s.2.2.2.2.1,())
def A9i (s:SKTs kSt):TCT cSt:=(s.1,s.2.1,s.2.2.1,s.2.2.2.1,s.2.2.2.2.1,())
def msT (s:TCT cSt):List (TCT Bd):=s.1
def osT (s:TCT cSt):List Bool:=s.2.1
def okO (l:TCT A5) (b:TCT A3) (o:Bool) (m:TCT Bd):Bool:=N1 b m&&(bif o then m.2.1.1==0&&(m.2.1.2.1==0&&true) else onB l (atM m))
def okS (g:TCT cGr) (os:List Bool) (i:Nat) (m:TCT Bd):Bool:=okO g.1 (Bc (A4 g) i (B7 A3)) (Bc os i (B7 .b)) m
theorem A3q {G E:Type} {nb no:Nat} {i:Int} {l:TCT A5} {b:TCT A3} {o:Bool} {m:TCT Bd} {rt:E} {nx:G} (h1:0≤i∧i<(nb:Int)) (h2:0≤i∧i<(no:Int)) :
  (Z7 nb no i l b o m (.leaf (.inr rt)) (.leaf (.inl nx)):Tree (G⊕E)).run=some (bif okO l b o m then .inl nx else .inr rt):=by
 unfold Z7 Ae5 okO
 rw [Dd h1,Yw,Dd h2,Dd h2]
 cases N1 b m with
 | false=>rfl
 | true =>
  cases o with
  | false=>cases onB l (atM m) <;> rfl
  | true=>cases m.2.1.1==0&&(m.2.1.2.1==0&&true) <;> rfl
def Bfq (g:TCT cGr) (s:TCT cSt):Option (A1 A5s):=iter Aic ((msT s).length+1) (Aia (E5 g) (N2 s) s.1 (msT s).length 0)
def Ba1 (g:TCT cGr) (s:TCT cSt):Option (A1 A2t):=iter Aie ((A4 g).length+1) (A9g (E5 g) (N2 s) 0)
theorem B1c {g:TCT cGr} {s:TCT cSt} (h1:(msT s).length=(A4 g).length) (h2:(osT s).length=(A4 g).length) (hm:((msT s).length:Int)≤Bl .i64) :
  Bfq g s=some (bif Ip (okS g (osT s)) 0 (msT s) then Asv (E5 g) (N2 s) else Aib):=by
 refine Z5 (msT s) (B7 Bd) (fun i=>Aia (E5 g) (N2 s) s.1 (msT s).length i) (okS g (osT s))
  (fun i m=>Z7 (A4 g).length (osT s).length i g.1 (Bc (A4 g) (Int.toNat i) (B7 A3)) (Bc (osT s) (Int.toNat i) (B7 .b)) m (.leaf (.inr Aib)) (.leaf (.inl (Aia (E5 g) (N2 s) s.1 (msT s).length (W64 (i+1))))):Int→TCT Bd→Tree (A9f.T⊕A1 A5s)) Aib (Asv (E5 g) (N2 s)) hm (fun i=>rfl) fun i hi=>?_
 rw [A3q (by omega) (by omega),show Int.toNat (i:Int)=i from rfl,El hi hm]
 rfl
theorem B1d {g:TCT cGr} {s:TCT cSt} (h1:(msT s).length=(A4 g).length) (h2:(osT s).length=(A4 g).length) (hm:((msT s).length:Int)≤Bl .i64) :
  Ba1 g s=some (bif Ip (okS g (osT s)) 0 (msT s) then Aid (E5 g) (N2 s) else A9h):=by
 unfold Ba1
 rw [← h1]
 refine Z5 (msT s) (B7 Bd) (fun i=>A9g (E5 g) (N2 s) i) (okS g (osT s))
  (fun i m=>Z7 (A4 g).length (osT s).length i g.1 (Bc (A4 g) (Int.toNat i) (B7 A3)) (Bc (osT s) (Int.toNat i) (B7 .b)) m (.leaf (.inr A9h)) (.leaf (.inl (A9g (E5 g) (N2 s) (W64 (i+1))))):Int→TCT Bd→Tree (A5t.T⊕A1 A2t)) A9h (Aid (E5 g) (N2 s)) hm (fun i=>?_) fun i hi=>?_
 ·show (bif decide (i<((A4 g).length:Int)) then inN (msT s).length i (Z7 (A4 g).length (osT s).length i g.1 (Bc (A4 g) (Int.toNat i) (B7 A3)) (Bc (osT s) (Int.toNat i) (B7 .b)) (Bc (msT s) (Int.toNat i) (B7 Bd)) (.leaf (.inr A9h)) (.leaf (.inl (A9g (E5 g) (N2 s) (W64 (i+1)))))) else .leaf (.inr (Aid (E5 g) (N2 s))):Tree (A5t.T⊕A1 A2t))=_
  rw [← h1]
  rfl
 ·rw [A3q (by omega) (by omega),show Int.toNat (i:Int)=i from rfl,El hi hm]
  rfl
def A5u (n:Int) (s:TCT cSt):Bool:=decide (s.2.2.1<0)||(decide (s.2.2.1≥n)||(decide (s.2.2.2.1<0)||(decide (s.2.2.2.1>8)||(decide (s.2.2.2.2.1<0)||decide (s.2.2.2.2.1>4000)))))
def A2u (g:TCT cGr) (s:TCT cSt):Bool:=(((msT s).length:Int)==((A4 g).length:Int))&&(((osT s).length:Int)==((A4 g).length:Int))
def vaE (g:TCT cGr) (s:TCT cSt):Int:=bif A2u g s then bif Ip (okS g (osT s)) 0 (msT s) then bif A5u (A4 g).length s then 2 else 0 else 2 else 17
def Fp (g:TCT cGr) (s:TCT cSt):Int:=bif groE g != 0 then groE g else vaE g s
abbrev Bfr:PureT:=Bv [cGr,cSt] [cI] (fun _=>true) (fun x=>(vaE x.1 x.2.1,()))
abbrev Aif:PureT:=Bv [cGr,cSt] [cI] (fun x=>decide ((x.1.1.1.size:Int)≤Bl .i64)) (fun x=>(Fp x.1 x.2.1,()))
end St
end V
end Go.Proofs.YtcfanlgpkefogaaGreat
namespace Go.Proofs.YtcfanlgpkefogaaGreat
open Go.RowKit
namespace V
namespace St
def Asy (n:Int) (s:TCT cSt):TEr:=er (decide (s.2.2.1<0)) 2 (er (decide (s.2.2.1≥n)) 2 (er (decide (s.2.2.2.1<0)) 2 (er (decide (s.2.2.2.1>8)) 2 (er (decide (s.2.2.2.2.1<0)) 2 (er (decide (s.2.2.2.2.1>4000)) 2 (.leaf (0,())))))))
theorem B1e (n:Int) (s:TCT cSt):Asy n s=er (A5u n s) 2 (.leaf (0,())):=by
 unfold Asy A5u
 rw [O0,O0,O0,O0,O0]
def Asz (g:TCT cGr) (s:TCT cSt) (k:TEr):TEr:=er (((msT s).length:Int)!=((A4 g).length:Int)) 17 (er (((osT s).length:Int)!=((A4 g).length:Int)) 17 k)
theorem B1f (g:TCT cGr) (s:TCT cSt) (k:TEr):Asz g s k=er (!A2u g s) 17 k:=by
 unfold Asz A2u
 rw [← O0]
 congr 1
 cases h1:((msT s).length:Int)==((A4 g).length:Int) <;> cases h2:((osT s).length:Int)==((A4 g).length:Int) <;> simp [bne,h1,h2]
theorem Z8 {g:TCT cGr} {s:TCT cSt} (h:A2u g s=true):(msT s).length=(A4 g).length∧(osT s).length=(A4 g).length:=by
 unfold A2u at h
 simp only [Bool.and_eq_true,beq_iff_eq] at h
 omega
def Bkd (g:TCT cGr) (y:Option (A1 A5s)):TEr:=bif isE .ret y then .leaf ((D4 .ret y).1.1,()) else bif isE (.exit 0) y then Asy (blX (D4 (.exit 0) y).2.1).length (A9i (D4 (.exit 0) y).2.2.1) else .fail
def Bke (g:TCT cGr) (y:Option (A1 A2t)):TEr:=bif isE .ret y then .leaf ((D4 .ret y).1.1,()) else bif isE (.exit 0) y then Asy (blX (D4 (.exit 0) y).2.1).length (A9i (D4 (.exit 0) y).2.2.1) else .fail
def Ba2 (g:TCT cGr) (s:TCT cSt):TEr:=szT g.1 (bif groE g != 0 then .leaf (groE g,()) else Asz g s (Bkd g (Bfq g s)))
def Ba3 (g:TCT cGr) (s:TCT cSt):TEr:=Asz g s (Bke g (Ba1 g s))
theorem At0 {g:TCT cGr} {s:TCT cSt} {k:TEr} (h:A2u g s=true→k=bif Ip (okS g (osT s)) 0 (msT s) then Asy (A4 g).length s else .leaf (2,())):(Asz g s k).sat (fun y=>y=(vaE g s,())):=by
 rw [B1f]
 unfold vaE
 cases he:A2u g s with
 | false=>exact rfl
 | true =>
  rw [h he]
  cases Ip (okS g (osT s)) 0 (msT s) with
  | false=>exact rfl
  | true =>
   simp only [Bool.not_true,cond_true]
   rw [B1e]
   cases A5u (A4 g).length s <;> exact rfl
theorem B1g {g:TCT cGr} {s:TCT cSt} (hs:(g.1.1.size:Int)≤Bl .i64) (hm:((msT s).length:Int)≤Bl .i64):(Ba2 g s).sat (fun y=>y=(Fp g s,())):=by
 unfold Ba2 Fp
 rw [Dg hs]
 cases groE g != 0 with
 | true=>exact rfl
 | false =>
  simp only [cond_false]
  refine At0 fun he=>?_
  obtain ⟨h1,h2⟩:=Z8 he
  rw [B1c h1 h2 hm]
  cases Ip (okS g (osT s)) 0 (msT s) <;> rfl
theorem B1h {g:TCT cGr} {s:TCT cSt} (hm:((msT s).length:Int)≤Bl .i64):(Ba3 g s).sat (fun y=>y=(vaE g s,())):=by
 unfold Ba3
 refine At0 fun he=>?_
 obtain ⟨h1,h2⟩:=Z8 he
 rw [B1d h1 h2 hm]
 cases Ip (okS g (osT s)) 0 (msT s) <;> rfl
noncomputable def Bkf:Ctx:=I7 Tryz.prog plS1 [(42,Tryz.f42)] [((42,7),B8 A9f A5s (Dy [.ret,.exit 0] Aic Asw))]
theorem B1i:CtxOk Bkf:=Cp Aw puS1 (fns_cons is_cState A0) (Cc (by kernel_rfl) (by kernel_rfl) Bka)
theorem B1j:A7 Tryz.prog 42 Aif:=C0 B1i 7 (fun x=>Ba2 x.1 x.2.1) (fun x=>by kernel_rfl) fun x hok hw=>B1g (of_decide_eq_true hok) (G9 hw.2.1.1)
def plS2:List (Nat×PureT):=plS1
theorem puS2:Db Tryz.prog plS2:=puS1
end St
end V
end Go.Proofs.YtcfanlgpkefogaaGreat
namespace Go.Proofs.YtcfanlgpkefogaaGreat
open Go.RowKit
namespace V
def B6 {S B:Type} (f:Nat→S→S⊕B):Nat→Nat→S→S⊕B
 | _,0,s=>.inl s
 | i,k+1,s=>match f i s with
  | .inl s'=>B6 f (i+1) k s'
  | .inr b=>.inr b
def At3 {G E S B:Type} (hd:Nat→S→G) (res:S⊕B→E) (i:Nat):S⊕B→G⊕E
 | .inl s=>.inl (hd (i+1) s)
 | .inr b=>.inr (res (.inr b))
theorem Hz {G E S B:Type} {st:G→Tree (G⊕E)} (n:Nat) (hd:Nat→S→G) (f:Nat→S→S⊕B) (res:S⊕B→E) (Inv:Nat→S→Prop)
  (h1:∀ i s,i<n→Inv i s→(st (hd i s)).run=some (At3 hd res i (f i s)))
  (h2:∀ i s s',i<n→Inv i s→f i s=.inl s'→Inv (i+1) s')
  (h3:∀ s,Inv n s→(st (hd n s)).run=some (.inr (res (.inl s)))) :
  ∀ (k i:Nat) (s:S),i+k=n→Inv i s→iter st (k+1) (hd i s)=some (res (B6 f i k s))
 | 0,i,s,hk,hi=>by
  have e:i=n:=by omega
  subst e
  exact Ib (h3 s hi)
 | k+1,i,s,hk,hi=>by
  have hlt:i<n:=by omega
  have hr:=h1 i s hlt hi
  unfold B6
  cases hf:f i s with
  | inl s' =>
   rw [hf] at hr
   rw [Lq hr]
   exact Hz n hd f res Inv h1 h2 h3 k (i+1) s' (by omega) (h2 i s s' hlt hi hf)
  | inr b =>
   rw [hf] at hr
   exact Ib hr
theorem Bf {S B:Type} {f:Nat→S→S⊕B} {Inv:Nat→S→Prop} {n:Nat} (h2:∀ i s s',i<n→Inv i s→f i s=.inl s'→Inv (i+1) s'):∀ (k i:Nat) (s s':S),i+k=n→Inv i s→B6 f i k s=.inl s'→Inv n s'
 | 0,i,s,s',hk,hi,h=>by
  have e:i=n:=by omega
  subst e
  cases h
  exact hi
 | k+1,i,s,s',hk,hi,h=>by
  unfold B6 at h
  cases hf:f i s with
  | inl t=>rw [hf] at h;exact Bf h2 k (i+1) t s' (by omega) (h2 i s t (by omega) hi hf) h
  | inr b=>rw [hf] at h;cases h
theorem Jm {β:Type} {h w:List β} {b:Nat} (k:h.length+w.length≤1000000) (hb:b≤48):E8 h w b=true:=by
 rw [Gd,decide_eq_true_iff]
 have h1:((h.length+w.length:Nat):Int)≤1000000:=by omega
 have h2:(b:Int)≤48:=by omega
 calc ((h.length+w.length:Nat):Int)*b≤1000000*48:=Int.mul_le_mul h1 h2 (by omega) (by decide)
  _≤140737488355328:=by decide
namespace St
theorem is_sLie:FnIs Tryz.prog (28,Tryz.f28):=⟨Tryz.func28,by kernel_rfl,by kernel_rfl⟩
theorem is_sstill:FnIs Tryz.prog (44,Tryz.f44):=⟨Tryz.func44,by kernel_rfl,by kernel_rfl⟩
theorem is_sTotal:FnIs Tryz.prog (13,Tryz.f13):=⟨Tryz.func13,by kernel_rfl,by kernel_rfl⟩
abbrev kSo:List SK:=[.o 60 Bd,.o 4 .b,.d cI,.d cI,.d cI]
noncomputable def Bfs:Code:=(As (bodyOf Tryz.f28)).getD 0 .skip
abbrev Bft:List BK:=[(0,41,kGr),(1,45,kSt),(3,45,kSo)]
def Ae6:Lay:={ keys:=[2,4,7,27,28,29],ks:=[.p 0 0 0 0,.p 1 0 0 0,.p 3 0 0 0,.d (.sl cPt),.d cI,.d cI],bs:=Bft,n:=48,nx:=1000,marks:=[] }
def Bkh:Lay:={ keys:=[4,7],ks:=[.p 1 0 0 0,.p 3 0 0 0],bs:=[(1,45,kSt),(3,45,kSo)],n:=48,nx:=1000,marks:=[] }
def Bfu:Lay:={ keys:=[4,5],ks:=[.p 1 0 0 0,.d cI],bs:=[(1,45,kSt)],n:=48,nx:=1000,marks:=[] }
def A5v:XE→Lay:=fun e=>match e with | .ret=>Bfu | _=>Bkh
def A9j (p:TCT cPt):TCT Bd:=((p.1,p.2.1,()),(0,0,()),(0,0,()),())
def At4 (p:TCT cPt):TCT cPt:=(p.1,p.2.1,())
def B76 {β:Type} (p:TCT cPt) (ms:List (TCT Bd)) (nx:List (TCT Bd)→Tree β):Tree β:=bif E8 ms [A9j p] 48 then nx (ms++[A9j p]) else .fail
def Aig (x:SKTs kGr) (r q:SKTs kSt) (p:List (TCT cPt)) (n i:Int) (ms:List (TCT Bd)):Ae6.T:=(((),(),(),p,n,i,()),(x,r,(ms,q.2),()))
def B77:A1 A5v:=⟨.ret,(((),2,()),(([],[],0,0,0,()),()))⟩
def B78 (r q:SKTs kSt) (ms:List (TCT Bd)):A1 A5v:=⟨.exit 0,(((),(),()),(r,(ms,q.2),()))⟩
abbrev TLi:=Tree (Ae6.T⊕A1 A5v)
def Z9 (x:SKTs kGr) (r q:SKTs kSt) (p:List (TCT cPt)) (n i:Int) (ms:List (TCT Bd)):TLi:=bif decide (i<n) then inN p.length i (
 bif !onB (lwG x) (At4 (Bc p (Int.toNat i) (B7 cPt))) then .leaf (.inr B77) else B76 (Bc p (Int.toNat i) (B7 cPt)) ms fun ms'=>.leaf (.inl (Aig x r q p n (W64 (i+1)) ms'))) else .leaf (.inr (B78 r q ms))
def A9k (g:Ae6.T):TLi:=Z9 g.2.1 g.2.2.1 g.2.2.2.1 g.1.2.2.2.1 g.1.2.2.2.2.1 g.1.2.2.2.2.2.1 g.2.2.2.1.1
def At5 (g:Ae6.T):Nat:=(g.1.2.2.2.1:List (TCT cPt)).length+1
theorem Bki:Bb Tryz.prog 28 Bfs (B8 Ae6 A5v (Dy [.ret,.exit 0] A9k At5)):=Br (B5 Aw puS1 A0) 7 _ Ae6 A5v (fun e=>by cases e <;> exact Nat.le_refl _) [.ret,.exit 0] A9k At5 (fun g=>by kernel_rfl)
def At6 (l:TCT A5) (p:List (TCT cPt)) (i:Nat):Bool:=onB l (At4 (Bc p i (B7 cPt)))
def f_li (l:TCT A5) (p:List (TCT cPt)) (i:Nat) (ms:List (TCT Bd)):List (TCT Bd)⊕Unit:=bif At6 l p i then .inl (ms++[A9j (Bc p i (B7 cPt))]) else .inr ()
def Ae7 (r q:SKTs kSt):List (TCT Bd)⊕Unit→A1 A5v
 | .inl ms=>B78 r q ms
 | .inr _=>B77
theorem Ba4 {l:TCT A5} {p:List (TCT cPt)} (i:Nat) (s s':List (TCT Bd)) (_:i<p.length) (hi:s.length=i) (h:f_li l p i s=.inl s'):s'.length=i+1:=by
 unfold f_li at h
 cases ho:At6 l p i with
 | true=>rw [ho] at h;cases h;simp [hi]
 | false=>rw [ho] at h;cases h
theorem Bfv {x:SKTs kGr} {r q:SKTs kSt} {p:List (TCT cPt)} (hp:p.length≤100):iter A9k (p.length+1) (Aig x r q p p.length 0 [])=some (Ae7 r q (B6 (f_li (lwG x) p) 0 p.length [])):=by
 have hp':(p.length:Int)≤Bl .i64:=by show (p.length:Int)≤9223372036854775807;omega
 refine Hz p.length (fun i ms=>Aig x r q p p.length i ms) (f_li (lwG x) p) (Ae7 r q) (fun i ms=>ms.length=i) (fun i ms hi hl=>?_) Ba4 (fun ms hl=>?_) p.length 0 [] (by omega) rfl
 ·show (Z9 x r q p p.length (i:Int) ms).run=_
  unfold Z9 f_li At6 B76
  rw [decide_eq_true (show (i:Int)<(p.length:Int) by omega),Dd (by omega),show Int.toNat (i:Int)=i from rfl,Jm (by simp;omega) (by decide),El hi hp']
  cases onB (lwG x) (At4 (Bc p i (B7 cPt))) <;> rfl
 ·show (Z9 x r q p p.length (p.length:Int) ms).run=_
  unfold Z9
  rw [decide_eq_false (show ¬ (p.length:Int)<(p.length:Int) by omega)]
  rfl
end St
end V
end Go.Proofs.YtcfanlgpkefogaaGreat
namespace Go.Proofs.YtcfanlgpkefogaaGreat
open Go.RowKit
namespace V
namespace St
abbrev plS3:List (Nat×PureT):=(42,Aif)::(93,Ahr)::plS2
theorem puS3:Db Tryz.prog plS3:=puOk_cons is_cState.plain B1j (puOk_cons is_cfMot.plain B07 puS2)
def r0:SKTs kSt:=([],[],0,0,0,())
def q0 (p:List (TCT cPt)):SKTs kSt:=([],List.replicate (Int.toNat (p.length:Int)) false,0,0,0,())
def zS:TCT cSt:=([],[],0,0,0,())
abbrev TLs:=Tree (TCTs [cSt,cI])
def erS (c:Bool) (e:Int) (k:TLs):TLs:=bif c then .leaf (zS,e,()) else k
def Bfw (g:TCT cGr) (p:List (TCT cPt)):Option (A1 A5v):=iter A9k (p.length+1) (Aig (E5 g) r0 (q0 p) p p.length 0 [])
def mkT {β:Type} (n:Int) (k:Tree β):Tree β:=bif decide (0≤n∧n≤n∧n≤65536∧((1:Nat):Int)*n≤281474976710656) then k else .fail
theorem Ba5 {β:Type} {n:Int} {k:Tree β} (h0:0≤n) (h:n≤65536):mkT n k=k:=by
 unfold mkT
 rw [decide_eq_true (by omega)];rfl
def stO (s:SKTs kSo):TCT cSt:=(s.1,s.2.1,s.2.2.1,s.2.2.2.1,s.2.2.2.2.1,())
def Bkj (y:Option (A1 A5v)):TLs:=bif isE .ret y then .leaf (A9i (D4 .ret y).2.1,(D4 .ret y).1.2.1,()) else bif isE (.exit 0) y then .leaf (stO (D4 (.exit 0) y).2.2.1,0,()) else .fail
def A2v (a b:Nat):Bool:=(a:Int)!=(b:Int)
def Ba6 (g:TCT cGr) (p:List (TCT cPt)):TLs:=szT g.1 (erS (groE g != 0) (groE g) (erS (A2v p.length (A4 g).length) 17 (mkT p.length (Bkj (Bfw g p)))))
def Bfx (p:List (TCT cPt)):List (TCT Bd)⊕Unit→TCTs [cSt,cI]
 | .inl ms=>((ms,List.replicate p.length false,0,0,0,()),0,())
 | .inr _=>(zS,2,())
def G3 (g:TCT cGr) (p:List (TCT cPt)):TCTs [cSt,cI]:=bif groE g != 0 then (zS,groE g,()) else bif A2v p.length (A4 g).length then (zS,17,()) else Bfx p (B6 (f_li g.1 p) 0 p.length [])
def etaS (s:TCT cSt):TCT cSt:=(s.1,s.2.1,s.2.2.1,s.2.2.2.1,s.2.2.2.2.1,())
abbrev B79:PureT:=Bv [cGr,.sl cPt] [cSt,cI] (fun x=>decide ((x.1.1.1.size:Int)≤Bl .i64)) (fun x=>(etaS (G3 x.1 x.2.1).1,(G3 x.1 x.2.1).2.1,()))
theorem Aih {g:TCT cGr} (h:groE g=0):1≤(A4 g).length∧(A4 g).length≤8:=by
 unfold groE at h
 cases h1:Ck g.1 != 0 with
 | true=>rw [h1,cond_true] at h;rw [h] at h1;cases h1
 | false =>
  rw [h1,cond_false] at h
  cases h2:decide (((A4 g).length:Int)<1)||decide (((A4 g).length:Int)>8) with
  | true=>rw [h2] at h;cases h
  | false =>
   rw [Bool.or_eq_false_iff,decide_eq_false_iff_not,decide_eq_false_iff_not] at h2
   omega
theorem Ba7 {a b:Nat} (h:A2v a b=false):a=b:=by
 unfold A2v at h
 have:=bne_eq_false_iff_eq.1 h
 omega
theorem B1l {g:TCT cGr} {p:List (TCT cPt)} {k:TLs} (h:groE g=0→p.length=(A4 g).length→p.length≤8→k=.leaf (Bfx p (B6 (f_li g.1 p) 0 p.length []))) :
  (bif groE g != 0 then .leaf (zS,groE g,()) else erS (A2v p.length (A4 g).length) 17 k:TLs).sat (fun y=>y=(etaS (G3 g p).1,(G3 g p).2.1,())):=by
 show Tree.sat (fun y=>y=G3 g p) _
 unfold G3
 cases h1:groE g != 0 with
 | true=>exact rfl
 | false =>
  simp only [cond_false]
  unfold erS
  cases h2:A2v p.length (A4 g).length with
  | true=>exact rfl
  | false =>
   have e:=Ba7 h2
   have h0:groE g=0:=bne_eq_false_iff_eq.1 h1
   have:=Aih h0
   rw [h h0 e (by omega)]
   exact rfl
theorem B1m {g:TCT cGr} {p:List (TCT cPt)} (hs:(g.1.1.size:Int)≤Bl .i64):(Ba6 g p).sat (fun y=>y=(etaS (G3 g p).1,(G3 g p).2.1,())):=by
 unfold Ba6
 rw [Dg hs]
 refine B1l fun _ e hp=>?_
 have hy:Bfw g p=some (Ae7 r0 (q0 p) (B6 (f_li g.1 p) 0 p.length [])):=Bfv (by omega)
 rw [Ba5 (by omega) (by omega),hy]
 cases B6 (f_li g.1 p) 0 p.length [] <;> rfl
noncomputable def Bkk:Ctx:=I7 Tryz.prog plS3 [(28,Tryz.f28)] [((28,8),B8 Ae6 A5v (Dy [.ret,.exit 0] A9k At5))]
theorem B1n:CtxOk Bkk:=Cp Aw puS3 (fns_cons is_sLie A0) (Cc (by kernel_rfl) (by kernel_rfl) Bki)
theorem B7a:A7 Tryz.prog 28 B79:=C0 B1n 7 (fun x=>Ba6 x.1 x.2.1) (fun x=>by kernel_rfl) fun x hok _=>B1m (of_decide_eq_true hok)
def Dh (s:TCT cSt):Bool:=(msT s).all Gs
abbrev A5w:PureT:=Bv [cSt] [.b] (fun _=>true) (fun x=>(Dh x.1,()))
theorem Ame (s:TCT cSt):(!(msT s).any (Gb ()))=Dh s:=by
 have:(msT s).any (Gb ())=!(msT s).all Gs:=L9 Gs _
 rw [this,Bool.not_not]
 rfl
theorem At7:A7 Tryz.prog 44 A5w:=C0 (B5 Aw puS3 (fns_cons is_sstill (fns_cons is_still1 A0))) 7 (fun x=>.leaf (!(msT x.1).any (Gb ()),())) (fun x=>by kernel_rfl) fun x _ _=>by
 show _=_
 rw [Ame]
def Ae8:Lay:={ keys:=[1,3],ks:=[.p 0 0 0 0,.d cI],bs:=[(0,45,kSt)],n:=19,nx:=1000,marks:=[] }
def Bkl:Lay:={ keys:=[],ks:=[],bs:=[],n:=19,nx:=1000,marks:=[] }
def Bfz:Lay:={ keys:=[2],ks:=[.d .b],bs:=[],n:=19,nx:=1000,marks:=[] }
def Ae9:XE→Lay:=fun e=>match e with | .ret=>Bfz | _=>Bkl
def At8 (s:SKTs kSt) (i:Int):Ae8.T:=(((),i,()),(s,()))
def At9:A1 Ae9:=⟨.ret,((false,()),())⟩
def Ata:A1 Ae9:=⟨.exit 0,((),())⟩
def Rl (m:TCT Bd):Bool:=!(m.2.1.1==0&&(m.2.1.2.1==0&&true))
theorem Aii (m:TCT Bd):Rl m=!Gs m:=by unfold Rl Gs;rw [Bool.and_true]
def Aij (g:Ae8.T):Tree (Ae8.T⊕A1 Ae9):=bif decide (g.1.2.1<((msS g.2.1).length:Int)) then bif decide (0≤g.1.2.1∧g.1.2.1<((msS g.2.1).length:Int)) then
 bif Rl (Bc (msS g.2.1) (Int.toNat g.1.2.1) (B7 Bd)) then .leaf (.inr At9) else .leaf (.inl (At8 g.2.1 (W64 (g.1.2.1+1)))) else .fail else .leaf (.inr Ata)
def Atb (g:Ae8.T):Nat:=(msS g.2.1).length+1
def B1p (s:TCT cSt):Option (A1 Ae9):=iter Aij ((msT s).length+1) (At8 (N2 s) 0)
def Ba8 (s:TCT cSt):TBo:=bif isE .ret (B1p s) then .leaf ((D4 .ret (B1p s)).1.1,()) else bif isE (.exit 0) (B1p s) then .leaf (true,()) else .fail
def plS4:List (Nat×PureT):=(44,A5w)::plS3
theorem puS4:Db Tryz.prog plS4:=puOk_cons is_sstill.plain At7 (puS3)
end St
end V
end Go.Proofs.YtcfanlgpkefogaaGreat
