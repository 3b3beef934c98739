import Derived.Test.YtcfanlgpkefogaaGreatSd
import Derived.Test.YtcfanlgpkefogaaGreatTV
import Derived.Test.YtcfanlgpkefogaaGreatUj
import Derived.Test.YtcfanlgpkefogaaGreatBa
import Derived.Test.YtcfanlgpkefogaaGreatZe
namespace Go.Proofs.YtcfanlgpkefogaaGreat
open Go.RowKit
namespace V
abbrev A2v:PureT:=Bz [cPt,cPt,cI] [cPt,cI] (fun _=>true) (fun x=>(((TwR x.1.1 x.1.2.1 x.2.1.1 x.2.1.2.1 x.2.2.1).1.1,(TwR x.1.1 x.1.2.1 x.2.1.1 x.2.1.2.1 x.2.2.1).1.2,()),(TwR x.1.1 x.1.2.1 x.2.1.1 x.2.1.2.1 x.2.2.1).2,()))
theorem Al2:A5 Tryz.prog 23 A2v:=Afb
end V
end Go.Proofs.YtcfanlgpkefogaaGreat
namespace Go.Proofs.YtcfanlgpkefogaaGreat
open Go.RowKit
namespace V
namespace St
abbrev Bt:TC:=.st [cI,cI,cI,cI,.b]
abbrev Dc:TC:=.st [cI,cI,cI]
abbrev A9:TC:=.st [.s,cI,cI,cI,.sl Bt,A6,cI,cI,.sl Dc]
abbrev cGr:TC:=.st [A9,.sl A2,D3]
abbrev cSt:TC:=.st [.sl Bg,.sl .b,cI,cI,cI]
abbrev cBl:TC:=.st [cI,cPt,cI,cI]
abbrev cKn:TC:=.st [cI,cI,cI,cI,cI]
theorem is_between2:FnIs Tryz.prog (105,Tryz.f105):=⟨Tryz.func105,by kernel_rfl,by kernel_rfl⟩
theorem is_validHoop:FnIs Tryz.prog (118,Tryz.f118):=⟨Tryz.func118,by kernel_rfl,by kernel_rfl⟩
theorem is_validCell:FnIs Tryz.prog (121,Tryz.f121):=⟨Tryz.func121,by kernel_rfl,by kernel_rfl⟩
theorem is_Check1:FnIs Tryz.prog (117,Tryz.f117):=⟨Tryz.func117,by kernel_rfl,by kernel_rfl⟩
theorem is_Check2:FnIs Tryz.prog (120,Tryz.f120):=⟨Tryz.func120,by kernel_rfl,by kernel_rfl⟩
theorem is_CG1:FnIs Tryz.prog (124,Tryz.f124):=⟨Tryz.func124,by kernel_rfl,by kernel_rfl⟩
theorem is_still1:FnIs Tryz.prog (94,Tryz.f94):=⟨Tryz.func94,by kernel_rfl,by kernel_rfl⟩
theorem is_Runs1:FnIs Tryz.prog (82,Tryz.f82):=⟨Tryz.func82,by kernel_rfl,by kernel_rfl⟩
theorem is_tChk:FnIs Tryz.prog (43,Tryz.f43):=⟨Tryz.func43,by kernel_rfl,by kernel_rfl⟩
def inR (x lo hi:Int):Bool:=decide (lo≤x)&&decide (x≤hi)
abbrev s_inR:PureT:=Bz [cI,cI,cI] [.b] (fun _=>true) (fun x=>(inR x.1 x.2.1 x.2.2.1,()))
abbrev TBo:=Tree (TCTs [.b])
def So (a:Bool) (t:TBo):TBo:=bif a then t else .leaf (false,())
theorem Hb {a b:Bool} {t:TBo} (h:t.sat (fun y=>y=(b,()))):(So a t).sat (fun y=>y=(a&&b,())):=by
 unfold So
 cases a with
 | true=>rw [Bool.true_and];exact h
 | false=>exact rfl
theorem A2w (b:Bool):(Tree.leaf (b,()):TBo).sat (fun y=>y=(b,())):=rfl
theorem q_between2:A5 Tryz.prog 105 s_inR:=C5 (B6 Aw puOk_nil (fns_cons is_between2 A1)) 3 (fun x=>So (decide (x.2.1≤x.1)) (.leaf (decide (x.1≤x.2.2.1),()))) (fun x=>by kernel_rfl) fun _ _ _=>Hb (A2w _)
def plBt:List (Nat×PureT):=[(105,s_inR)]
theorem puBt:De Tryz.prog plBt:=puOk_cons is_between2.plain q_between2 (puOk_nil)
def Gx (h:TCT Bt):Bool:=inR h.1 0 4194304&&(inR h.2.1 0 4194304&&(inR h.2.2.1 2 32768&&((Int.tmod h.2.2.1 2==0)&&inR h.2.2.2.1 1 8192)))
def Hz (c:TCT Dc):Bool:=inR c.1 0 65536&&(inR c.2.1 (-4096) 4096&&inR c.2.2.1 (-4096) 4096)
abbrev A53:PureT:=Bz [Bt] [.b] (fun _=>true) (fun x=>(Gx x.1,()))
abbrev A54:PureT:=Bz [Dc] [.b] (fun _=>true) (fun x=>(Hz x.1,()))
def A55 (h:TCT Bt):TBo:=So (inR h.1 0 4194304) (So (inR h.2.1 0 4194304) (So (inR h.2.2.1 2 32768) (So (Int.tmod h.2.2.1 2==0) (.leaf (inR h.2.2.2.1 1 8192,())))))
def A56 (c:TCT Dc):TBo:=So (inR c.1 0 65536) (So (inR c.2.1 (-4096) 4096) (.leaf (inR c.2.2.1 (-4096) 4096,())))
theorem Yc (h:TCT Bt):(A55 h).sat (fun y=>y=(Gx h,())):=Hb (Hb (Hb (Hb (A2w _))))
theorem Yd (c:TCT Dc):(A56 c).sat (fun y=>y=(Hz c,())):=Hb (Hb (A2w _))
theorem A7t:A5 Tryz.prog 118 A53:=C5 (B6 Aw puBt (fns_cons is_validHoop A1)) 3 (fun x=>A55 x.1) (fun x=>by kernel_rfl) fun x _ _=>Yc x.1
theorem A7u:A5 Tryz.prog 121 A54:=C5 (B6 Aw puBt (fns_cons is_validCell A1)) 3 (fun x=>A56 x.1) (fun x=>by kernel_rfl) fun x _ _=>Yd x.1
def Ga (m:TCT Bg):Bool:=m.2.1.1==0&&m.2.1.2.1==0
def Il (b:TCT A2):Bool:=I5 b.1 b.2.1
abbrev Be0:PureT:=Bz [Bt] [.b] (fun _=>true) (fun x=>(!Gx x.1,()))
abbrev Be1:PureT:=Bz [Dc] [.b] (fun _=>true) (fun x=>(!Hz x.1,()))
abbrev B5u:PureT:=Bz [A2] [.b] (fun _=>true) (fun x=>(!Il x.1,()))
abbrev B5v:PureT:=Bz [Bg] [.b] (fun _=>true) (fun x=>(!Ga x.1,()))
abbrev B5w:PureT:=Bz [cPt] [.b] (fun _=>true) (fun x=>(!fpt x.1.1 x.1.2.1,()))
theorem Bil:A5 Tryz.prog 117 Be0:=C5 (B6 Aw (puOk_cons is_validHoop.plain A7t puOk_nil) (fns_cons is_Check1 A1)) 3 (fun x=>.leaf (!Gx x.1,())) (fun x=>by kernel_rfl) fun _ _ _=>rfl
theorem Bim:A5 Tryz.prog 120 Be1:=C5 (B6 Aw (puOk_cons is_validCell.plain A7u puOk_nil) (fns_cons is_Check2 A1)) 3 (fun x=>.leaf (!Hz x.1,())) (fun x=>by kernel_rfl) fun _ _ _=>rfl
theorem Ye (b:Bool):(okE b != 0)=!b:=by unfold okE;cases b <;> rfl
theorem Be2:A5 Tryz.prog 124 B5u:=C5 (B6 Aw (puOk_cons is_CheckBall.plain Wj puOk_nil) (fns_cons is_CG1 A1)) 3 (fun x=>.leaf (okE (I5 x.1.1 x.1.2.1)!=0,())) (fun x=>by kernel_rfl) fun x _ _=>by
 show (okE (I5 x.1.1 x.1.2.1)!=0,())=(!Il x.1,())
 rw [Ye];rfl
theorem Be3:A5 Tryz.prog 94 B5v:=C5 (B6 Aw puOk_nil (fns_cons is_still1 A1)) 3 (fun x=>.leaf (!(x.1.2.1.1==0&&(x.1.2.1.2.1==0&&true)),())) (fun x=>by kernel_rfl) fun x _ _=>by
 show (!(x.1.2.1.1==0&&(x.1.2.1.2.1==0&&true)),())=(!Ga x.1,())
 rw [Bool.and_true];rfl
theorem Be4:A5 Tryz.prog 82 B5w:=C5 (B6 Aw (puOk_cons is_tChk.plain Lm puOk_nil) (fns_cons is_Runs1 A1)) 3 (fun x=>.leaf (Hy x.1.1 x.1.2.1 != 0,())) (fun x=>by kernel_rfl) fun x _ _=>by
 show (Hy x.1.1 x.1.2.1 != 0,())=(!fpt x.1.1 x.1.2.1,())
 unfold Hy
 cases fpt x.1.1 x.1.2.1 <;> rfl
def plCl:List (Nat×PureT):=[(117,Be0),(120,Be1),(124,B5u),(94,B5v),(82,B5w)]
theorem puCl:De Tryz.prog plCl:=puOk_cons is_Check1.plain Bil (puOk_cons is_Check2.plain Bim (puOk_cons is_CG1.plain Be2 (puOk_cons is_still1.plain Be3 (puOk_cons is_Runs1.plain Be4 puOk_nil))))
theorem is_ixHoop:FnIs Tryz.prog (148,Tryz.f148):=⟨Tryz.func148,by kernel_rfl,by kernel_rfl⟩
theorem is_cfHoop:FnIs Tryz.prog (116,Tryz.f116):=⟨Tryz.func116,by kernel_rfl,by kernel_rfl⟩
abbrev J2:List SK:=[]
def Ew (k:SKTs J2) (x:TCT (Bt)):Bool:=!Gx x
noncomputable def A2x:Code:=(Ak (bodyOf Tryz.f148)).getD 0 .skip
def Kk:Lay:={ keys:=[0,1,7,8],ks:=[.d (.sl (Bt)),.f 117 [] J2,.d cI,.d cI],bs:=[],n:=19,nx:=1000,marks:=[] }
def Al3:Lay:={ keys:=[4],ks:=[.d cI],bs:=[],n:=19,nx:=1000,marks:=[] }
def Al4:Lay:={ keys:=[],ks:=[],bs:=[],n:=19,nx:=1000,marks:=[] }
def Ja:XE→Lay
 | .ret=>Al3
 | _=>Al4
def A2y (k:SKTs J2) (l:List (TCT (Bt))) (n i:Int):Kk.T:=((l,((),k),n,i,()),())
def Sp (i:Int):A0 Ja:=⟨.ret,((i,()),())⟩
def Sq:A0 Ja:=⟨.exit 0,((),())⟩
def Lh (k:SKTs J2) (l:List (TCT (Bt))) (n:Int) (x:TCT (Bt)) (i:Int):Tree (Kk.T⊕A0 Ja):=bif Ew k x then .leaf (.inr (Sp i)) else .leaf (.inl (A2y k l n (W64 (i+1))))
def Al5 (k:SKTs J2) (l:List (TCT (Bt))) (n i:Int):Tree (Kk.T⊕A0 Ja) :=
 bif decide (i<n) then bif decide (0≤i∧i<(l.length:Int)) then Lh k l n (B7 l i.toNat (B9 (Bt))) i else .fail else .leaf (.inr Sq)
def Rc (g:Kk.T):Tree (A0 Ja) :=
 .br (Jt g.1.2.2.1 g.1.2.2.2.1 g.1.1) (.br (g.1.1.any (Ew g.1.2.1.2)) (.leaf (Sp (g.1.1.findIdx (Ew g.1.2.1.2)))) (.leaf Sq)) .fail
theorem Aph:Bc Tryz.prog 148 A2x (Bd Kk Ja Rc):=by
 refine G7 (X:=ctx Tryz.prog plCl []) (B6 Aw puCl A1) 7 148 (fun _=>none) (fun _ _ f h=>by simp at h) Kk Ja (fun e=>by cases e <;> exact Nat.le_refl _) Rc (fun g=>Al5 g.1.2.1.2 g.1.1 g.1.2.2.1 g.1.2.2.2.1) (fun g=>by kernel_rfl) ?_
 rintro ⟨⟨l,⟨⟨⟩,k⟩,n,i,⟨⟩⟩,⟨⟩⟩ R hw hf
 obtain ⟨hf,h0⟩:=hf
 by_cases hc:n=(l.length:Int)∧i=0
 ·obtain ⟨rfl,rfl⟩:=hc
  have hf:=hf (decide_eq_true ⟨rfl,rfl⟩)
  refine Any l (B9 (Bt)) (G3 hw.1.1) (fun n i _=>A2y k l n i) (fun x i (_:Unit)=>bif Ew k x then .inr (Sp i) else .inl ()) (fun _=>Sq) (fun _=>True) (fun x i _=>Lh k l l.length x i) (fun i _=>rfl) ?_ () trivial ?_
  ·intro i _ hi Q _ _ hw1 hQ
   show (Lh k l l.length l[i] i).sat Q
   unfold Lh
   rw [hw1]
   cases hp:Ew k l[i] with
   | true=>rw [hp] at hQ;exact hQ
   | false=>rw [hp] at hQ;exact hQ trivial
  ·rw [O0 (Ew k) (fun i=>Sp i) Sq l 0,Nat.zero_add]
   cases ha:l.any (Ew k) with
   | true=>exact hf.1 ha
   | false=>exact hf.2 ha
 ·exact (h0 (decide_eq_false hc)).elim
abbrev Api:PureT:=K0 [.d (.sl (Bt)),.f 117 [] J2] [cI] (fun _=>true) (fun x=>(bif x.1.any (Ew x.2.1.2) then (x.1.findIdx (Ew x.2.1.2):Int) else -1,()))
noncomputable def Apj:Ctx:=Ie Tryz.prog plCl [(148,Tryz.f148)] [((148,keyOf A2x),Bd Kk Ja Rc)]
theorem A7v:CtxOk Apj:=D6 Aw puCl (fns_cons is_ixHoop A1) (Cl rfl (by kernel_rfl) Aph)
def A7w (k:SKTs J2) (l:List (TCT (Bt))):Tree (Int×Unit):=bif Jt (l.length:Int) 0 l then bif l.any (Ew k) then .leaf ((l.findIdx (Ew k):Int),()) else .leaf (-1,()) else .fail
theorem A7x (k:SKTs J2) (l:List (TCT (Bt))):(A7w k l).sat (fun y=>y=(bif l.any (Ew k) then (l.findIdx (Ew k):Int) else -1,())):=by
 refine Mz (decide_eq_true ⟨rfl,rfl⟩) ?_
 cases l.any (Ew k) <;> exact rfl
theorem Apk:A5 Tryz.prog 148 Api:=O9 A7v 8 (fun x=>A7w x.2.1.2 x.1) (fun x=>by kernel_rfl) fun x _ _=>A7x _ _
abbrev A7y:PureT:=K0 [.d (.sl (Bt)),.f 117 [] J2] [.b] (fun _=>true) (fun x=>(x.1.any (Ew x.2.1.2),()))
theorem A7z (k:SKTs J2) (l:List (TCT (Bt))):(Tree.leaf (decide ((bif l.any (Ew k) then (l.findIdx (Ew k):Int) else -1)≥0),()):Tree (Bool×Unit)).sat (fun y=>y=(l.any (Ew k),())):=by
 rw [Qh];exact rfl
theorem Apl:A5 Tryz.prog 116 A7y:=O9 (B6 Aw (puOk_cons is_ixHoop.plain Apk puOk_nil) (fns_cons is_cfHoop A1)) 8 (fun x=>.leaf (decide ((bif x.1.any (Ew x.2.1.2) then (x.1.findIdx (Ew x.2.1.2):Int) else -1)≥0),())) (fun x=>by kernel_rfl) fun x _ _=>A7z _ _
theorem is_ixCell:FnIs Tryz.prog (149,Tryz.f149):=⟨Tryz.func149,by kernel_rfl,by kernel_rfl⟩
theorem is_cfCell:FnIs Tryz.prog (119,Tryz.f119):=⟨Tryz.func119,by kernel_rfl,by kernel_rfl⟩
abbrev J3:List SK:=[]
def Ex (k:SKTs J3) (x:TCT (Dc)):Bool:=!Hz x
noncomputable def A2z:Code:=(Ak (bodyOf Tryz.f149)).getD 0 .skip
def Kl:Lay:={ keys:=[0,1,7,8],ks:=[.d (.sl (Dc)),.f 120 [] J3,.d cI,.d cI],bs:=[],n:=19,nx:=1000,marks:=[] }
def Al6:Lay:={ keys:=[4],ks:=[.d cI],bs:=[],n:=19,nx:=1000,marks:=[] }
def Al7:Lay:={ keys:=[],ks:=[],bs:=[],n:=19,nx:=1000,marks:=[] }
def Jb:XE→Lay
 | .ret=>Al6
 | _=>Al7
def A30 (k:SKTs J3) (l:List (TCT (Dc))) (n i:Int):Kl.T:=((l,((),k),n,i,()),())
def Sr (i:Int):A0 Jb:=⟨.ret,((i,()),())⟩
def Ss:A0 Jb:=⟨.exit 0,((),())⟩
def Li (k:SKTs J3) (l:List (TCT (Dc))) (n:Int) (x:TCT (Dc)) (i:Int):Tree (Kl.T⊕A0 Jb):=bif Ex k x then .leaf (.inr (Sr i)) else .leaf (.inl (A30 k l n (W64 (i+1))))
def Al8 (k:SKTs J3) (l:List (TCT (Dc))) (n i:Int):Tree (Kl.T⊕A0 Jb) :=
 bif decide (i<n) then bif decide (0≤i∧i<(l.length:Int)) then Li k l n (B7 l i.toNat (B9 (Dc))) i else .fail else .leaf (.inr Ss)
def Re (g:Kl.T):Tree (A0 Jb) :=
 .br (Jt g.1.2.2.1 g.1.2.2.2.1 g.1.1) (.br (g.1.1.any (Ex g.1.2.1.2)) (.leaf (Sr (g.1.1.findIdx (Ex g.1.2.1.2)))) (.leaf Ss)) .fail
theorem Apm:Bc Tryz.prog 149 A2z (Bd Kl Jb Re):=by
 refine G7 (X:=ctx Tryz.prog plCl []) (B6 Aw puCl A1) 7 149 (fun _=>none) (fun _ _ f h=>by simp at h) Kl Jb (fun e=>by cases e <;> exact Nat.le_refl _) Re (fun g=>Al8 g.1.2.1.2 g.1.1 g.1.2.2.1 g.1.2.2.2.1) (fun g=>by kernel_rfl) ?_
 rintro ⟨⟨l,⟨⟨⟩,k⟩,n,i,⟨⟩⟩,⟨⟩⟩ R hw hf
 obtain ⟨hf,h0⟩:=hf
 by_cases hc:n=(l.length:Int)∧i=0
 ·obtain ⟨rfl,rfl⟩:=hc
  have hf:=hf (decide_eq_true ⟨rfl,rfl⟩)
  refine Any l (B9 (Dc)) (G3 hw.1.1) (fun n i _=>A30 k l n i) (fun x i (_:Unit)=>bif Ex k x then .inr (Sr i) else .inl ()) (fun _=>Ss) (fun _=>True) (fun x i _=>Li k l l.length x i) (fun i _=>rfl) ?_ () trivial ?_
  ·intro i _ hi Q _ _ hw1 hQ
   show (Li k l l.length l[i] i).sat Q
   unfold Li
   rw [hw1]
   cases hp:Ex k l[i] with
   | true=>rw [hp] at hQ;exact hQ
   | false=>rw [hp] at hQ;exact hQ trivial
  ·rw [O0 (Ex k) (fun i=>Sr i) Ss l 0,Nat.zero_add]
   cases ha:l.any (Ex k) with
   | true=>exact hf.1 ha
   | false=>exact hf.2 ha
 ·exact (h0 (decide_eq_false hc)).elim
abbrev Apn:PureT:=K0 [.d (.sl (Dc)),.f 120 [] J3] [cI] (fun _=>true) (fun x=>(bif x.1.any (Ex x.2.1.2) then (x.1.findIdx (Ex x.2.1.2):Int) else -1,()))
noncomputable def Apo:Ctx:=Ie Tryz.prog plCl [(149,Tryz.f149)] [((149,keyOf A2z),Bd Kl Jb Re)]
theorem A80:CtxOk Apo:=D6 Aw puCl (fns_cons is_ixCell A1) (Cl rfl (by kernel_rfl) Apm)
def A81 (k:SKTs J3) (l:List (TCT (Dc))):Tree (Int×Unit):=bif Jt (l.length:Int) 0 l then bif l.any (Ex k) then .leaf ((l.findIdx (Ex k):Int),()) else .leaf (-1,()) else .fail
theorem A82 (k:SKTs J3) (l:List (TCT (Dc))):(A81 k l).sat (fun y=>y=(bif l.any (Ex k) then (l.findIdx (Ex k):Int) else -1,())):=by
 refine Mz (decide_eq_true ⟨rfl,rfl⟩) ?_
 cases l.any (Ex k) <;> exact rfl
theorem App:A5 Tryz.prog 149 Apn:=O9 A80 8 (fun x=>A81 x.2.1.2 x.1) (fun x=>by kernel_rfl) fun x _ _=>A82 _ _
abbrev A83:PureT:=K0 [.d (.sl (Dc)),.f 120 [] J3] [.b] (fun _=>true) (fun x=>(x.1.any (Ex x.2.1.2),()))
theorem A84 (k:SKTs J3) (l:List (TCT (Dc))):(Tree.leaf (decide ((bif l.any (Ex k) then (l.findIdx (Ex k):Int) else -1)≥0),()):Tree (Bool×Unit)).sat (fun y=>y=(l.any (Ex k),())):=by
 rw [Qh];exact rfl
theorem Apq:A5 Tryz.prog 119 A83:=O9 (B6 Aw (puOk_cons is_ixCell.plain App puOk_nil) (fns_cons is_cfCell A1)) 8 (fun x=>.leaf (decide ((bif x.1.any (Ex x.2.1.2) then (x.1.findIdx (Ex x.2.1.2):Int) else -1)≥0),())) (fun x=>by kernel_rfl) fun x _ _=>A84 _ _
theorem is_ixBall:FnIs Tryz.prog (151,Tryz.f151):=⟨Tryz.func151,by kernel_rfl,by kernel_rfl⟩
theorem is_cfBall:FnIs Tryz.prog (123,Tryz.f123):=⟨Tryz.func123,by kernel_rfl,by kernel_rfl⟩
abbrev J4:List SK:=[]
def Ey (k:SKTs J4) (x:TCT (A2)):Bool:=!Il x
noncomputable def A31:Code:=(Ak (bodyOf Tryz.f151)).getD 0 .skip
def Km:Lay:={ keys:=[0,1,7,8],ks:=[.d (.sl (A2)),.f 124 [] J4,.d cI,.d cI],bs:=[],n:=19,nx:=1000,marks:=[] }
def Al9:Lay:={ keys:=[4],ks:=[.d cI],bs:=[],n:=19,nx:=1000,marks:=[] }
def Ala:Lay:={ keys:=[],ks:=[],bs:=[],n:=19,nx:=1000,marks:=[] }
def Jc:XE→Lay
 | .ret=>Al9
 | _=>Ala
def A32 (k:SKTs J4) (l:List (TCT (A2))) (n i:Int):Km.T:=((l,((),k),n,i,()),())
def Su (i:Int):A0 Jc:=⟨.ret,((i,()),())⟩
def Sv:A0 Jc:=⟨.exit 0,((),())⟩
def Lj (k:SKTs J4) (l:List (TCT (A2))) (n:Int) (x:TCT (A2)) (i:Int):Tree (Km.T⊕A0 Jc):=bif Ey k x then .leaf (.inr (Su i)) else .leaf (.inl (A32 k l n (W64 (i+1))))
def Alb (k:SKTs J4) (l:List (TCT (A2))) (n i:Int):Tree (Km.T⊕A0 Jc) :=
 bif decide (i<n) then bif decide (0≤i∧i<(l.length:Int)) then Lj k l n (B7 l i.toNat (B9 (A2))) i else .fail else .leaf (.inr Sv)
def Rf (g:Km.T):Tree (A0 Jc) :=
 .br (Jt g.1.2.2.1 g.1.2.2.2.1 g.1.1) (.br (g.1.1.any (Ey g.1.2.1.2)) (.leaf (Su (g.1.1.findIdx (Ey g.1.2.1.2)))) (.leaf Sv)) .fail
theorem Apr:Bc Tryz.prog 151 A31 (Bd Km Jc Rf):=by
 refine G7 (X:=ctx Tryz.prog plCl []) (B6 Aw puCl A1) 7 151 (fun _=>none) (fun _ _ f h=>by simp at h) Km Jc (fun e=>by cases e <;> exact Nat.le_refl _) Rf (fun g=>Alb g.1.2.1.2 g.1.1 g.1.2.2.1 g.1.2.2.2.1) (fun g=>by kernel_rfl) ?_
 rintro ⟨⟨l,⟨⟨⟩,k⟩,n,i,⟨⟩⟩,⟨⟩⟩ R hw hf
 obtain ⟨hf,h0⟩:=hf
 by_cases hc:n=(l.length:Int)∧i=0
 ·obtain ⟨rfl,rfl⟩:=hc
  have hf:=hf (decide_eq_true ⟨rfl,rfl⟩)
  refine Any l (B9 (A2)) (G3 hw.1.1) (fun n i _=>A32 k l n i) (fun x i (_:Unit)=>bif Ey k x then .inr (Su i) else .inl ()) (fun _=>Sv) (fun _=>True) (fun x i _=>Lj k l l.length x i) (fun i _=>rfl) ?_ () trivial ?_
  ·intro i _ hi Q _ _ hw1 hQ
   show (Lj k l l.length l[i] i).sat Q
   unfold Lj
   rw [hw1]
   cases hp:Ey k l[i] with
   | true=>rw [hp] at hQ;exact hQ
   | false=>rw [hp] at hQ;exact hQ trivial
  ·rw [O0 (Ey k) (fun i=>Su i) Sv l 0,Nat.zero_add]
   cases ha:l.any (Ey k) with
   | true=>exact hf.1 ha
   | false=>exact hf.2 ha
 ·exact (h0 (decide_eq_false hc)).elim
abbrev Aps:PureT:=K0 [.d (.sl (A2)),.f 124 [] J4] [cI] (fun _=>true) (fun x=>(bif x.1.any (Ey x.2.1.2) then (x.1.findIdx (Ey x.2.1.2):Int) else -1,()))
noncomputable def Apt:Ctx:=Ie Tryz.prog plCl [(151,Tryz.f151)] [((151,keyOf A31),Bd Km Jc Rf)]
theorem A85:CtxOk Apt:=D6 Aw puCl (fns_cons is_ixBall A1) (Cl rfl (by kernel_rfl) Apr)
def A86 (k:SKTs J4) (l:List (TCT (A2))):Tree (Int×Unit):=bif Jt (l.length:Int) 0 l then bif l.any (Ey k) then .leaf ((l.findIdx (Ey k):Int),()) else .leaf (-1,()) else .fail
theorem A87 (k:SKTs J4) (l:List (TCT (A2))):(A86 k l).sat (fun y=>y=(bif l.any (Ey k) then (l.findIdx (Ey k):Int) else -1,())):=by
 refine Mz (decide_eq_true ⟨rfl,rfl⟩) ?_
 cases l.any (Ey k) <;> exact rfl
theorem Apu:A5 Tryz.prog 151 Aps:=O9 A85 8 (fun x=>A86 x.2.1.2 x.1) (fun x=>by kernel_rfl) fun x _ _=>A87 _ _
abbrev A88:PureT:=K0 [.d (.sl (A2)),.f 124 [] J4] [.b] (fun _=>true) (fun x=>(x.1.any (Ey x.2.1.2),()))
theorem A89 (k:SKTs J4) (l:List (TCT (A2))):(Tree.leaf (decide ((bif l.any (Ey k) then (l.findIdx (Ey k):Int) else -1)≥0),()):Tree (Bool×Unit)).sat (fun y=>y=(l.any (Ey k),())):=by
 rw [Qh];exact rfl
theorem Apv:A5 Tryz.prog 123 A88:=O9 (B6 Aw (puOk_cons is_ixBall.plain Apu puOk_nil) (fns_cons is_cfBall A1)) 8 (fun x=>.leaf (decide ((bif x.1.any (Ey x.2.1.2) then (x.1.findIdx (Ey x.2.1.2):Int) else -1)≥0),())) (fun x=>by kernel_rfl) fun x _ _=>A89 _ _
theorem is_ixMot:FnIs Tryz.prog (133,Tryz.f133):=⟨Tryz.func133,by kernel_rfl,by kernel_rfl⟩
theorem is_cfMot:FnIs Tryz.prog (93,Tryz.f93):=⟨Tryz.func93,by kernel_rfl,by kernel_rfl⟩
abbrev M4:List SK:=[]
def Ge (k:SKTs M4) (x:TCT (Bg)):Bool:=!Ga x
noncomputable def A8a:Code:=(Ak (bodyOf Tryz.f133)).getD 0 .skip
def N7:Lay:={ keys:=[0,1,7,8],ks:=[.d (.sl (Bg)),.f 94 [] M4,.d cI,.d cI],bs:=[],n:=19,nx:=1000,marks:=[] }
def Apw:Lay:={ keys:=[4],ks:=[.d cI],bs:=[],n:=19,nx:=1000,marks:=[] }
def Apx:Lay:={ keys:=[],ks:=[],bs:=[],n:=19,nx:=1000,marks:=[] }
def Lk:XE→Lay
 | .ret=>Apw
 | _=>Apx
def A8b (k:SKTs M4) (l:List (TCT (Bg))) (n i:Int):N7.T:=((l,((),k),n,i,()),())
def Xl (i:Int):A0 Lk:=⟨.ret,((i,()),())⟩
def Xm:A0 Lk:=⟨.exit 0,((),())⟩
def N8 (k:SKTs M4) (l:List (TCT (Bg))) (n:Int) (x:TCT (Bg)) (i:Int):Tree (N7.T⊕A0 Lk):=bif Ge k x then .leaf (.inr (Xl i)) else .leaf (.inl (A8b k l n (W64 (i+1))))
def Apy (k:SKTs M4) (l:List (TCT (Bg))) (n i:Int):Tree (N7.T⊕A0 Lk) :=
 bif decide (i<n) then bif decide (0≤i∧i<(l.length:Int)) then N8 k l n (B7 l i.toNat (B9 (Bg))) i else .fail else .leaf (.inr Xm)
def V0 (g:N7.T):Tree (A0 Lk) :=
 .br (Jt g.1.2.2.1 g.1.2.2.2.1 g.1.1) (.br (g.1.1.any (Ge g.1.2.1.2)) (.leaf (Xl (g.1.1.findIdx (Ge g.1.2.1.2)))) (.leaf Xm)) .fail
theorem Az5:Bc Tryz.prog 133 A8a (Bd N7 Lk V0):=by
 refine G7 (X:=ctx Tryz.prog plCl []) (B6 Aw puCl A1) 7 133 (fun _=>none) (fun _ _ f h=>by simp at h) N7 Lk (fun e=>by cases e <;> exact Nat.le_refl _) V0 (fun g=>Apy g.1.2.1.2 g.1.1 g.1.2.2.1 g.1.2.2.2.1) (fun g=>by kernel_rfl) ?_
 rintro ⟨⟨l,⟨⟨⟩,k⟩,n,i,⟨⟩⟩,⟨⟩⟩ R hw hf
 obtain ⟨hf,h0⟩:=hf
 by_cases hc:n=(l.length:Int)∧i=0
 ·obtain ⟨rfl,rfl⟩:=hc
  have hf:=hf (decide_eq_true ⟨rfl,rfl⟩)
  refine Any l (B9 (Bg)) (G3 hw.1.1) (fun n i _=>A8b k l n i) (fun x i (_:Unit)=>bif Ge k x then .inr (Xl i) else .inl ()) (fun _=>Xm) (fun _=>True) (fun x i _=>N8 k l l.length x i) (fun i _=>rfl) ?_ () trivial ?_
  ·intro i _ hi Q _ _ hw1 hQ
   show (N8 k l l.length l[i] i).sat Q
   unfold N8
   rw [hw1]
   cases hp:Ge k l[i] with
   | true=>rw [hp] at hQ;exact hQ
   | false=>rw [hp] at hQ;exact hQ trivial
  ·rw [O0 (Ge k) (fun i=>Xl i) Xm l 0,Nat.zero_add]
   cases ha:l.any (Ge k) with
   | true=>exact hf.1 ha
   | false=>exact hf.2 ha
 ·exact (h0 (decide_eq_false hc)).elim
abbrev Az6:PureT:=K0 [.d (.sl (Bg)),.f 94 [] M4] [cI] (fun _=>true) (fun x=>(bif x.1.any (Ge x.2.1.2) then (x.1.findIdx (Ge x.2.1.2):Int) else -1,()))
noncomputable def Az7:Ctx:=Ie Tryz.prog plCl [(133,Tryz.f133)] [((133,keyOf A8a),Bd N7 Lk V0)]
theorem Ad0:CtxOk Az7:=D6 Aw puCl (fns_cons is_ixMot A1) (Cl rfl (by kernel_rfl) Az5)
def Ags (k:SKTs M4) (l:List (TCT (Bg))):Tree (Int×Unit):=bif Jt (l.length:Int) 0 l then bif l.any (Ge k) then .leaf ((l.findIdx (Ge k):Int),()) else .leaf (-1,()) else .fail
theorem Ad1 (k:SKTs M4) (l:List (TCT (Bg))):(Ags k l).sat (fun y=>y=(bif l.any (Ge k) then (l.findIdx (Ge k):Int) else -1,())):=by
 refine Mz (decide_eq_true ⟨rfl,rfl⟩) ?_
 cases l.any (Ge k) <;> exact rfl
theorem Az8:A5 Tryz.prog 133 Az6:=O9 Ad0 8 (fun x=>Ags x.2.1.2 x.1) (fun x=>by kernel_rfl) fun x _ _=>Ad1 _ _
abbrev Agt:PureT:=K0 [.d (.sl (Bg)),.f 94 [] M4] [.b] (fun _=>true) (fun x=>(x.1.any (Ge x.2.1.2),()))
theorem Ad2 (k:SKTs M4) (l:List (TCT (Bg))):(Tree.leaf (decide ((bif l.any (Ge k) then (l.findIdx (Ge k):Int) else -1)≥0),()):Tree (Bool×Unit)).sat (fun y=>y=(l.any (Ge k),())):=by
 rw [Qh];exact rfl
theorem Az9:A5 Tryz.prog 93 Agt:=O9 (B6 Aw (puOk_cons is_ixMot.plain Az8 puOk_nil) (fns_cons is_cfMot A1)) 8 (fun x=>.leaf (decide ((bif x.1.any (Ge x.2.1.2) then (x.1.findIdx (Ge x.2.1.2):Int) else -1)≥0),())) (fun x=>by kernel_rfl) fun x _ _=>Ad2 _ _
theorem is_ixPt:FnIs Tryz.prog (127,Tryz.f127):=⟨Tryz.func127,by kernel_rfl,by kernel_rfl⟩
theorem is_cfPt:FnIs Tryz.prog (81,Tryz.f81):=⟨Tryz.func81,by kernel_rfl,by kernel_rfl⟩
abbrev Qp:List SK:=[]
def Jm (k:SKTs Qp) (x:TCT (cPt)):Bool:=!fpt x.1 x.2.1
noncomputable def Agu:Code:=(Ak (bodyOf Tryz.f127)).getD 0 .skip
def Rh:Lay:={ keys:=[0,1,7,8],ks:=[.d (.sl (cPt)),.f 82 [] Qp,.d cI,.d cI],bs:=[],n:=19,nx:=1000,marks:=[] }
def Aza:Lay:={ keys:=[4],ks:=[.d cI],bs:=[],n:=19,nx:=1000,marks:=[] }
def Azb:Lay:={ keys:=[],ks:=[],bs:=[],n:=19,nx:=1000,marks:=[] }
def Om:XE→Lay
 | .ret=>Aza
 | _=>Azb
def Agv (k:SKTs Qp) (l:List (TCT (cPt))) (n i:Int):Rh.T:=((l,((),k),n,i,()),())
def A57 (i:Int):A0 Om:=⟨.ret,((i,()),())⟩
def A58:A0 Om:=⟨.exit 0,((),())⟩
def Pv (k:SKTs Qp) (l:List (TCT (cPt))) (n:Int) (x:TCT (cPt)) (i:Int):Tree (Rh.T⊕A0 Om):=bif Jm k x then .leaf (.inr (A57 i)) else .leaf (.inl (Agv k l n (W64 (i+1))))
def Azc (k:SKTs Qp) (l:List (TCT (cPt))) (n i:Int):Tree (Rh.T⊕A0 Om) :=
 bif decide (i<n) then bif decide (0≤i∧i<(l.length:Int)) then Pv k l n (B7 l i.toNat (B9 (cPt))) i else .fail else .leaf (.inr A58)
def Yf (g:Rh.T):Tree (A0 Om) :=
 .br (Jt g.1.2.2.1 g.1.2.2.2.1 g.1.1) (.br (g.1.1.any (Jm g.1.2.1.2)) (.leaf (A57 (g.1.1.findIdx (Jm g.1.2.1.2)))) (.leaf A58)) .fail
theorem B8r:Bc Tryz.prog 127 Agu (Bd Rh Om Yf):=by
 refine G7 (X:=ctx Tryz.prog plCl []) (B6 Aw puCl A1) 7 127 (fun _=>none) (fun _ _ f h=>by simp at h) Rh Om (fun e=>by cases e <;> exact Nat.le_refl _) Yf (fun g=>Azc g.1.2.1.2 g.1.1 g.1.2.2.1 g.1.2.2.2.1) (fun g=>by kernel_rfl) ?_
 rintro ⟨⟨l,⟨⟨⟩,k⟩,n,i,⟨⟩⟩,⟨⟩⟩ R hw hf
 obtain ⟨hf,h0⟩:=hf
 by_cases hc:n=(l.length:Int)∧i=0
 ·obtain ⟨rfl,rfl⟩:=hc
  have hf:=hf (decide_eq_true ⟨rfl,rfl⟩)
  refine Any l (B9 (cPt)) (G3 hw.1.1) (fun n i _=>Agv k l n i) (fun x i (_:Unit)=>bif Jm k x then .inr (A57 i) else .inl ()) (fun _=>A58) (fun _=>True) (fun x i _=>Pv k l l.length x i) (fun i _=>rfl) ?_ () trivial ?_
  ·intro i _ hi Q _ _ hw1 hQ
   show (Pv k l l.length l[i] i).sat Q
   unfold Pv
   rw [hw1]
   cases hp:Jm k l[i] with
   | true=>rw [hp] at hQ;exact hQ
   | false=>rw [hp] at hQ;exact hQ trivial
  ·rw [O0 (Jm k) (fun i=>A57 i) A58 l 0,Nat.zero_add]
   cases ha:l.any (Jm k) with
   | true=>exact hf.1 ha
   | false=>exact hf.2 ha
 ·exact (h0 (decide_eq_false hc)).elim
abbrev B8s:PureT:=K0 [.d (.sl (cPt)),.f 82 [] Qp] [cI] (fun _=>true) (fun x=>(bif x.1.any (Jm x.2.1.2) then (x.1.findIdx (Jm x.2.1.2):Int) else -1,()))
noncomputable def B8t:Ctx:=Ie Tryz.prog plCl [(127,Tryz.f127)] [((127,keyOf Agu),Bd Rh Om Yf)]
theorem Alc:CtxOk B8t:=D6 Aw puCl (fns_cons is_ixPt A1) (Cl rfl (by kernel_rfl) B8r)
def Apz (k:SKTs Qp) (l:List (TCT (cPt))):Tree (Int×Unit):=bif Jt (l.length:Int) 0 l then bif l.any (Jm k) then .leaf ((l.findIdx (Jm k):Int),()) else .leaf (-1,()) else .fail
theorem Ald (k:SKTs Qp) (l:List (TCT (cPt))):(Apz k l).sat (fun y=>y=(bif l.any (Jm k) then (l.findIdx (Jm k):Int) else -1,())):=by
 refine Mz (decide_eq_true ⟨rfl,rfl⟩) ?_
 cases l.any (Jm k) <;> exact rfl
theorem B8u:A5 Tryz.prog 127 B8s:=O9 Alc 8 (fun x=>Apz x.2.1.2 x.1) (fun x=>by kernel_rfl) fun x _ _=>Ald _ _
abbrev Aq0:PureT:=K0 [.d (.sl (cPt)),.f 82 [] Qp] [.b] (fun _=>true) (fun x=>(x.1.any (Jm x.2.1.2),()))
theorem Ale (k:SKTs Qp) (l:List (TCT (cPt))):(Tree.leaf (decide ((bif l.any (Jm k) then (l.findIdx (Jm k):Int) else -1)≥0),()):Tree (Bool×Unit)).sat (fun y=>y=(l.any (Jm k),())):=by
 rw [Qh];exact rfl
theorem B8v:A5 Tryz.prog 81 Aq0:=O9 (B6 Aw (puOk_cons is_ixPt.plain B8u puOk_nil) (fns_cons is_cfPt A1)) 8 (fun x=>.leaf (decide ((bif x.1.any (Jm x.2.1.2) then (x.1.findIdx (Jm x.2.1.2):Int) else -1)≥0),())) (fun x=>by kernel_rfl) fun x _ _=>Ale _ _
end St
end V
end Go.Proofs.YtcfanlgpkefogaaGreat
namespace Go.Proofs.YtcfanlgpkefogaaGreat
open Go.RowKit
namespace V
namespace St
theorem is_lposts:FnIs Tryz.prog (74,Tryz.f74):=⟨Tryz.func74,by kernel_rfl,by kernel_rfl⟩
theorem is_lwires:FnIs Tryz.prog (114,Tryz.f114):=⟨Tryz.func114,by kernel_rfl,by kernel_rfl⟩
theorem is_turned:FnIs Tryz.prog (84,Tryz.f84):=⟨Tryz.func84,by kernel_rfl,by kernel_rfl⟩
abbrev kLw:List SK:=[.d .s,.d cI,.d cI,.d cI,.d (.sl Bt),.d cI,.d cI,.d cI,.d cI,.d cI,.d (.sl Dc)]
def Oa (x:SKTs kLw):TCT A9:=(x.1,x.2.1,x.2.2.1,x.2.2.2.1,x.2.2.2.2.1,((x.2.2.2.2.2.1,x.2.2.2.2.2.2.1,()),x.2.2.2.2.2.2.2.1,()),x.2.2.2.2.2.2.2.2.1,x.2.2.2.2.2.2.2.2.2.1,x.2.2.2.2.2.2.2.2.2.2.1,())
def Ez (l:TCT A9):SKTs kLw:=(l.1,l.2.1,l.2.2.1,l.2.2.2.1,l.2.2.2.2.1,l.2.2.2.2.2.1.1.1,l.2.2.2.2.2.1.1.2.1,l.2.2.2.2.2.1.2.1,l.2.2.2.2.2.2.1,l.2.2.2.2.2.2.2.1,l.2.2.2.2.2.2.2.2.1,())
def Be (l:TCT A9):List (TCT Bt):=l.2.2.2.2.1
def Me (l:TCT A9):TCT A6:=l.2.2.2.2.2.1
def dW (h:TCT Bt):Int:=W64 (W64 (Int.tdiv h.2.2.1 2)+h.2.2.2.1)
def Gy (x y r:Int):TCT A6:=((x,y,()),r,())
def w2 (h:TCT Bt):List (TCT A6):=bif h.2.2.2.2.1 then [Gy h.1 (W64 (h.2.1-dW h)) h.2.2.2.1,Gy h.1 (W64 (h.2.1+dW h)) h.2.2.2.1] else [Gy (W64 (h.1-dW h)) h.2.1 h.2.2.2.1,Gy (W64 (h.1+dW h)) h.2.1 h.2.2.2.1]
def Cd (l:TCT A9):List (TCT A6):=(Be l).flatMap w2++[Me l]
noncomputable def Be5:Code:=(Ak (bodyOf Tryz.f74)).getD 0 .skip
def A22:Lay:={ keys:=[1,2,7,8,9],ks:=[.p 0 0 0 0,.o 33 A6,.d (.sl Bt),.d cI,.d cI],bs:=[(0,36,kLw)],n:=24,nx:=1000,marks:=[] }
def Be6:Lay:={ keys:=[1,2],ks:=[.p 0 0 0 0,.o 33 A6],bs:=[(0,36,kLw)],n:=24,nx:=1000,marks:=[] }
def A59:XE→Lay:=fun _=>Be6
def Aq1 (x:SKTs kLw) (hs:List (TCT Bt)) (n:Int) (i:Int) (o:List (TCT A6)):A22.T:=(((),o,hs,n,i,()),(x,()))
def A33 (x:SKTs kLw) (o:List (TCT A6)):A0 A59:=⟨.exit 0,(((),o,()),(x,()))⟩
def Ad3 (x:SKTs kLw) (hs:List (TCT Bt)) (n i:Int) (o w:List (TCT A6)):Tree (A22.T⊕A0 A59):=bif Eu o w 24 then .leaf (.inl (Aq1 x hs n (W64 (i+1)) (o++w))) else .fail
def A5a (x:SKTs kLw) (hs:List (TCT Bt)) (n i:Int) (o:List (TCT A6)) (h:TCT Bt):Tree (A22.T⊕A0 A59) :=
 bif h.2.2.2.2.1 then Ad3 x hs n i o [Gy (W64 (h.1-0)) (W64 (h.2.1-dW h)) h.2.2.2.1,Gy (W64 (h.1+0)) (W64 (h.2.1+dW h)) h.2.2.2.1]
 else Ad3 x hs n i o [Gy (W64 (h.1-dW h)) (W64 (h.2.1-0)) h.2.2.2.1,Gy (W64 (h.1+dW h)) (W64 (h.2.1+0)) h.2.2.2.1]
def A8c (g:A22.T):Tree (A22.T⊕A0 A59) :=
 bif decide (g.1.2.2.2.2.1<g.1.2.2.2.1) then bif decide (0≤g.1.2.2.2.2.1∧g.1.2.2.2.2.1<((g.1.2.2.1:List (TCT Bt)).length:Int)) then A5a g.2.1 g.1.2.2.1 g.1.2.2.2.1 g.1.2.2.2.2.1 g.1.2.1 (B7 g.1.2.2.1 (Int.toNat g.1.2.2.2.2.1) (B9 Bt)) else .fail else .leaf (.inr (A33 g.2.1 g.1.2.1))
def Aq2 (g:A22.T):Nat:=(g.1.2.2.1:List (TCT Bt)).length+1
noncomputable def Be7:Ctx:=ctx Tryz.prog [] [(114,Tryz.f114),(84,Tryz.f84)]
theorem Aq3:CtxOk Be7:=B6 Aw puOk_nil (fns_cons is_lwires (fns_cons is_turned A1))
theorem Bin:Bc Tryz.prog 74 Be5 (Bd A22 A59 (E5 [.exit 0] A8c Aq2)):=Bv Aq3 7 _ A22 A59 (fun _=>Nat.le_refl _) [.exit 0] A8c Aq2 (fun g=>by kernel_rfl)
noncomputable def Bio:Ctx:=Ie Tryz.prog [] [(74,Tryz.f74)] [((74,2),Bd A22 A59 (E5 [.exit 0] A8c Aq2))]
theorem Azd:CtxOk Bio:=D6 Aw puOk_nil (fns_cons is_lposts A1) (Cl (by kernel_rfl) (by kernel_rfl) Bin)
def Aze (l:TCT A9):Option (A0 A59):=iter A8c ((Be l).length+1) (Aq1 (Ez l) (Be l) (Be l).length 0 [])
abbrev TPo:=Tree (TCTs [.sl A6])
def Ad4 (r:Be6.T):TPo:=bif Eu r.1.2.1 [Me (Oa r.2.1)] 24 then .leaf (r.1.2.1++[Me (Oa r.2.1)],()) else .fail
def B8w (l:TCT A9):TPo:=bif isE (.exit 0) (Aze l) then Ad4 (D4 (.exit 0) (Aze l)) else .fail
abbrev N9:PureT:=Bz [A9] [.sl A6] (fun x=>decide ((Be x.1).length≤1000)) (fun x=>(Cd x.1,()))
theorem V1 {α β E:Type} (w:α→List β) (ex:List β→E):∀ (l:List α) (i:Nat) (s:List β),Sg (fun _ x s=>some (.inl (s++w x))) (fun s=>some (ex s)) i l s=some (ex (s++l.flatMap w))
 | [],_,s=>by simp [Sg]
 | x::l,i,s=>by simp only [Sg];rw [V1 w ex l (i+1)];simp [List.append_assoc]
theorem Ad5 (h:TCT Bt):(w2 h).length=2:=by unfold w2;cases h.2.2.2.2.1 <;> rfl
theorem Sw (l:List (TCT Bt)):(l.flatMap w2).length=2*l.length:=by
 induction l with
 | nil=>rfl
 | cons h l ih =>
  have e:((h::l).flatMap w2).length=(w2 h).length+(l.flatMap w2).length:=by rw [List.flatMap_cons,List.length_append]
  rw [e,ih,Ad5,List.length_cons];omega
theorem A34 {o w:List (TCT A6)} (h:o.length+w.length≤4000):Eu o w 24=true:=by
 rw [Gf];exact decide_eq_true (by omega)
theorem B8x {h:TCT Bt} (hw:WFD Bt h):W64 (h.1-0)=h.1∧W64 (h.1+0)=h.1∧W64 (h.2.1-0)=h.2.1∧W64 (h.2.1+0)=h.2.1:=by
 obtain ⟨x,y,g,w,a,⟨⟩⟩:=h
 obtain ⟨h1,h2,_⟩:=hw
 have h1 : -9223372036854775808≤x∧x≤9223372036854775807:=h1
 have h2 : -9223372036854775808≤y∧y≤9223372036854775807:=h2
 exact ⟨by rw [Int.sub_zero];exact Bi h1.1 h1.2,by rw [Int.add_zero];exact Bi h1.1 h1.2,by rw [Int.sub_zero];exact Bi h2.1 h2.2,by rw [Int.add_zero];exact Bi h2.1 h2.2⟩
theorem Azf {l:TCT A9} (hw:∀ h ∈ Be l,WFD Bt h) (hl:(Be l).length≤1000):Aze l=some (A33 (Ez l) ((Be l).flatMap w2)):=by
 unfold Aze
 have key:=G8 (st:=A8c) (Be l) (fun i o=>Aq1 (Ez l) (Be l) (Be l).length (i:Int) o) (fun _ h o=>some (.inl (o++w2 h))) (fun o=>some (A33 (Ez l) o)) (fun i o=>o.length=2*i)
  (fun i o hi hI=>by
   simp only
   refine ⟨?_,by rw [List.length_append,hI,Ad5];omega⟩
   show (bif decide ((i:Int)<((Be l).length:Int)) then bif decide (0≤(i:Int)∧(i:Int)<((Be l).length:Int)) then A5a (Ez l) (Be l) (Be l).length (i:Int) o (B7 (Be l) (Int.toNat (i:Int)) (B9 Bt)) else .fail else .leaf (.inr (A33 (Ez l) o))).run=_
   rw [decide_eq_true (show (i:Int)<((Be l).length:Int) by omega),decide_eq_true (show 0≤(i:Int)∧(i:Int)<((Be l).length:Int) by omega),show Int.toNat (i:Int)=i by omega,E8 hi]
   obtain ⟨e1,e2,e3,e4⟩:=B8x (hw _ (List.getElem_mem hi))
   simp only [cond_true]
   unfold A5a w2 Ad3
   rw [e1,e2,e3,e4,Bi (n:=(i:Int)+1) (by omega) (by omega)]
   cases (Be l)[i].2.2.2.2.1 with
   | true =>
    simp only [cond_true]
    rw [A34 (by simp only [List.length_cons,List.length_nil,hI];omega)]
    rfl
   | false =>
    simp only [cond_false]
    rw [A34 (by simp only [List.length_cons,List.length_nil,hI];omega)]
    rfl)
  (fun o e hI he=>by
   cases he
   show (bif decide (((Be l).length:Int)<((Be l).length:Int)) then _ else Tree.leaf (Sum.inr (A33 (Ez l) o)):Tree (A22.T⊕A0 A59)).run=_
   rw [decide_eq_false (show ¬ ((Be l).length:Int)<((Be l).length:Int) by omega)]
   rfl)
  (Be l).length 0 [] (A33 (Ez l) ((Be l).flatMap w2)) ((Be l).length+1) (by omega) (by omega) rfl (by rw [List.drop_zero,V1,List.nil_append])
 exact key
theorem A5b:A5 Tryz.prog 74 N9:=C5 Azd 7 (fun x=>B8w x.1) (fun x=>by kernel_rfl) fun x hok hw=>by
 have hl:(Be x.1).length≤1000:=of_decide_eq_true hok
 show (B8w x.1).sat _
 unfold B8w
 rw [Azf (B5d hw.1.2.2.2.2.1) hl]
 show (Ad4 (((),(Be x.1).flatMap w2,()),(Ez x.1,()))).sat _
 unfold Ad4
 simp only
 rw [A34 (by rw [Sw];simp only [List.length_cons,List.length_nil];omega)]
 exact rfl
end St
end V
end Go.Proofs.YtcfanlgpkefogaaGreat
namespace Go.Proofs.YtcfanlgpkefogaaGreat
open Go.RowKit
namespace V
namespace St
def A23:Lay:={ keys:=[1,3,4],ks:=[.p 0 0 0 0,.o 33 A6,.d cI],bs:=[(0,36,kLw)],n:=73,nx:=1000,marks:=[] }
def Be9:Lay:={ keys:=[1,3],ks:=[.p 0 0 0 0,.o 33 A6],bs:=[(0,36,kLw)],n:=73,nx:=1000,marks:=[] }
def A5c:XE→Lay:=fun _=>Be9
def Aq4 (x:SKTs kLw) (i:Int) (o:List (TCT A6)):A23.T:=(((),o,i,()),(x,()))
def A35 (x:SKTs kLw) (o:List (TCT A6)):A0 A5c:=⟨.exit 0,(((),o,()),(x,()))⟩
def Ad6 (x:SKTs kLw) (i:Int) (o w:List (TCT A6)):Tree (A23.T⊕A0 A5c):=bif Eu o w 24 then .leaf (.inl (Aq4 x (W64 (i+1)) (o++w))) else .fail
def A5d (x:SKTs kLw) (i:Int) (o:List (TCT A6)) (h:TCT Bt):Tree (A23.T⊕A0 A5c) :=
 bif h.2.2.2.2.1 then Ad6 x i o [Gy h.1 (W64 (h.2.1-dW h)) h.2.2.2.1,Gy h.1 (W64 (h.2.1+dW h)) h.2.2.2.1]
 else Ad6 x i o [Gy (W64 (h.1-dW h)) h.2.1 h.2.2.2.1,Gy (W64 (h.1+dW h)) h.2.1 h.2.2.2.1]
def A8d (g:A23.T):Tree (A23.T⊕A0 A5c) :=
 bif decide (g.1.2.2.1<((g.2.1.2.2.2.2.1:List (TCT Bt)).length:Int)) then bif decide (0≤g.1.2.2.1∧g.1.2.2.1<((g.2.1.2.2.2.2.1:List (TCT Bt)).length:Int)) then A5d g.2.1 g.1.2.2.1 g.1.2.1 (B7 g.2.1.2.2.2.2.1 (Int.toNat g.1.2.2.1) (B9 Bt)) else .fail else .leaf (.inr (A35 g.2.1 g.1.2.1))
def Aq5 (g:A23.T):Nat:=(g.2.1.2.2.2.2.1:List (TCT Bt)).length+1
noncomputable def Bea:Ctx:=ctx Tryz.prog [] []
theorem Aq6:CtxOk Bea:=B6 Aw puOk_nil A1
def Azh (l:TCT A9):Option (A0 A5c):=iter A8d ((Be l).length+1) (Aq4 (Ez l) 0 [])
def Ad7 (r:Be9.T):TPo:=bif Eu r.1.2.1 [Me (Oa r.2.1)] 24 then .leaf (r.1.2.1++[Me (Oa r.2.1)],()) else .fail
def B8y (l:TCT A9):TPo:=bif isE (.exit 0) (Azh l) then Ad7 (D4 (.exit 0) (Azh l)) else .fail
theorem Azi {l:TCT A9} (hl:(Be l).length≤1000):Azh l=some (A35 (Ez l) ((Be l).flatMap w2)):=by
 unfold Azh
 have key:=G8 (st:=A8d) (Be l) (fun i o=>Aq4 (Ez l) (i:Int) o) (fun _ h o=>some (.inl (o++w2 h))) (fun o=>some (A35 (Ez l) o)) (fun i o=>o.length=2*i)
  (fun i o hi hI=>by
   simp only
   refine ⟨?_,by rw [List.length_append,hI,Ad5];omega⟩
   show (bif decide ((i:Int)<((Be l).length:Int)) then bif decide (0≤(i:Int)∧(i:Int)<((Be l).length:Int)) then A5d (Ez l) (i:Int) o (B7 (Be l) (Int.toNat (i:Int)) (B9 Bt)) else .fail else .leaf (.inr (A35 (Ez l) o))).run=_
   rw [decide_eq_true (show (i:Int)<((Be l).length:Int) by omega),decide_eq_true (show 0≤(i:Int)∧(i:Int)<((Be l).length:Int) by omega),show Int.toNat (i:Int)=i by omega,E8 hi]
   simp only [cond_true]
   unfold A5d w2 Ad6
   rw [Bi (n:=(i:Int)+1) (by omega) (by omega)]
   cases (Be l)[i].2.2.2.2.1 with
   | true =>
    simp only [cond_true]
    rw [A34 (by simp only [List.length_cons,List.length_nil,hI];omega)]
    rfl
   | false =>
    simp only [cond_false]
    rw [A34 (by simp only [List.length_cons,List.length_nil,hI];omega)]
    rfl)
  (fun o e hI he=>by
   cases he
   show (bif decide (((Be l).length:Int)<((Be l).length:Int)) then _ else Tree.leaf (Sum.inr (A35 (Ez l) o)):Tree (A23.T⊕A0 A5c)).run=_
   rw [decide_eq_false (show ¬ ((Be l).length:Int)<((Be l).length:Int) by omega)]
   rfl)
  (Be l).length 0 [] (A35 (Ez l) ((Be l).flatMap w2)) ((Be l).length+1) (by omega) (by omega) rfl (by rw [List.drop_zero,V1,List.nil_append])
 exact key
end St
end V
end Go.Proofs.YtcfanlgpkefogaaGreat
namespace Go.Proofs.YtcfanlgpkefogaaGreat
open Go.RowKit
namespace V
namespace St
theorem is_vname:FnIs Tryz.prog (115,Tryz.f115):=⟨Tryz.func115,by kernel_rfl,by kernel_rfl⟩
theorem is_vname1:FnIs Tryz.prog (147,Tryz.f147):=⟨Tryz.func147,by kernel_rfl,by kernel_rfl⟩
theorem is_sCont:FnIs Tryz.prog (146,Tryz.f146):=⟨Tryz.func146,by kernel_rfl,by kernel_rfl⟩
theorem is_sIdx:FnIs Tryz.prog (165,Tryz.f165):=⟨Tryz.func165,by kernel_rfl,by kernel_rfl⟩
theorem is_sidx:FnIs Tryz.prog (170,Tryz.f170):=⟨Tryz.func170,by kernel_rfl,by kernel_rfl⟩
def A8f (r:Int):Bool:=(decide (r<97)||decide (r>122))&&(decide (r<48)||decide (r>57))
def Aq7 (r:Int):TBo:=bif decide (r<97) then bif decide (r<48) then .leaf (true,()) else .leaf (decide (r>57),()) else bif decide (r>122) then bif decide (r<48) then .leaf (true,()) else .leaf (decide (r>57),()) else .leaf (false,())
abbrev Aq8:PureT:=Bz [.i .i32] [.b] (fun _=>true) (fun x=>(A8f x.1,()))
theorem Aq9 (r:Int):(Aq7 r).sat (fun y=>y=(A8f r,())):=by
 unfold Aq7 A8f
 cases decide (r<97) <;> cases decide (r>122) <;> cases decide (r<48) <;> exact rfl
theorem Aqa:A5 Tryz.prog 147 Aq8:=C5 (B6 Aw puOk_nil (fns_cons is_vname1 A1)) 3 (fun x=>Aq7 x.1) (fun x=>by kernel_rfl) fun x _ _=>Aq9 x.1
def plNm:List (Nat×PureT):=[(147,Aq8)]
theorem puNm:De Tryz.prog plNm:=puOk_cons is_vname1.plain Aqa puOk_nil
def nmT (t:ByteArray):Nat→Nat→TBo
 | 0,_=>.fail
 | n+1,pos=>bif Nat.ble (pos+1) t.size then
   bif Iu .i64 (pos:Int)&&Iu .i32 ((Utf8.decode t pos).1:Int) then
    bif A8f ((Utf8.decode t pos).1:Int)==true then .leaf (!decide ((pos:Int)≥0),()) else nmT t n (pos+(Utf8.decode t pos).2)
   else .fail
  else .leaf (!decide ((-1:Int)≥0),())
def A5e (t:ByteArray):TBo:=bif Iu .i64 (t.size:Int) then bif decide ((t.size:Int)≥1) then bif Iu .i64 (t.size:Int) then bif decide ((t.size:Int)≤20) then nmT t 21 0 else .leaf (false,()) else .fail else .leaf (false,()) else .fail
noncomputable def Beb:Ctx:=Anz 21 Tryz.prog plNm [(115,Tryz.f115),(146,Tryz.f146),(165,Tryz.f165),(170,Tryz.f170)]
theorem Azj:CtxOk Beb:=Qi Aw puNm (fns_cons is_vname (fns_cons is_sCont (fns_cons is_sIdx (fns_cons is_sidx A1))))
theorem Alf (t:ByteArray):E1 Beb 12 (.fn 115) [.val (.string t)] Ck 0 (If Tryz.prog [.b])=A5e t:=by kernel_rfl
end St
end V
end Go.Proofs.YtcfanlgpkefogaaGreat
namespace Go.Proofs.YtcfanlgpkefogaaGreat
open Go.RowKit
namespace V
namespace St
def Ed (t:ByteArray):List UInt8:=t.data.toList
def V2 (b:UInt8):Bool:=A8f ((b.toNat:Nat):Int)
def Kn (t:ByteArray):Bool:=decide (1≤t.size∧t.size≤20)&&!(Ed t).any V2
theorem Pw (t:ByteArray):(Ed t).length=t.size:=Array.length_toList
theorem Alg {n:Int} (h:0≤n) (h2:n≤9223372036854775807):Iu .i64 n=true:=by
 unfold Iu
 rw [decide_eq_true (show Jf .i64≤n by simp only [Jf];omega),decide_eq_true (show n≤Bo .i64 by simp only [Bo];omega)];rfl
theorem Bec {n:Int} (h:0≤n) (h2:n≤2147483647):Iu .i32 n=true:=by
 unfold Iu
 rw [decide_eq_true (show Jf .i32≤n by simp only [Jf];omega),decide_eq_true (show n≤Bo .i32 by simp only [Bo];omega)];rfl
theorem B8z {t:ByteArray} {i:Nat} (h:i<t.size):t.get! i=(Ed t)[i]'(by rw [Pw];exact h):=by
 have h':i<t.data.size:=h
 show t.data[i]! = _
 rw [getElem!_pos t.data i h']
 simp [Ed]
theorem B90 {t:ByteArray} {i:Nat} (h:(t.get! i).toNat<128):Utf8.decode t i=((t.get! i).toNat,1):=by
 unfold Utf8.decode
 simp only [Nat.add_zero]
 rw [if_pos h]
theorem B91 {t:ByteArray} {i:Nat} (h:¬ (t.get! i).toNat<128):128≤(Utf8.decode t i).1∧(Utf8.decode t i).1≤2100000:=by
 have hb:(t.get! i).toNat<256:=(t.get! i).toNat_lt
 unfold Utf8.decode
 simp only [Nat.add_zero]
 rw [if_neg h]
 have m1:=Nat.mod_lt (t.get! (i+1)).toNat (show 0<64 by omega)
 have m2:=Nat.mod_lt (t.get! (i+2)).toNat (show 0<64 by omega)
 have m3:=Nat.mod_lt (t.get! (i+3)).toNat (show 0<64 by omega)
 have r:128≤Utf8.runeError∧Utf8.runeError≤2100000:=by decide
 split
 ·split
  ·rename_i hc
   simp only
   omega
  ·exact r
 ·split
  ·split
   ·rename_i hc
    simp only [ge_iff_le,Bool.and_eq_true,decide_eq_true_eq] at hc
    simp only
    omega
   ·exact r
  ·split
   ·split
    ·rename_i hc
     simp only [ge_iff_le,Bool.and_eq_true,decide_eq_true_eq] at hc
     simp only
     omega
    ·exact r
   ·exact r
theorem Aqb {r:Nat} (h:128≤r):A8f (r:Int)=true:=by
 unfold A8f
 rw [decide_eq_true (show (r:Int)>122 by omega),decide_eq_true (show (r:Int)>57 by omega)]
 simp
theorem Aqc {t:ByteArray} (hs:t.size≤20):∀ (n pos:Nat),pos≤t.size→t.size-pos<n→nmT t n pos=.leaf (!((Ed t).drop pos).any V2,())
 | 0,_,_,h=>absurd h (Nat.not_lt_zero _)
 | n+1,pos,hp,hn=>by
  unfold nmT
  by_cases hlt:pos<t.size
  ·have hb:Nat.ble (pos+1) t.size=true:=by rw [Nat.ble_eq];omega
   have hd:(Ed t).drop pos=(Ed t)[pos]'(by rw [Pw];exact hlt)::(Ed t).drop (pos+1):=List.drop_eq_getElem_cons _
   rw [hb,cond_true,hd,List.any_cons,← B8z hlt]
   by_cases h8:(t.get! pos).toNat<128
   ·rw [B90 h8]
    simp only
    have hk:(Iu .i64 (pos:Int)&&Iu .i32 (((t.get! pos).toNat:Nat):Int))=true:=by
     rw [Alg (by omega) (by omega),Bec (by omega) (by omega)];rfl
    rw [hk,cond_true]
    show (bif V2 (t.get! pos)==true then _ else _:TBo)=_
    cases hbd:V2 (t.get! pos) with
    | true =>
     rw [decide_eq_true (show (pos:Int)≥0 by omega)]
     rfl
    | false =>
     show nmT t n (pos+1)=_
     rw [Aqc hs n (pos+1) (by omega) (by omega),Bool.false_or]
   ·obtain ⟨h1,h2⟩:=B91 h8
    have hk:(Iu .i64 (pos:Int)&&Iu .i32 (((Utf8.decode t pos).1:Nat):Int))=true:=by
     rw [Alg (by omega) (by omega),Bec (by omega) (by omega)];rfl
    have hbu:V2 (t.get! pos)=true:=Aqb (by omega)
    rw [hk,cond_true,Aqb h1,hbu,decide_eq_true (show (pos:Int)≥0 by omega)]
    rfl
  ·have hb:Nat.ble (pos+1) t.size=false:=by
    cases h:Nat.ble (pos+1) t.size with
    | false=>rfl
    | true=>rw [Nat.ble_eq] at h;omega
   rw [hb,cond_false,List.drop_eq_nil_of_le (by rw [Pw];omega)]
   rfl
theorem Alh {t:ByteArray} (h64:(t.size:Int)≤Bo .i64):(A5e t).sat (fun y=>y=(Kn t,())):=by
 unfold A5e Kn
 have hk:Iu .i64 (t.size:Int)=true:=Alg (by omega) (by simp only [Bo] at h64;exact h64)
 rw [hk]
 simp only [cond_true]
 by_cases h1:1≤t.size
 ·rw [decide_eq_true (show (t.size:Int)≥1 by omega)]
  by_cases h2:t.size≤20
  ·rw [decide_eq_true (show (t.size:Int)≤20 by omega),decide_eq_true (show 1≤t.size∧t.size≤20 from ⟨h1,h2⟩),cond_true,cond_true,Aqc h2 21 0 (by omega) (by omega)]
   exact rfl
  ·rw [decide_eq_false (show ¬ (t.size:Int)≤20 by omega),decide_eq_false (show ¬ (1≤t.size∧t.size≤20) from fun h=>h2 h.2)]
   exact rfl
 ·rw [decide_eq_false (show ¬ (t.size:Int)≥1 by omega),decide_eq_false (show ¬ (1≤t.size∧t.size≤20) from fun h=>h1 h.1)]
  exact rfl
end St
end V
end Go.Proofs.YtcfanlgpkefogaaGreat
namespace Go.Proofs.YtcfanlgpkefogaaGreat
open Go.RowKit
namespace V
namespace St
abbrev A5f:PureT:=Bz [.s] [.b] (fun x=>decide ((x.1.size:Int)≤Bo .i64)) (fun x=>(Kn x.1,()))
theorem Azk:A5 Tryz.prog 115 A5f:=C5 Azj 12 (fun x=>A5e x.1) (fun x=>Alf x.1) fun x hok _=>Alh (of_decide_eq_true hok)
def Ad8:Lay:={ keys:=[0,3],ks:=[.d .s,.d cI],bs:=[],n:=41,nx:=1000,marks:=[] }
def Bir:Lay:={ keys:=[],ks:=[],bs:=[],n:=41,nx:=1000,marks:=[] }
def Bee:Lay:={ keys:=[2],ks:=[.d .b],bs:=[],n:=41,nx:=1000,marks:=[] }
def Ad9:XE→Lay:=fun e=>match e with | .ret=>Bee | _=>Bir
def A36 (t:ByteArray) (i:Int):Ad8.T:=((t,i,()),())
def Yg:A0 Ad9:=⟨.ret,((false,()),())⟩
def A8g:A0 Ad9:=⟨.exit 0,((),())⟩
abbrev TNm:=Tree (Ad8.T⊕A0 Ad9)
def byI (t:ByteArray) (i:Int):Int:=((((t.data.toList.getD (Int.toNat i) 0).toNat:Nat)):Int)
def inI (t:ByteArray) (i:Int) (k:TNm):TNm:=bif decide (0≤i∧i<(t.size:Int)) then k else .fail
def Ada (t:ByteArray) (i:Int):TNm:=inI t i (bif decide (byI t i≥48) then inI t i (bif !decide (byI t i≤57) then .leaf (.inr Yg) else .leaf (.inl (A36 t (W64 (i+1))))) else .leaf (.inr Yg))
def Yh (t:ByteArray) (i:Int):TNm :=
 bif Iu .i64 (t.size:Int) then bif decide (i<(t.size:Int)) then
  inI t i (bif decide (byI t i≥97) then inI t i (bif decide (byI t i≤122) then .leaf (.inl (A36 t (W64 (i+1)))) else Ada t i) else Ada t i)
 else .leaf (.inr A8g) else .fail
def A37 (g:Ad8.T):TNm:=Yh g.1.1 g.1.2.1
def Aqd (g:Ad8.T):Nat:=(Ed g.1.1).length+1
noncomputable def Beg:Ctx:=ctx Tryz.prog [] []
theorem Aqe:CtxOk Beg:=B6 Aw puOk_nil A1
def Aqf (t:ByteArray):Option (A0 Ad9):=iter A37 ((Ed t).length+1) (A36 t 0)
def B92 (t:ByteArray):TBo:=bif Iu .i64 (t.size:Int) then bif decide ((t.size:Int)<1) then .leaf (false,()) else bif Iu .i64 (t.size:Int) then bif decide ((t.size:Int)>20) then .leaf (false,()) else
 bif isE .ret (Aqf t) then .leaf ((D4 .ret (Aqf t)).1.1,()) else bif isE (.exit 0) (Aqf t) then .leaf (true,()) else .fail else .fail else .fail
theorem B93 {t:ByteArray} {i:Nat} (h:i<(Ed t).length):byI t (i:Int)=((((Ed t)[i]).toNat:Nat):Int):=by
 unfold byI
 rw [show Int.toNat (i:Int)=i by omega]
 show ((((Ed t).getD i 0).toNat:Nat):Int)=_
 rw [List.getD_eq_getElem?_getD,List.getElem?_eq_getElem h]
 rfl
theorem Azm {t:ByteArray} (h64:(t.size:Int)≤Bo .i64):Aqf t=some (bif (Ed t).any V2 then Yg else A8g):=by
 have h64':(t.size:Int)≤9223372036854775807:=h64
 have hlen:=Pw t
 unfold Aqf
 have key:=G8 (st:=A37) (Ed t) (fun i (_:Unit)=>A36 t (i:Int)) (fun _ b _=>bif V2 b then some (.inr Yg) else some (.inl ())) (fun _=>some A8g) (fun _ _=>True)
  (fun i s hi _=>by
   have hI:decide (0≤(i:Int)∧(i:Int)<(t.size:Int))=true:=decide_eq_true (by omega)
   have hrun:(A37 (A36 t (i:Int))).run=some (bif V2 (Ed t)[i] then .inr Yg else .inl (A36 t ((i+1:Nat):Int))):=by
    show (Yh t (i:Int)).run=_
    unfold Yh Ada inI V2 A8f
    rw [Alg (by omega) h64',decide_eq_true (show (i:Int)<(t.size:Int) by omega),hI,B93 hi,Bi (n:=(i:Int)+1) (by omega) (by omega)]
    generalize ((((Ed t)[i]).toNat:Nat):Int)=b
    by_cases h1:b<97
    ·rw [decide_eq_true h1,decide_eq_false (show ¬ b≥97 by omega)]
     by_cases h2:b<48
     ·rw [decide_eq_true h2,decide_eq_false (show ¬ b≥48 by omega)];simp;rfl
     ·rw [decide_eq_false h2,decide_eq_true (show b≥48 by omega)]
      by_cases h3:b>57
      ·rw [decide_eq_true h3,decide_eq_false (show ¬ b≤57 by omega)];simp;rfl
      ·rw [decide_eq_false h3,decide_eq_true (show b≤57 by omega)];simp;rfl
    ·rw [decide_eq_false h1,decide_eq_true (show b≥97 by omega)]
     by_cases h2:b>122
     ·rw [decide_eq_true h2,decide_eq_false (show ¬ b≤122 by omega),decide_eq_false (show ¬ b<48 by omega),decide_eq_true (show b≥48 by omega),decide_eq_true (show b>57 by omega),decide_eq_false (show ¬ b≤57 by omega)];simp;rfl
     ·rw [decide_eq_false h2,decide_eq_true (show b≤122 by omega)];simp;rfl
   cases hb:V2 (Ed t)[i] with
   | true =>
    rw [hb] at hrun
    simp only [cond_true]
    exact hrun
   | false =>
    rw [hb] at hrun
    simp only [cond_false]
    exact ⟨hrun,trivial⟩)
  (fun s e _ he=>by
   cases he
   show (Yh t (((Ed t).length:Nat):Int)).run=_
   unfold Yh
   rw [Alg (by omega) h64',decide_eq_false (show ¬ (((Ed t).length:Nat):Int)<(t.size:Int) by omega)]
   rfl)
  (Ed t).length 0 () (bif (Ed t).any V2 then Yg else A8g) ((Ed t).length+1) (by omega) (by omega) trivial (by rw [List.drop_zero];exact Uq V2 (fun _=>Yg) A8g _ 0)
 exact key
theorem Azn {t:ByteArray} (h64:(t.size:Int)≤Bo .i64):(B92 t).sat (fun y=>y=(Kn t,())):=by
 unfold B92 Kn
 rw [Alg (by omega) (show (t.size:Int)≤9223372036854775807 from h64),Azm h64]
 simp only [cond_true]
 by_cases h1:1≤t.size
 ·rw [decide_eq_false (show ¬ (t.size:Int)<1 by omega)]
  by_cases h2:t.size≤20
  ·rw [decide_eq_false (show ¬ (t.size:Int)>20 by omega),decide_eq_true (show 1≤t.size∧t.size≤20 from ⟨h1,h2⟩)]
   cases (Ed t).any V2 <;> exact rfl
  ·rw [decide_eq_true (show (t.size:Int)>20 by omega),decide_eq_false (show ¬ (1≤t.size∧t.size≤20) from fun h=>h2 h.2)]
   exact rfl
 ·rw [decide_eq_true (show (t.size:Int)<1 by omega),decide_eq_false (show ¬ (1≤t.size∧t.size≤20) from fun h=>h1 h.1)]
  exact rfl
end St
end V
end Go.Proofs.YtcfanlgpkefogaaGreat
namespace Go.Proofs.YtcfanlgpkefogaaGreat
open Go.RowKit
namespace V
namespace St
theorem is_Touch:FnIs Tryz.prog (150,Tryz.f150):=⟨Tryz.func150,by kernel_rfl,by kernel_rfl⟩
theorem is_tCD:FnIs Tryz.prog (155,Tryz.f155):=⟨Tryz.func155,by kernel_rfl,by kernel_rfl⟩
theorem is_tsq:FnIs Tryz.prog (68,Tryz.f68):=⟨Tryz.func68,by kernel_rfl,by kernel_rfl⟩
theorem is_cmp64:FnIs Tryz.prog (142,Tryz.f142):=⟨Tryz.func142,by kernel_rfl,by kernel_rfl⟩
theorem is_nan64:FnIs Tryz.prog (161,Tryz.f161):=⟨Tryz.func161,by kernel_rfl,by kernel_rfl⟩
theorem is_lapart:FnIs Tryz.prog (122,Tryz.f122):=⟨Tryz.func122,by kernel_rfl,by kernel_rfl⟩
def Azp (x y:Int):Int:=bif decide (x<y) then -1 else bif decide (x>y) then 1 else 0
def cdE (a:TCT A6):Int:=A04 a.1.1 a.1.2.1 a.2.1
def sqD (a b:TCT A6):Int:=W64 (W64 (W64 (b.1.1-a.1.1)*W64 (b.1.1-a.1.1))+W64 (W64 (b.1.2.1-a.1.2.1)*W64 (b.1.2.1-a.1.2.1)))
def srD (a b:TCT A6):Int:=W64 (W64 (a.2.1+b.2.1)*W64 (a.2.1+b.2.1))
def Ali (a b:TCT A6):Int:=bif cdE a==0&&cdE b==0 then Azp (sqD a b) (srD a b) else 0
def B94 (a b:TCT A6):Int:=bif cdE a==0&&cdE b==0 then 0 else 2
abbrev Agw:PureT:=Bz [A6,A6] [cI,cI] (fun _=>true) (fun x=>(Ali x.1 x.2.1,B94 x.1 x.2.1,()))
abbrev TTo:=Tree (TCTs [cI,cI])
def B5x (x y:Int):TTo:=bif x != x then bif y != y then .leaf (0,0,()) else .leaf (-1,0,()) else bif y != y then .leaf (1,0,()) else bif decide (x<y) then .leaf (-1,0,()) else bif decide (x>y) then .leaf (1,0,()) else .leaf (0,0,())
def A5g (a b:TCT A6):TTo:=bif cdE a != 0 then .leaf (0,2,()) else bif cdE b != 0 then .leaf (0,2,()) else B5x (sqD a b) (srD a b)
theorem Adb (a b:TCT A6):(A5g a b).sat (fun y=>y=(Ali a b,B94 a b,())):=by
 unfold A5g Ali B94 B5x Azp
 rw [bne_self_eq_false,bne_self_eq_false]
 have e:∀ n:Int,(n != 0)=!(n==0):=fun _=>rfl
 rw [e,e]
 cases cdE a==0 <;> cases cdE b==0 <;> try exact rfl
 cases decide (sqD a b<srD a b) <;> cases decide (sqD a b>srD a b) <;> exact rfl
theorem Azq:A5 Tryz.prog 150 Agw:=C5 (B6 Aw (puOk_cons is_tCD.plain Wh puOk_nil) (fns_cons is_Touch (fns_cons is_tsq (fns_cons is_cmp64 (fns_cons is_nan64 A1))))) 5 (fun x=>A5g x.1 x.2.1) (fun x=>by kernel_rfl) fun x _ _=>Adb _ _
def plAp:List (Nat×PureT):=[(150,Agw),(105,s_inR)]
theorem puAp:De Tryz.prog plAp:=puOk_cons is_Touch.plain Azq (puOk_cons is_between2.plain q_between2 puOk_nil)
noncomputable def Agx:Code:=(Ak (bodyOf Tryz.f122)).getD 0 .skip
noncomputable def Agy:Code:=(Ak (bodyOf Tryz.f122)).getD 1 .skip
abbrev kD3:List SK:=[.d cI,.d cI,.d cI]
def d3 (d:SKTs kD3):TCT A6:=((d.1,d.2.1,()),d.2.2.1,())
def Beh (d:TCT A6):TCT A6:=((d.1.1,d.1.2.1,()),d.2.1,())
def toD (d:TCT A6):SKTs kD3:=(d.1.1,d.1.2.1,d.2.1,())
def A24:Lay:={ keys:=[1,2,6,11,12,13,46,47,48],ks:=[.d (.sl A6),.p 0 0 0 0,.p 1000 0 0 0,.d (.sl A6),.d cI,.d cI,.d (.sl A6),.d cI,.d cI],bs:=[(0,36,kLw),(1000,33,kD3)],n:=62,nx:=2000,marks:=[] }
def Bei:Lay:={ keys:=[1,2,11,12,13],ks:=[.d (.sl A6),.p 0 0 0 0,.d (.sl A6),.d cI,.d cI],bs:=[(0,36,kLw)],n:=62,nx:=2000,marks:=[] }
def B5y:Lay:={ keys:=[4],ks:=[.d .b],bs:=[],n:=62,nx:=2000,marks:=[] }
def Yi:XE→Lay:=fun e=>match e with | .ret=>B5y | _=>Bei
def Yj:Lay:={ keys:=[1,2,11,12,13],ks:=[.d (.sl A6),.p 0 0 0 0,.d (.sl A6),.d cI,.d cI],bs:=[(0,36,kLw)],n:=62,nx:=1000,marks:=[] }
def Biu:Lay:={ keys:=[],ks:=[],bs:=[],n:=62,nx:=2000,marks:=[] }
def A8h:XE→Lay:=fun e=>match e with | .ret=>B5y | _=>Biu
def Yk (x:SKTs kLw) (d:SKTs kD3) (p q:List (TCT A6)) (n i:Int) (r:List (TCT A6)) (m k:Int):A24.T:=((p,(),(),q,n,i,r,m,k,()),(x,d,()))
def W8:A0 Yi:=⟨.ret,((false,()),())⟩
def W9 (x:SKTs kLw) (p q:List (TCT A6)) (n i:Int):A0 Yi:=⟨.exit 2,((p,(),q,n,i,()),(x,()))⟩
def Yl (g:A24.T):Tree (A24.T⊕A0 Yi) :=
 bif decide (g.1.2.2.2.2.2.2.2.2.1<g.1.2.2.2.2.2.2.2.1) then bif decide (0≤g.1.2.2.2.2.2.2.2.2.1∧g.1.2.2.2.2.2.2.2.2.1<((g.1.2.2.2.2.2.2.1:List (TCT A6)).length:Int)) then
  bif decide (Ali (d3 g.2.2.1) (Beh (B7 g.1.2.2.2.2.2.2.1 (Int.toNat g.1.2.2.2.2.2.2.2.2.1) (B9 A6)))<0) then .leaf (.inr W8) else .leaf (.inl (Yk g.2.1 g.2.2.1 g.1.1 g.1.2.2.2.1 g.1.2.2.2.2.1 g.1.2.2.2.2.2.1 g.1.2.2.2.2.2.2.1 g.1.2.2.2.2.2.2.2.1 (W64 (g.1.2.2.2.2.2.2.2.2.1+1))))
 else .fail else .leaf (.inr (W9 g.2.1 g.1.1 g.1.2.2.2.1 g.1.2.2.2.2.1 g.1.2.2.2.2.2.1))
def Aqg (g:A24.T):Nat:=(g.1.2.2.2.2.2.2.1:List (TCT A6)).length+1
noncomputable def A8i:Ctx:=ctx Tryz.prog plAp []
theorem A8j:CtxOk A8i:=B6 Aw puAp A1
theorem Biv:Bc Tryz.prog 122 Agy (Bd A24 Yi (E5 [.ret,.exit 2] Yl Aqg)):=Bv A8j 7 _ A24 Yi (fun e=>by cases e <;> exact Nat.le_refl _) [.ret,.exit 2] Yl Aqg (fun g=>by kernel_rfl)
def I0 {α:Type} (ok:Nat→α→Bool):Nat→List α→Bool
 | _,[]=>true
 | i,x::l=>ok i x&&I0 ok (i+1) l
theorem Ym {α E:Type} (ok:Nat→α→Bool) (r d:E):∀ (l:List α) (i:Nat),Sg (fun i x (_:Unit)=>bif ok i x then some (.inl ()) else some (.inr r)) (fun _=>some d) i l ()=some (bif I0 ok i l then d else r)
 | [],i=>rfl
 | x::l,i=>by
  simp only [Sg,I0]
  cases ok i x with
  | true=>simp only [cond_true,Bool.true_and];exact Ym ok r d l (i+1)
  | false=>rfl
def touB (d o:TCT A6):Bool:=decide (Ali d o<0)
theorem Azr (x:SKTs kLw) (d:TCT A6) (p q:List (TCT A6)) (n i:Int) (r:List (TCT A6)) (hr:(r.length:Int)≤Bo .i64) :
  iter Yl (r.length+1) (Yk x (toD d) p q n i r r.length 0)=some (bif r.any (touB d) then W8 else W9 x p q n i):=by
 have hr':(r.length:Int)≤9223372036854775807:=hr
 have key:=G8 (st:=Yl) r (fun k (_:Unit)=>Yk x (toD d) p q n i r r.length (k:Int)) (fun _ o _=>bif touB d o then some (.inr W8) else some (.inl ())) (fun _=>some (W9 x p q n i)) (fun _ _=>True)
  (fun k s hk _=>by
   have hrun:(Yl (Yk x (toD d) p q n i r r.length (k:Int))).run=some (bif touB d r[k] then .inr W8 else .inl (Yk x (toD d) p q n i r r.length ((k+1:Nat):Int))):=by
    show (bif decide ((k:Int)<(r.length:Int)) then bif decide (0≤(k:Int)∧(k:Int)<(r.length:Int)) then bif touB d (Beh (B7 r (Int.toNat (k:Int)) (B9 A6))) then Tree.leaf (Sum.inr W8) else .leaf (.inl (Yk x (toD d) p q n i r r.length (W64 ((k:Int)+1)))) else .fail else .leaf (.inr (W9 x p q n i)):Tree (A24.T⊕A0 Yi)).run=_
    rw [decide_eq_true (show (k:Int)<(r.length:Int) by omega),decide_eq_true (show 0≤(k:Int)∧(k:Int)<(r.length:Int) by omega),show Int.toNat (k:Int)=k by omega,E8 hk,Bi (n:=(k:Int)+1) (by omega) (by omega)]
    show (bif touB d r[k] then _ else _:Tree (A24.T⊕A0 Yi)).run=_
    cases touB d r[k] <;> rfl
   cases hb:touB d r[k] with
   | true=>rw [hb] at hrun;simp only [cond_true];exact hrun
   | false=>rw [hb] at hrun;simp only [cond_false];exact ⟨hrun,trivial⟩)
  (fun s e _ he=>by
   cases he
   show (bif decide ((r.length:Int)<(r.length:Int)) then _ else Tree.leaf (Sum.inr (W9 x p q n i)):Tree (A24.T⊕A0 Yi)).run=_
   rw [decide_eq_false (show ¬ (r.length:Int)<(r.length:Int) by omega)]
   rfl)
  r.length 0 () (bif r.any (touB d) then W8 else W9 x p q n i) (r.length+1) (by omega) (by omega) trivial (by rw [List.drop_zero];exact Uq (touB d) (fun _=>W8) (W9 x p q n i) _ 0)
 exact key
end St
end V
end Go.Proofs.YtcfanlgpkefogaaGreat
namespace Go.Proofs.YtcfanlgpkefogaaGreat
open Go.RowKit
namespace V
namespace St
def A38 (x:SKTs kLw) (p q:List (TCT A6)) (n i:Int):Yj.T:=((p,(),q,n,i,()),(x,()))
def Sx (b:Bool):A0 A8h:=⟨.ret,((b,()),())⟩
def Wa:A0 A8h:=⟨.exit 0,((),())⟩
abbrev TAo:=Tree (Yj.T⊕A0 A8h)
def Bej (x:SKTs kLw) (d:SKTs kD3) (p q:List (TCT A6)) (n i:Int) (r:List (TCT A6)):Option (A0 Yi):=iter Yl (r.length+1) (Yk x d p q n i r r.length 0)
def Bek (r:Bei.T):Yj.T:=A38 r.2.1 r.1.1 r.1.2.2.1 r.1.2.2.2.1 (W64 (r.1.2.2.2.2.1+1))
def Bel (y:Option (A0 Yi)):TAo:=bif isE .ret y then .leaf (.inr (Sx (D4 .ret y).1.1)) else bif isE (.exit 2) y then .leaf (.inl (Bek (D4 (.exit 2) y))) else .fail
def Aqh (x:SKTs kLw) (p q:List (TCT A6)) (n i:Int) (d:TCT A6):TAo :=
 bif !inR d.1.1 d.2.1 (W64 (x.2.1-d.2.1)) then .leaf (.inr (Sx false)) else bif !inR d.1.2.1 d.2.1 (W64 (x.2.2.1-d.2.1)) then .leaf (.inr (Sx false)) else
 bif decide (0≤i∧i≤(p.length:Int)) then Bel (Bej x (toD d) p q n i (p.take (Int.toNat i))) else .fail
def Yn (g:Yj.T):TAo :=
 bif decide (g.1.2.2.2.2.1<g.1.2.2.2.1) then bif decide (0≤g.1.2.2.2.2.1∧g.1.2.2.2.2.1<((g.1.2.2.1:List (TCT A6)).length:Int)) then
  Aqh g.2.1 g.1.1 g.1.2.2.1 g.1.2.2.2.1 g.1.2.2.2.2.1 (B7 g.1.2.2.1 (Int.toNat g.1.2.2.2.2.1) (B9 A6)) else .fail else .leaf (.inr Wa)
def Aqi (g:Yj.T):Nat:=(g.1.2.2.1:List (TCT A6)).length+1
def B5z:Lp:=fun k=>bif Nat.beq k 7 then some (Bd A24 Yi (E5 [.ret,.exit 2] Yl Aqg)) else none
theorem Biw (g:Yj.T):evC A8i.P (E1 A8i 7) A8i.pures 122 A8i.u B5z Agx (Yj.of g) (Hj Yj A8h)=Yn g:=by kernel_rfl
theorem Aqj:Ak Agx=[Agy]:=by kernel_rfl
theorem Aqk:keyOf Agy=7:=by kernel_rfl
theorem Bix:Bc Tryz.prog 122 Agx (Bd Yj A8h (E5 [.ret,.exit 0] Yn Aqi)) :=
 Up A8j 7 _ B5z (fun d hd f hf=>by
  rw [Aqj,List.mem_singleton] at hd
  subst hd
  rw [Aqk] at hf
  cases hf
  exact Biv) Yj A8h (fun e=>by cases e <;> exact (by decide:(1000:Nat)≤2000)) [.ret,.exit 0] Yn Aqi Biw
theorem loops_in {P:Program} {f:Nat} {fn:Func} {la:Code} {sum:St→Tree (XE×St)} {k:Nat} (h1:∀ d ∈ Ak (bodyOf fn),keyOf d=k→d=la) (h2:Bc P f la sum) :
  ∀ p ∈ [(f,fn)],∀ d ∈ Ak (bodyOf p.2),∀ g,D7 [((f,k),sum)] p.1 (keyOf d)=some g→Bc P p.1 d g:=by
 intro p hp d hd g hg
 simp only [List.mem_singleton] at hp
 subst hp
 simp only at hd hg
 by_cases hk:keyOf d=k
 ·rw [h1 d hd hk]
  rw [hk] at hg
  simp [D7] at hg
  subst hg
  exact h2
 ·have:Nat.beq k (keyOf d)=false:=by
   cases h:Nat.beq k (keyOf d) with
   | false=>rfl
   | true=>exact absurd (Nat.eq_of_beq_eq_true h).symm hk
  simp only [D7,this,Bool.and_false,cond_false] at hg
  cases hg
theorem Aql:Ak (bodyOf Tryz.f122)=[Agx,Agy]:=by kernel_rfl
noncomputable def Biy:Ctx:=Ie Tryz.prog plAp [(122,Tryz.f122)] [((122,2),Bd Yj A8h (E5 [.ret,.exit 0] Yn Aqi))]
theorem Azs:CtxOk Biy:=D6 Aw puAp (fns_cons is_lapart A1) (loops_in (fun d hd hk=>by
 rw [Aql,List.mem_cons,List.mem_singleton] at hd
 rcases hd with rfl | rfl
 ·rfl
 ·rw [Aqk] at hk;cases hk) Bix)
def Ri (w l:Int) (d:TCT A6):Bool:=inR d.1.1 d.2.1 (W64 (w-d.2.1))&&inR d.1.2.1 d.2.1 (W64 (l-d.2.1))
def apF (w l:Int) (p:List (TCT A6)):Bool:=I0 (fun i d=>Ri w l d&&!(p.take i).any (touB d)) 0 p
def Aqm (l:TCT A9) (p:List (TCT A6)):Option (A0 A8h):=iter Yn (p.length+1) (A38 (Ez l) p p p.length 0)
def B95 (l:TCT A9) (p:List (TCT A6)):TBo:=bif isE .ret (Aqm l p) then .leaf ((D4 .ret (Aqm l p)).1.1,()) else bif isE (.exit 0) (Aqm l p) then .leaf (true,()) else .fail
theorem Azt (l:TCT A9) (p:List (TCT A6)) (hp:(p.length:Int)≤Bo .i64):Aqm l p=some (bif apF l.2.1 l.2.2.1 p then Wa else Sx false):=by
 have hp':(p.length:Int)≤9223372036854775807:=hp
 unfold Aqm
 have key:=G8 (st:=Yn) p (fun i (_:Unit)=>A38 (Ez l) p p p.length (i:Int)) (fun i d _=>bif Ri l.2.1 l.2.2.1 d&&!(p.take i).any (touB d) then some (.inl ()) else some (.inr (Sx false))) (fun _=>some Wa) (fun _ _=>True)
  (fun i s hi _=>by
   have hrun:(Yn (A38 (Ez l) p p p.length (i:Int))).run=some (bif Ri l.2.1 l.2.2.1 p[i]&&!(p.take i).any (touB p[i]) then .inl (A38 (Ez l) p p p.length ((i+1:Nat):Int)) else .inr (Sx false)):=by
    show (bif decide ((i:Int)<(p.length:Int)) then bif decide (0≤(i:Int)∧(i:Int)<(p.length:Int)) then Aqh (Ez l) p p p.length (i:Int) (B7 p (Int.toNat (i:Int)) (B9 A6)) else .fail else .leaf (.inr Wa):TAo).run=_
    rw [decide_eq_true (show (i:Int)<(p.length:Int) by omega),decide_eq_true (show 0≤(i:Int)∧(i:Int)<(p.length:Int) by omega),show Int.toNat (i:Int)=i by omega,E8 hi]
    simp only [cond_true]
    unfold Aqh Ri
    have hw:(Ez l).2.1=l.2.1:=rfl
    have hl:(Ez l).2.2.1=l.2.2.1:=rfl
    rw [hw,hl]
    cases inR p[i].1.1 p[i].2.1 (W64 (l.2.1-p[i].2.1)) with
    | false=>rfl
    | true =>
     cases inR p[i].1.2.1 p[i].2.1 (W64 (l.2.2.1-p[i].2.1)) with
     | false=>rfl
     | true =>
      simp only [Bool.not_true,cond_false,Bool.true_and]
      have ht:(p.take i).length=i:=by rw [List.length_take];omega
      have hy:Bej (Ez l) (toD p[i]) p p p.length (i:Int) (p.take i)=some (bif (p.take i).any (touB p[i]) then W8 else W9 (Ez l) p p p.length (i:Int)) :=
       Azr (Ez l) p[i] p p p.length (i:Int) (p.take i) (by rw [ht];show (i:Int)≤9223372036854775807;omega)
      rw [decide_eq_true (show 0≤(i:Int)∧(i:Int)≤(p.length:Int) by omega),cond_true,show Int.toNat (i:Int)=i by omega,hy]
      cases (p.take i).any (touB p[i]) with
      | true=>rfl
      | false =>
       show (Tree.leaf (Sum.inl (A38 (Ez l) p p p.length (W64 ((i:Int)+1)))):TAo).run=_
       rw [Bi (n:=(i:Int)+1) (by omega) (by omega)]
       rfl
   cases hb:Ri l.2.1 l.2.2.1 p[i]&&!(p.take i).any (touB p[i]) with
   | true=>rw [hb] at hrun;simp only [cond_true];exact ⟨hrun,trivial⟩
   | false=>rw [hb] at hrun;simp only [cond_false];exact hrun)
  (fun s e _ he=>by
   cases he
   show (bif decide ((p.length:Int)<(p.length:Int)) then _ else Tree.leaf (Sum.inr Wa):TAo).run=_
   rw [decide_eq_false (show ¬ (p.length:Int)<(p.length:Int) by omega)]
   rfl)
  p.length 0 () (bif apF l.2.1 l.2.2.1 p then Wa else Sx false) (p.length+1) (by omega) (by omega) trivial (by
   rw [List.drop_zero]
   exact Ym (fun i d=>Ri l.2.1 l.2.2.1 d&&!(p.take i).any (touB d)) (Sx false) Wa p 0)
 exact key
abbrev Agz:PureT:=Bz [A9,.sl A6] [.b] (fun _=>true) (fun x=>(apF x.1.2.1 x.1.2.2.1 x.2.1,()))
theorem Azu:A5 Tryz.prog 122 Agz:=C5 Azs 7 (fun x=>B95 x.1 x.2.1) (fun x=>by kernel_rfl) fun x _ hw=>by
 show (B95 x.1 x.2.1).sat _
 unfold B95
 rw [Azt x.1 x.2.1 (G3 hw.2.1)]
 show ((bif isE .ret (some (bif apF x.1.2.1 x.1.2.2.1 x.2.1 then Wa else Sx false)) then _ else _:TBo)).sat (fun y=>y=(apF x.1.2.1 x.1.2.2.1 x.2.1,()))
 cases apF x.1.2.1 x.1.2.2.1 x.2.1 <;> exact rfl
end St
end V
end Go.Proofs.YtcfanlgpkefogaaGreat
namespace Go.Proofs.YtcfanlgpkefogaaGreat
open Go.RowKit
namespace V
namespace St
theorem is_lCheck:FnIs Tryz.prog (75,Tryz.f75):=⟨Tryz.func75,by kernel_rfl,by kernel_rfl⟩
def nxL (l:TCT A9):Int:=l.2.2.2.2.2.2.1
def nyL (l:TCT A9):Int:=l.2.2.2.2.2.2.2.1
def Dx (l:TCT A9):List (TCT Dc):=l.2.2.2.2.2.2.2.2.1
def O3 (l:TCT A9):Bool:=decide (((Be l).length:Int)<1)||(decide (((Be l).length:Int)>12)||decide (((Dx l).length:Int)>256))
def Adc (l:TCT A9):Bool:=Kn l.1&&(inR l.2.1 65536 4194304&&(inR l.2.2.1 65536 4194304&&inR l.2.2.2.1 0 (W64 (Int.tdiv (min l.2.1 l.2.2.1) 4))))
def Add (l:TCT A9):Bool:=!decide (nxL l<1)&&(!decide (nxL l>16)&&(!decide (nyL l<1)&&(!decide (nyL l>16)&&!(((Dx l).length:Int)!=W64 (nxL l*nyL l)))))
def okL (l:TCT A9):Bool:=Adc l&&(inR (Me l).2.1 1 8192&&(Add l&&((Be l).all Gx&&((Dx l).all Hz&&apF l.2.1 l.2.2.1 (Cd l)))))
def Co (l:TCT A9):Int:=bif O3 l then 6 else bif okL l then 0 else 2
abbrev Oo:PureT:=Bz [A9] [cI] (fun x=>decide ((x.1.1.size:Int)≤Bo .i64)) (fun x=>(Co x.1,()))
def plLc:List (Nat×PureT):=[(115,A5f),(105,s_inR),(74,N9),(122,Agz),(116,A7y),(119,A83)]
theorem puLc:De Tryz.prog plLc:=puOk_cons is_vname.plain Azk (puOk_cons is_between2.plain q_between2 (puOk_cons is_lposts.plain A5b (puOk_cons is_lapart.plain Azu (puOk_cons is_cfHoop.plain Apl (puOk_cons is_cfCell.plain Apq puOk_nil)))))
abbrev TEr:=Tree (TCTs [cI])
def er (c:Bool) (e:Int) (k:TEr):TEr:=bif c then .leaf (e,()) else k
theorem O4 {a b:Bool} {e:Int} {k:TEr}:er (a||b) e k=er a e (er b e k):=by cases a <;> cases b <;> rfl
def B96 (l:TCT A9):TEr :=
 er (decide (((Be l).length:Int)<1)) 6 (er (decide (((Be l).length:Int)>12)) 6 (er (decide (((Dx l).length:Int)>256)) 6 (
 bif decide ((l.1.size:Int)≤Bo .i64) then er (!Kn l.1) 2 (er (!inR l.2.1 65536 4194304) 2 (er (!inR l.2.2.1 65536 4194304) 2 (er (!inR l.2.2.2.1 0 (W64 (Int.tdiv (min l.2.1 l.2.2.1) 4))) 2 (er (!inR (Me l).2.1 1 8192) 2 (
  er (decide (nxL l<1)) 2 (er (decide (nxL l>16)) 2 (er (decide (nyL l<1)) 2 (er (decide (nyL l>16)) 2 (er (((Dx l).length:Int)!=W64 (nxL l*nyL l)) 2 (
  er ((Be l).any (Ew ())) 2 (er ((Dx l).any (Ex ())) 2 (
  bif decide ((Be l).length≤1000) then er (!apF l.2.1 l.2.2.1 (Cd l)) 2 (.leaf (0,())) else .fail))))))))))))
 else .fail)))
theorem Ll {α:Type} (p:α→Bool) (l:List α):l.any (fun x=>!p x)=!l.all p:=by
 induction l with
 | nil=>rfl
 | cons x l ih=>simp only [List.any_cons,List.all_cons,ih,Bool.not_and]
theorem Azv {l:TCT A9} (hs:(l.1.size:Int)≤Bo .i64):(B96 l).sat (fun y=>y=(Co l,())):=by
 unfold B96 Co
 rw [← O4,← O4,Bool.or_assoc]
 show (er (O3 l) 6 _).sat _
 cases hm:O3 l with
 | true=>exact rfl
 | false =>
  have h12:(Be l).length≤1000:=by
   unfold O3 at hm
   simp only [Bool.or_eq_false_iff,decide_eq_false_iff_not] at hm
   omega
  rw [decide_eq_true hs,decide_eq_true h12]
  show (er (!Kn l.1) 2 _).sat (fun y=>y=((bif okL l then 0 else 2),()))
  have hh:(Be l).any (Ew ())=!(Be l).all Gx:=Ll Gx _
  have hc:(Dx l).any (Ex ())=!(Dx l).all Hz:=Ll Hz _
  rw [hh,hc]
  unfold okL Adc Add
  simp only [cond_true]
  generalize Kn l.1=b1
  generalize inR l.2.1 65536 4194304=b2
  generalize inR l.2.2.1 65536 4194304=b3
  generalize inR l.2.2.2.1 0 (W64 (Int.tdiv (min l.2.1 l.2.2.1) 4))=b4
  generalize inR (Me l).2.1 1 8192=b5
  generalize decide (nxL l<1)=b6
  generalize decide (nxL l>16)=b7
  generalize decide (nyL l<1)=b8
  generalize decide (nyL l>16)=b9
  generalize (((Dx l).length:Int)!=W64 (nxL l*nyL l))=b10
  generalize (Be l).all Gx=b11
  generalize (Dx l).all Hz=b12
  generalize apF l.2.1 l.2.2.1 (Cd l)=b13
  cases b1 <;> try exact rfl
  cases b2 <;> try exact rfl
  cases b3 <;> try exact rfl
  cases b4 <;> try exact rfl
  cases b5 <;> try exact rfl
  cases b6 <;> try exact rfl
  cases b7 <;> try exact rfl
  cases b8 <;> try exact rfl
  cases b9 <;> try exact rfl
  cases b10 <;> try exact rfl
  cases b11 <;> try exact rfl
  cases b12 <;> try exact rfl
  cases b13 <;> exact rfl
theorem Mf:A5 Tryz.prog 75 Oo:=C5 (B6 Aw puLc (fns_cons is_lCheck A1)) 7 (fun x=>B96 x.1) (fun x=>by kernel_rfl) fun x hok _=>Azv (of_decide_eq_true hok)
end St
end V
end Go.Proofs.YtcfanlgpkefogaaGreat
namespace Go.Proofs.YtcfanlgpkefogaaGreat
open Go.RowKit
namespace V
namespace St
theorem Oq {G E α:Type} {st:G→Tree (G⊕E)} (l:List α) (d:α) (hd:Int→G) (bad:α→Bool) (rt ex:E) (hl:(l.length:Int)≤Bo .i64)
  (h:∀ i:Int,st (hd i)=bif decide (i<(l.length:Int)) then bif decide (0≤i∧i<(l.length:Int)) then bif bad (B7 l (Int.toNat i) d) then .leaf (.inr rt) else .leaf (.inl (hd (W64 (i+1)))) else .fail else .leaf (.inr ex)) :
  iter st (l.length+1) (hd 0)=some (bif l.any bad then rt else ex):=by
 have hl':(l.length:Int)≤9223372036854775807:=hl
 have key:=G8 (st:=st) l (fun i (_:Unit)=>hd (i:Int)) (fun _ x _=>bif bad x then some (.inr rt) else some (.inl ())) (fun _=>some ex) (fun _ _=>True)
  (fun i s hi _=>by
   have hrun:(st (hd (i:Int))).run=some (bif bad l[i] then .inr rt else .inl (hd ((i+1:Nat):Int))):=by
    rw [h,decide_eq_true (show (i:Int)<(l.length:Int) by omega),decide_eq_true (show 0≤(i:Int)∧(i:Int)<(l.length:Int) by omega),show Int.toNat (i:Int)=i by omega,E8 hi,Bi (n:=(i:Int)+1) (by omega) (by omega)]
    cases bad l[i] <;> rfl
   cases hb:bad l[i] with
   | true=>rw [hb] at hrun;simp only [cond_true];exact hrun
   | false=>rw [hb] at hrun;simp only [cond_false];exact ⟨hrun,trivial⟩)
  (fun s e _ he=>by
   cases he
   rw [h,decide_eq_false (show ¬ (l.length:Int)<(l.length:Int) by omega)]
   rfl)
  l.length 0 () (bif l.any bad then rt else ex) (l.length+1) (by omega) (by omega) trivial (by rw [List.drop_zero];exact Uq bad (fun _=>rt) ex _ 0)
 exact key
theorem Yo {G E α:Type} {st:G→Tree (G⊕E)} (l:List α) (d:α) (hd:Int→G) (ok:Nat→α→Bool) (body:Int→α→Tree (G⊕E)) (rt ex:E) (hl:(l.length:Int)≤Bo .i64)
  (h:∀ i:Int,st (hd i)=bif decide (i<(l.length:Int)) then bif decide (0≤i∧i<(l.length:Int)) then body i (B7 l (Int.toNat i) d) else .fail else .leaf (.inr ex))
  (hb:∀ (i:Nat) (hi:i<l.length),(body (i:Int) l[i]).run=some (bif ok i l[i] then .inl (hd ((i+1:Nat):Int)) else .inr rt)) :
  iter st (l.length+1) (hd 0)=some (bif I0 ok 0 l then ex else rt):=by
 have hl':(l.length:Int)≤9223372036854775807:=hl
 have key:=G8 (st:=st) l (fun i (_:Unit)=>hd (i:Int)) (fun i x _=>bif ok i x then some (.inl ()) else some (.inr rt)) (fun _=>some ex) (fun _ _=>True)
  (fun i s hi _=>by
   have hrun:(st (hd (i:Int))).run=some (bif ok i l[i] then .inl (hd ((i+1:Nat):Int)) else .inr rt):=by
    rw [h,decide_eq_true (show (i:Int)<(l.length:Int) by omega),decide_eq_true (show 0≤(i:Int)∧(i:Int)<(l.length:Int) by omega),show Int.toNat (i:Int)=i by omega,E8 hi]
    exact hb i hi
   cases hk:ok i l[i] with
   | true=>rw [hk] at hrun;simp only [cond_true];exact ⟨hrun,trivial⟩
   | false=>rw [hk] at hrun;simp only [cond_false];exact hrun)
  (fun s e _ he=>by
   cases he
   rw [h,decide_eq_false (show ¬ (l.length:Int)<(l.length:Int) by omega)]
   rfl)
  l.length 0 () (bif I0 ok 0 l then ex else rt) (l.length+1) (by omega) (by omega) trivial (by rw [List.drop_zero];exact Ym ok rt ex _ 0)
 exact key
def plRc:List (Nat×PureT):=[]
theorem puRc:De Tryz.prog plRc:=puOk_nil
abbrev bL:BK:=(0,36,kLw)
def Ade:Lay:={ keys:=[1,3],ks:=[.p 0 0 0 0,.d cI],bs:=[bL],n:=224,nx:=1000,marks:=[] }
def A8m:Lay:={ keys:=[1],ks:=[.p 0 0 0 0],bs:=[bL],n:=224,nx:=1000,marks:=[] }
def Biz:Lay:={ keys:=[2],ks:=[.d cI],bs:=[],n:=224,nx:=1000,marks:=[] }
def V3:XE→Lay:=fun e=>match e with | .ret=>Biz | _=>A8m
def Aqp (x:SKTs kLw) (i:Int):Ade.T:=(((),i,()),(x,()))
def A39:A0 V3:=⟨.ret,((2,()),())⟩
def Aqq (x:SKTs kLw):A0 V3:=⟨.exit 0,(((),()),(x,()))⟩
def Bj0 (h:TCT Bt):TCT Bt:=(h.1,h.2.1,h.2.2.1,h.2.2.2.1,h.2.2.2.2.1,())
def hsX (x:SKTs kLw):List (TCT Bt):=x.2.2.2.2.1
def csX (x:SKTs kLw):List (TCT Dc):=x.2.2.2.2.2.2.2.2.2.2.1
def Ah1 (g:Ade.T):Tree (Ade.T⊕A0 V3):=bif decide (g.1.2.1<((hsX g.2.1).length:Int)) then bif decide (0≤g.1.2.1∧g.1.2.1<((hsX g.2.1).length:Int)) then
 bif !Gx (Bj0 (B7 (hsX g.2.1) (Int.toNat g.1.2.1) (B9 Bt))) then .leaf (.inr A39) else .leaf (.inl (Aqp g.2.1 (W64 (g.1.2.1+1)))) else .fail else .leaf (.inr (Aqq g.2.1))
def Aqr (g:Ade.T):Nat:=(hsX g.2.1).length+1
def Adf:Lay:={ keys:=[1,4],ks:=[.p 0 0 0 0,.d cI],bs:=[bL],n:=224,nx:=1000,marks:=[] }
def Aqs (x:SKTs kLw) (i:Int):Adf.T:=(((),i,()),(x,()))
def Aqt (x:SKTs kLw):A0 V3:=⟨.exit 2,(((),()),(x,()))⟩
def Ah2 (g:Adf.T):Tree (Adf.T⊕A0 V3):=bif decide (g.1.2.1<((csX g.2.1).length:Int)) then bif decide (0≤g.1.2.1∧g.1.2.1<((csX g.2.1).length:Int)) then
 bif !Hz (B7 (csX g.2.1) (Int.toNat g.1.2.1) (B9 Dc)) then .leaf (.inr A39) else .leaf (.inl (Aqs g.2.1 (W64 (g.1.2.1+1)))) else .fail else .leaf (.inr (Aqt g.2.1))
def Aqu (g:Adf.T):Nat:=(csX g.2.1).length+1
end St
end V
end Go.Proofs.YtcfanlgpkefogaaGreat
namespace Go.Proofs.YtcfanlgpkefogaaGreat
open Go.RowKit
namespace V
namespace St
def A8n:Lay:={ keys:=[1,5,6,7],ks:=[.p 0 0 0 0,.d (.sl A6),.d cI,.d cI],bs:=[bL],n:=224,nx:=2000,marks:=[] }
def Bem:Lay:={ keys:=[1,5,6],ks:=[.p 0 0 0 0,.d (.sl A6),.d cI],bs:=[bL],n:=224,nx:=2000,marks:=[] }
def B60:Lay:={ keys:=[2],ks:=[.d cI],bs:=[],n:=224,nx:=2000,marks:=[] }
def A5h:XE→Lay:=fun e=>match e with | .ret=>B60 | _=>Bem
def Yp:Lay:={ keys:=[1,5,6],ks:=[.p 0 0 0 0,.d (.sl A6),.d cI],bs:=[bL],n:=224,nx:=1000,marks:=[] }
def Bj3:Lay:={ keys:=[],ks:=[],bs:=[],n:=224,nx:=2000,marks:=[] }
def A8o:XE→Lay:=fun e=>match e with | .ret=>B60 | _=>Bj3
def sqR (a b:TCT A6):Int:=W64 (W64 (W64 (a.1.1-b.1.1)*W64 (a.1.1-b.1.1))+W64 (W64 (a.1.2.1-b.1.2.1)*W64 (a.1.2.1-b.1.2.1)))
def A25 (d o:TCT A6):Bool:=decide (sqR d o<srD d o)
def inP {β:Type} (p:List (TCT A6)) (i:Int) (k:Tree β):Tree β:=bif decide (0≤i∧i<(p.length:Int)) then k else .fail
theorem I1 {β:Type} {p:List (TCT A6)} {i:Int} {k:Tree β} (h:0≤i∧i<(p.length:Int)):inP p i k=k:=by unfold inP;rw [decide_eq_true h];rfl
def gD (p:List (TCT A6)) (i:Int):TCT A6:=B7 p (Int.toNat i) (B9 A6)
def Ah3 (x:SKTs kLw) (p:List (TCT A6)) (i k:Int):A8n.T:=(((),p,i,k,()),(x,()))
def Ah4:A0 A5h:=⟨.ret,((2,()),())⟩
def Ah5 (x:SKTs kLw) (p:List (TCT A6)) (i:Int):A0 A5h:=⟨.exit 6,(((),p,i,()),(x,()))⟩
def Adg (x:SKTs kLw) (p:List (TCT A6)) (i k:Int):Tree (A8n.T⊕A0 A5h):=bif decide (k<i) then
 inP p i (inP p k (inP p i (inP p k (inP p i (inP p k (inP p i (inP p k (bif A25 (gD p i) (gD p k) then .leaf (.inr Ah4) else .leaf (.inl (Ah3 x p i (W64 (k+1)))))))))))) else .leaf (.inr (Ah5 x p i))
def A8p (g:A8n.T):Tree (A8n.T⊕A0 A5h):=Adg g.2.1 g.1.2.1 g.1.2.2.1 g.1.2.2.2.1
def Aqv (g:A8n.T):Nat:=(List.take (Int.toNat g.1.2.2.1) (g.1.2.1:List (TCT A6))).length+1
theorem Azw (x:SKTs kLw) (p:List (TCT A6)) (i:Nat) (hi:i<p.length) (hp:(p.length:Int)≤Bo .i64) :
  iter A8p ((p.take i).length+1) (Ah3 x p i 0)=some (bif (p.take i).any (A25 p[i]) then Ah4 else Ah5 x p i):=by
 have ht:(p.take i).length=i:=by rw [List.length_take];omega
 have hp':(p.length:Int)≤9223372036854775807:=hp
 refine Oq (p.take i) (B9 A6) (fun k=>Ah3 x p i k) (A25 p[i]) Ah4 (Ah5 x p i) (by rw [ht];show (i:Int)≤9223372036854775807;omega) fun k=>?_
 show Adg x p i k=_
 unfold Adg
 rw [ht]
 by_cases hk:k<(i:Int)
 ·rw [decide_eq_true hk,cond_true,cond_true]
  by_cases h0:0≤k
  ·have hki:0≤k∧k<(p.length:Int):=by omega
   have hii:0≤(i:Int)∧(i:Int)<(p.length:Int):=by omega
   have e1:gD p (i:Int)=p[i]:=by unfold gD;rw [show Int.toNat (i:Int)=i by omega,E8 hi]
   have e2:gD p k=B7 (p.take i) (Int.toNat k) (B9 A6):=by
    unfold gD
    have h1:Int.toNat k<p.length:=by omega
    have h2:Int.toNat k<(p.take i).length:=by omega
    rw [E8 h1,E8 h2,List.getElem_take]
   rw [I1 hii,I1 hki,I1 hii,I1 hki,I1 hii,I1 hki,I1 hii,I1 hki,e1,e2,decide_eq_true (show 0≤k∧k<(i:Int) by omega)]
   rfl
  ·have hii:0≤(i:Int)∧(i:Int)<(p.length:Int):=by omega
   rw [I1 hii,decide_eq_false (show ¬ (0≤k∧k<(i:Int)) by omega)]
   unfold inP
   rw [decide_eq_false (show ¬ (0≤k∧k<(p.length:Int)) by omega)]
   rfl
 ·rw [decide_eq_false hk];rfl
def Ah6 (x:SKTs kLw) (p:List (TCT A6)) (i:Int):Yp.T:=(((),p,i,()),(x,()))
def A3a (e:Int):A0 A8o:=⟨.ret,((e,()),())⟩
def Ah7:A0 A8o:=⟨.exit 4,((),())⟩
abbrev TC3:=Tree (Yp.T⊕A0 A8o)
def B97 (x:SKTs kLw) (p:List (TCT A6)) (i:Int):Option (A0 A5h):=iter A8p ((p.take (Int.toNat i)).length+1) (Ah3 x p i 0)
def Ben (r:Bem.T):Yp.T:=Ah6 r.2.1 r.1.2.1 (W64 (r.1.2.2.1+1))
def Beo (y:Option (A0 A5h)):TC3:=bif isE .ret y then .leaf (.inr (A3a (D4 .ret y).1.1)) else bif isE (.exit 6) y then .leaf (.inl (Ben (D4 (.exit 6) y))) else .fail
def Aqw (x:SKTs kLw) (p:List (TCT A6)) (i:Int) (d:TCT A6):TC3 :=
 inP p i (inP p i (bif !inR d.1.1 d.2.1 (W64 (x.2.1-d.2.1)) then .leaf (.inr (A3a 2)) else inP p i (inP p i (inP p i (bif !inR d.1.2.1 d.2.1 (W64 (x.2.2.1-d.2.1)) then .leaf (.inr (A3a 2)) else Beo (B97 x p i))))))
def A8q (g:Yp.T):TC3:=bif decide (g.1.2.2.1<((g.1.2.1:List (TCT A6)).length:Int)) then bif decide (0≤g.1.2.2.1∧g.1.2.2.1<((g.1.2.1:List (TCT A6)).length:Int)) then Aqw g.2.1 g.1.2.1 g.1.2.2.1 (gD g.1.2.1 g.1.2.2.1) else .fail else .leaf (.inr Ah7)
def Aqx (g:Yp.T):Nat:=(g.1.2.1:List (TCT A6)).length+1
def B61:Lp:=fun k=>bif Nat.beq k 24 then some (Bd A8n A5h (E5 [.ret,.exit 6] A8p Aqv)) else none
end St
end V
end Go.Proofs.YtcfanlgpkefogaaGreat
namespace Go.Proofs.YtcfanlgpkefogaaGreat
open Go.RowKit
namespace V
namespace St
def Ar2 (x:SKTs kLw):Option (A0 V3):=iter Ah1 ((hsX x).length+1) (Aqp x 0)
def Ar3 (x:SKTs kLw):Option (A0 V3):=iter Ah2 ((csX x).length+1) (Aqs x 0)
def Ar4 (x:SKTs kLw) (p:List (TCT A6)):Option (A0 A8o):=iter A8q (p.length+1) (Ah6 x p 0)
def Ar5 (r:A8m.T):TEr:=bif decide ((hsX r.2.1).length≤1000) then
 bif isE .ret (Ar4 r.2.1 (Cd (Oa r.2.1))) then .leaf ((D4 .ret (Ar4 r.2.1 (Cd (Oa r.2.1)))).1.1,()) else bif isE (.exit 4) (Ar4 r.2.1 (Cd (Oa r.2.1))) then .leaf (0,()) else .fail else .fail
def Ar6 (r:A8m.T):TEr:=er (!inR (Me (Oa r.2.1)).2.1 1 8192) 2 (er (!inR (Me (Oa r.2.1)).1.1 0 4194304) 2 (er (!inR (Me (Oa r.2.1)).1.2.1 0 4194304) 2 (
 er (decide (nxL (Oa r.2.1)<1)) 2 (er (decide (nxL (Oa r.2.1)>16)) 2 (er (decide (nyL (Oa r.2.1)<1)) 2 (er (decide (nyL (Oa r.2.1)>16)) 2 (er (((csX r.2.1).length:Int)!=W64 (nxL (Oa r.2.1)*nyL (Oa r.2.1))) 2 (
 bif isE .ret (Ar3 r.2.1) then .leaf ((D4 .ret (Ar3 r.2.1)).1.1,()) else bif isE (.exit 2) (Ar3 r.2.1) then Ar5 (D4 (.exit 2) (Ar3 r.2.1)) else .fail))))))))
def Azy (l:TCT A9):TEr :=
 er (decide (((Be l).length:Int)<1)) 6 (er (decide (((Be l).length:Int)>12)) 6 (er (decide (((Dx l).length:Int)>256)) 6 (
 bif decide ((l.1.size:Int)≤Bo .i64) then er (!Kn l.1) 2 (er (!inR l.2.1 65536 4194304) 2 (er (!inR l.2.2.1 65536 4194304) 2 (er (!inR l.2.2.2.1 0 (W64 (Int.tdiv (min l.2.1 l.2.2.1) 4))) 2 (
  bif isE .ret (Ar2 (Ez l)) then .leaf ((D4 .ret (Ar2 (Ez l))).1.1,()) else bif isE (.exit 0) (Ar2 (Ez l)) then Ar6 (D4 (.exit 0) (Ar2 (Ez l))) else .fail))))
 else .fail)))
end St
end V
end Go.Proofs.YtcfanlgpkefogaaGreat
namespace Go.Proofs.YtcfanlgpkefogaaGreat
open Go.RowKit
namespace V
namespace St
def apR (w l:Int) (p:List (TCT A6)):Bool:=I0 (fun i d=>Ri w l d&&!(p.take i).any (A25 d)) 0 p
theorem B00 (x:SKTs kLw) (hl:((hsX x).length:Int)≤Bo .i64):Ar2 x=some (bif (hsX x).any (fun h=>!Gx h) then A39 else Aqq x) :=
 Oq (hsX x) (B9 Bt) (Aqp x) (fun h=>!Gx h) A39 (Aqq x) hl (fun _=>rfl)
theorem B01 (x:SKTs kLw) (hl:((csX x).length:Int)≤Bo .i64):Ar3 x=some (bif (csX x).any (fun h=>!Hz h) then A39 else Aqt x) :=
 Oq (csX x) (B9 Dc) (Aqs x) (fun h=>!Hz h) A39 (Aqt x) hl (fun _=>rfl)
theorem B02 (x:SKTs kLw) (p:List (TCT A6)) (hp:(p.length:Int)≤Bo .i64):Ar4 x p=some (bif apR x.2.1 x.2.2.1 p then Ah7 else A3a 2):=by
 have hp':(p.length:Int)≤9223372036854775807:=hp
 refine Yo p (B9 A6) (Ah6 x p) (fun i d=>Ri x.2.1 x.2.2.1 d&&!(p.take i).any (A25 d)) (Aqw x p) (A3a 2) Ah7 hp (fun _=>rfl) fun i hi=>?_
 have hii:0≤(i:Int)∧(i:Int)<(p.length:Int):=by omega
 unfold Aqw Ri
 rw [I1 hii,I1 hii,I1 hii,I1 hii,I1 hii]
 cases inR p[i].1.1 p[i].2.1 (W64 (x.2.1-p[i].2.1)) with
 | false=>rfl
 | true =>
  cases inR p[i].1.2.1 p[i].2.1 (W64 (x.2.2.1-p[i].2.1)) with
  | false=>rfl
  | true =>
   have hy:B97 x p (i:Int)=some (bif (p.take i).any (A25 p[i]) then Ah4 else Ah5 x p i):=by
    unfold B97
    rw [show Int.toNat (i:Int)=i by omega]
    exact Azw x p i hi hp
   simp only [Bool.not_true,cond_false,Bool.true_and]
   rw [hy]
   cases (p.take i).any (A25 p[i]) with
   | true=>rfl
   | false =>
    show (Tree.leaf (Sum.inl (Ah6 x p (W64 ((i:Int)+1)))):TC3).run=_
    rw [Bi (n:=(i:Int)+1) (by omega) (by omega)]
    rfl
def B03 (l:TCT A9):Bool:=inR (Me l).2.1 1 8192&&(inR (Me l).1.1 0 4194304&&inR (Me l).1.2.1 0 4194304)
def okR (l:TCT A9):Bool:=Adc l&&((Be l).all Gx&&(B03 l&&(Add l&&((Dx l).all Hz&&apR l.2.1 l.2.2.1 (Cd l)))))
def B04 (l:TCT A9):Int:=bif O3 l then 6 else bif okR l then 0 else 2
theorem A3b {l:TCT A9}:(Cd l).length=2*(Be l).length+1:=by
 unfold Cd
 rw [List.length_append,Sw]
 rfl
theorem Beq {l:TCT A9} (h12:(Be l).length≤1000):(Ar5 (((),()),(Ez l,()))).sat (fun y=>y=((bif apR l.2.1 l.2.2.1 (Cd l) then (0:Int) else 2),())):=by
 unfold Ar5
 have e:Oa (((((),()),(Ez l,())):A8m.T).2.1)=l:=rfl
 have e2:hsX (((((),()),(Ez l,())):A8m.T).2.1)=Be l:=rfl
 have hy:Ar4 (((((),()),(Ez l,())):A8m.T).2.1) (Cd l)=some (bif apR l.2.1 l.2.2.1 (Cd l) then Ah7 else A3a 2):=B02 (Ez l) (Cd l) (by rw [A3b];simp only [Bo];omega)
 rw [e,e2,decide_eq_true h12,hy]
 cases apR l.2.1 l.2.2.1 (Cd l) <;> exact rfl
theorem Nf {a b:Bool} {k:TEr} (h:k.sat (fun y=>y=((bif b then (0:Int) else 2),()))):(er (!a) 2 k).sat (fun y=>y=((bif a&&b then (0:Int) else 2),())):=by
 cases a with
 | true=>exact h
 | false=>exact rfl
theorem Ot {a b:Bool} {k:TEr} (h:k.sat (fun y=>y=((bif b then (0:Int) else 2),()))):(er a 2 k).sat (fun y=>y=((bif !a&&b then (0:Int) else 2),())):=by
 cases a with
 | true=>exact rfl
 | false=>exact h
theorem Ber {l:TCT A9} (h12:(Be l).length≤1000) (hc:((Dx l).length:Int)≤Bo .i64):(Ar6 (((),()),(Ez l,()))).sat (fun y=>y=((bif B03 l&&(Add l&&((Dx l).all Hz&&apR l.2.1 l.2.2.1 (Cd l))) then (0:Int) else 2),())):=by
 unfold Ar6 B03 Add
 have e:Oa (((((),()),(Ez l,())):A8m.T).2.1)=l:=rfl
 have e2:csX (((((),()),(Ez l,())):A8m.T).2.1)=Dx l:=rfl
 rw [e,e2]
 simp only [Bool.and_assoc]
 refine Nf (Nf (Nf (Ot (Ot (Ot (Ot (Ot ?_)))))))
 rw [B01 (Ez l) hc]
 have hq:(csX (Ez l)).any (fun h=>!Hz h)=!(Dx l).all Hz:=Ll Hz _
 rw [hq]
 cases (Dx l).all Hz with
 | false=>exact rfl
 | true=>exact Beq h12
theorem B05 {l:TCT A9} (hs:(l.1.size:Int)≤Bo .i64) (hh:((Be l).length:Int)≤Bo .i64) (hc:((Dx l).length:Int)≤Bo .i64):(Azy l).sat (fun y=>y=(B04 l,())):=by
 unfold Azy B04
 rw [← O4,← O4,Bool.or_assoc]
 show (er (O3 l) 6 _).sat _
 cases hm:O3 l with
 | true=>exact rfl
 | false =>
  have h12:(Be l).length≤1000:=by
   unfold O3 at hm
   simp only [Bool.or_eq_false_iff,decide_eq_false_iff_not] at hm
   omega
  rw [decide_eq_true hs]
  show (er (!Kn l.1) 2 _).sat (fun y=>y=((bif okR l then (0:Int) else 2),()))
  unfold okR Adc
  simp only [Bool.and_assoc]
  refine Nf (Nf (Nf (Nf ?_)))
  rw [B00 (Ez l) hh]
  have hq:(hsX (Ez l)).any (fun h=>!Gx h)=!(Be l).all Gx:=Ll Gx _
  rw [hq]
  cases (Be l).all Gx with
  | false=>exact rfl
  | true=>exact Ber h12 hc
end St
end V
end Go.Proofs.YtcfanlgpkefogaaGreat
namespace Go.Proofs.YtcfanlgpkefogaaGreat
open Go.RowKit
namespace V
namespace St
theorem G1 {x lo hi:Int}:inR x lo hi=true ↔ lo≤x∧x≤hi:=by unfold inR;simp only [Bool.and_eq_true,decide_eq_true_eq]
theorem Ah8 {α:Type} {p:List α} {ok1 ok2:Nat→α→Bool} (ins:α→Bool) (h:∀ (i:Nat) (hi:i<p.length),(∀ o ∈ p.take i,ins o=true)→ok1 i p[i]=ok2 i p[i]) (h1:∀ i x,ok1 i x=true→ins x=true) :
  ∀ (k i:Nat),i+k=p.length→(∀ o ∈ p.take i,ins o=true)→I0 ok1 i (p.drop i)=I0 ok2 i (p.drop i)
 | 0,i,hk,_=>by
  rw [List.drop_eq_nil_of_le (by omega)];rfl
 | k+1,i,hk,hp=>by
  have hi:i<p.length:=by omega
  rw [List.drop_eq_getElem_cons hi]
  simp only [I0]
  rw [← h i hi hp]
  cases ho:ok1 i p[i] with
  | false=>rfl
  | true =>
   rw [Bool.true_and,Bool.true_and]
   refine Ah8 ins h h1 k (i+1) (by omega) fun o hm=>?_
   rw [List.take_succ_eq_append_getElem hi,List.mem_append,List.mem_singleton] at hm
   rcases hm with hm | rfl
   ·exact hp o hm
   ·exact h1 i _ ho
theorem A8r {α:Type} {ok:Nat→α→Bool}:∀ (l:List α) (i:Nat),I0 ok i l=true→∀ x ∈ l,∃ j,ok j x=true
 | y::l,i,h,x,hx=>by
  simp only [I0,Bool.and_eq_true] at h
  rcases List.mem_cons.1 hx with rfl | hx
  ·exact ⟨i,h.1⟩
  ·exact A8r l (i+1) h.2 x hx
structure On (d:TCT A6):Prop where
 x:0≤d.1.1∧d.1.1≤4194304
 y:0≤d.1.2.1∧d.1.2.1≤4194304
 r:1≤d.2.1∧d.2.1≤8192
theorem B06 {x y r w l:Int} (hw:0≤w∧w≤4194304) (hl:0≤l∧l≤4194304) (hr:1≤r∧r≤8192) (h:(r≤x∧x≤W64 (w-r))∧r≤y∧y≤W64 (l-r)):(0≤x∧x≤4194304)∧0≤y∧y≤4194304:=by
 rw [Bi (n:=w-r) (by omega) (by omega),Bi (n:=l-r) (by omega) (by omega)] at h
 omega
theorem Ar7 {w l:Int} (hw:0≤w∧w≤4194304) (hl:0≤l∧l≤4194304) {d:TCT A6} (hr:1≤d.2.1∧d.2.1≤8192) (h:Ri w l d=true):On d:=by
 unfold Ri at h
 simp only [Bool.and_eq_true,G1] at h
 obtain ⟨h1,h2⟩:=B06 hw hl hr h
 exact ⟨h1,h2,hr⟩
theorem Ar8 {x y r:Int} (hx:0≤x∧x≤4194304) (hy:0≤y∧y≤4194304) (hr:1≤r∧r≤8192):A04 x y r=0:=by
 unfold A04 Kz fpt Bu
 rw [decide_eq_true (show -4194304≤x∧x≤4194304 ∧ -4194304≤y∧y≤4194304 by omega),decide_eq_false (show ¬ r<1 by omega),decide_eq_false (show ¬ 65536<r by omega)]
 rfl
theorem Ar9 {a b:Int} (ha:0≤a∧a≤4194304) (hb:0≤b∧b≤4194304):W64 (b-a)*W64 (b-a)=W64 (a-b)*W64 (a-b):=by
 rw [Bi (n:=b-a) (by omega) (by omega),Bi (n:=a-b) (by omega) (by omega)]
 grind
theorem B9b {d o:TCT A6} (hd:On d) (ho:On o):touB d o=A25 d o:=by
 have e:sqD d o=sqR d o:=by
  unfold sqD sqR
  rw [Ar9 hd.x ho.x,Ar9 hd.y ho.y]
 have c1:cdE d=0:=Ar8 hd.x hd.y hd.r
 have c2:cdE o=0:=Ar8 ho.x ho.y ho.r
 unfold touB A25 Ali
 rw [c1,c2,e]
 show decide (Azp (sqR d o) (srD d o)<0)=_
 unfold Azp
 by_cases h:sqR d o<srD d o
 ·rw [decide_eq_true h];rfl
 ·rw [decide_eq_false h,cond_false]
  cases decide (sqR d o>srD d o) <;> rfl
theorem Px {α:Type} {p q:α→Bool}:∀ {l:List α},(∀ x ∈ l,p x=q x)→l.any p=l.any q
 | [],_=>rfl
 | x::l,h=>by rw [List.any_cons,List.any_cons,h x (List.mem_cons_self ..),Px fun y hy=>h y (List.mem_cons_of_mem _ hy)]
theorem Bes {w l:Int} (hw:0≤w∧w≤4194304) (hl:0≤l∧l≤4194304) {p:List (TCT A6)} (hr:∀ d ∈ p,1≤d.2.1∧d.2.1≤8192):apF w l p=apR w l p:=by
 have key:=Ah8 (p:=p) (ok1:=fun i d=>Ri w l d&&!(p.take i).any (touB d)) (ok2:=fun i d=>Ri w l d&&!(p.take i).any (A25 d)) (Ri w l)
  (fun i hi hp=>by
   cases hi':Ri w l p[i] with
   | false=>rfl
   | true =>
    have hd:=Ar7 hw hl (hr _ (List.getElem_mem hi)) hi'
    rw [Px fun o ho=>B9b hd (Ar7 hw hl (hr o (List.mem_of_mem_take ho)) (hp o ho))])
  (fun i x h=>by simp only [Bool.and_eq_true] at h;exact h.1) p.length 0 (by omega) (fun o ho=>by rw [List.take_zero] at ho;cases ho)
 rw [List.drop_zero] at key
 exact key
theorem Bj7 {h:TCT Bt} {d:TCT A6} (hd:d ∈ w2 h):d.2.1=h.2.2.2.1:=by
 unfold w2 at hd
 cases hb:h.2.2.2.2.1 with
 | true =>
  rw [hb] at hd
  have hd:d ∈ [Gy h.1 (W64 (h.2.1-dW h)) h.2.2.2.1,Gy h.1 (W64 (h.2.1+dW h)) h.2.2.2.1]:=hd
  rcases List.mem_cons.1 hd with rfl | hd
  ·rfl
  ·rw [List.mem_singleton] at hd;subst hd;rfl
 | false =>
  rw [hb] at hd
  have hd:d ∈ [Gy (W64 (h.1-dW h)) h.2.1 h.2.2.2.1,Gy (W64 (h.1+dW h)) h.2.1 h.2.2.2.1]:=hd
  rcases List.mem_cons.1 hd with rfl | hd
  ·rfl
  ·rw [List.mem_singleton] at hd;subst hd;rfl
theorem B07 {l:TCT A9} (hh:(Be l).all Gx=true) (hp:inR (Me l).2.1 1 8192=true):∀ d ∈ Cd l,1≤d.2.1∧d.2.1≤8192:=by
 intro d hd
 unfold Cd at hd
 rw [List.mem_append,List.mem_singleton,List.mem_flatMap] at hd
 rcases hd with ⟨h,hm,hd⟩ | rfl
 ·have:=List.all_eq_true.1 hh h hm
  unfold Gx at this
  simp only [Bool.and_eq_true,G1] at this
  rw [Bj7 hd]
  exact this.2.2.2.2
 ·exact G1.1 hp
theorem Ara (l:TCT A9):B04 l=Co l:=by
 unfold B04 Co
 congr 2
 unfold okR okL
 cases hd:Adc l with
 | false=>rfl
 | true =>
  have hd':=hd
  unfold Adc at hd'
  simp only [Bool.and_eq_true,G1] at hd'
  obtain ⟨_,⟨w1,w2'⟩,⟨l1,l2⟩,_⟩:=hd'
  have hw:0≤l.2.1∧l.2.1≤4194304:=⟨Int.le_trans (by decide) w1,w2'⟩
  have hl:0≤l.2.2.1∧l.2.2.1≤4194304:=⟨Int.le_trans (by decide) l1,l2⟩
  unfold B03
  cases hh:(Be l).all Gx with
  | false=>cases inR (Me l).2.1 1 8192 <;> cases Add l <;> rfl
  | true =>
   cases hp:inR (Me l).2.1 1 8192 with
   | false=>rfl
   | true =>
    have hr:=B07 hh hp
    rw [← Bes hw hl hr]
    cases ha:apF l.2.1 l.2.2.1 (Cd l) with
    | false=>simp
    | true =>
     obtain ⟨j,hj⟩:=A8r (Cd l) 0 ha (Me l) (by unfold Cd;simp)
     simp only [Bool.and_eq_true] at hj
     have on:=Ar7 hw hl (G1.1 hp) hj.1
     have e1:inR (Me l).1.1 0 4194304=true:=G1.2 on.x
     have e2:inR (Me l).1.2.1 0 4194304=true:=G1.2 on.y
     rw [e1,e2]
     simp
end St
end V
end Go.Proofs.YtcfanlgpkefogaaGreat
namespace Go.Proofs.YtcfanlgpkefogaaGreat
open Go.RowKit
namespace V
namespace St
theorem is_Posts:FnIs Tryz.prog (25,Tryz.f25):=⟨Tryz.func25,by kernel_rfl,by kernel_rfl⟩
def plPs:List (Nat×PureT):=[(75,Oo),(74,N9)]
theorem puPs:De Tryz.prog plPs:=puOk_cons is_lCheck.plain Mf (puOk_cons is_lposts.plain A5b (puOk_nil))
def Fe (l:TCT A9):List (TCT A6):=bif Co l==0 then Cd l else []
abbrev A5i:PureT:=Bz [A9] [.sl A6,cI] (fun x=>decide ((x.1.1.size:Int)≤Bo .i64)) (fun x=>(Fe x.1,Co x.1,()))
abbrev TPs:=Tree (TCTs [.sl A6,cI])
def szT {β:Type} (l:TCT A9) (k:Tree β):Tree β:=bif decide ((l.1.size:Int)≤Bo .i64) then k else .fail
theorem Dh {β:Type} {l:TCT A9} {k:Tree β} (h:(l.1.size:Int)≤Bo .i64):szT l k=k:=by unfold szT;rw [decide_eq_true h];rfl
def Ah9 (l:TCT A9):TPs:=bif decide ((Be l).length≤1000) then .leaf (Cd l,0,()) else .fail
def B9c (l:TCT A9):TPs:=szT l (bif Co l != 0 then .leaf ([],Co l,()) else Ah9 l)
theorem Sz {l:TCT A9} (h:Co l=0):(Be l).length≤12∧1≤(Be l).length:=by
 unfold Co at h
 cases hm:O3 l with
 | true=>rw [hm] at h;cases h
 | false =>
  unfold O3 at hm
  simp only [Bool.or_eq_false_iff,decide_eq_false_iff_not] at hm
  omega
theorem Arc {l:TCT A9} (h:Co l=0):(Ah9 l).sat (fun y=>y=(Fe l,Co l,())):=by
 have:=Sz h
 unfold Ah9 Fe
 rw [decide_eq_true (show (Be l).length≤1000 by omega),h]
 exact rfl
theorem Bet {l:TCT A9}:(bif Co l != 0 then .leaf ([],Co l,()) else Ah9 l:TPs).sat (fun y=>y=(Fe l,Co l,())):=by
 cases h:Co l==0 with
 | true =>
  have h':Co l=0:=by simpa using h
  rw [show (Co l != 0)=false by simp [h']]
  exact Arc h'
 | false =>
  rw [show (Co l != 0)=true by simpa using h]
  unfold Fe
  rw [h]
  exact rfl
theorem Aha:A5 Tryz.prog 25 A5i:=C5 (B6 Aw puPs (fns_cons is_Posts A1)) 7 (fun x=>B9c x.1) (fun x=>by kernel_rfl) fun x hok _=>by
 show (B9c x.1).sat _
 unfold B9c
 rw [Dh (of_decide_eq_true hok)]
 exact Bet
end St
end V
end Go.Proofs.YtcfanlgpkefogaaGreat
namespace Go.Proofs.YtcfanlgpkefogaaGreat
open Go.RowKit
namespace V
namespace St
theorem is_CellAt:FnIs Tryz.prog (18,Tryz.f18):=⟨Tryz.func18,by kernel_rfl,by kernel_rfl⟩
theorem is_lchk:FnIs Tryz.prog (57,Tryz.f57):=⟨Tryz.func57,by kernel_rfl,by kernel_rfl⟩
theorem is_lon:FnIs Tryz.prog (58,Tryz.f58):=⟨Tryz.func58,by kernel_rfl,by kernel_rfl⟩
def onB (l:TCT A9) (p:TCT cPt):Bool:=inR p.1 0 l.2.1&&inR p.2.1 0 l.2.2.1
def T8 (l:TCT A9) (p:TCT cPt):Int:=W64 (W64 (min (W64 (Int.tdiv (W64 (p.2.1*nyL l)) l.2.2.1)) (W64 (nyL l-1))*nxL l)+min (W64 (Int.tdiv (W64 (p.1*nxL l)) l.2.1)) (W64 (nxL l-1)))
def B08 (c:TCT Dc):TCT Dc:=(c.1,c.2.1,c.2.2.1,())
def zCe:TCT Dc:=(0,0,0,())
def A26 (l:TCT A9) (p:TCT cPt):Int:=bif Co l != 0 then Co l else bif fpt p.1 p.2.1 then 0 else 2
def Fy (l:TCT A9) (p:TCT cPt):Int:=bif A26 l p != 0 then A26 l p else bif onB l p then 0 else 5
def Ju (l:TCT A9) (p:TCT cPt):TCT Dc:=bif Fy l p==0 then B08 (B7 (Dx l) (Int.toNat (T8 l p)) (B9 Dc)) else zCe
abbrev A8s:PureT:=Bz [A9,cPt] [Dc,cI] (fun x=>decide ((x.1.1.size:Int)≤Bo .i64)) (fun x=>(((Ju x.1 x.2.1).1,(Ju x.1 x.2.1).2.1,(Ju x.1 x.2.1).2.2.1,()),Fy x.1 x.2.1,()))
abbrev TCe:=Tree (TCTs [Dc,cI])
def V4 (e:Int):TCe:=.leaf (zCe,e,())
def Ard (l:TCT A9) (p:TCT cPt):TCe:=bif l.2.1 != 0 then bif l.2.2.1 != 0 then bif decide (0≤T8 l p∧T8 l p<((Dx l).length:Int)) then .leaf (B08 (B7 (Dx l) (Int.toNat (T8 l p)) (B9 Dc)),0,()) else .fail else .fail else .fail
def A3c (l:TCT A9) (p:TCT cPt):TCe:=bif inR p.1 0 l.2.1 then bif !inR p.2.1 0 l.2.2.1 then V4 5 else Ard l p else V4 5
def B09 (l:TCT A9) (p:TCT cPt):TCe:=szT l (bif Co l != 0 then bif Co l != 0 then V4 (Co l) else A3c l p else bif Hy p.1 p.2.1 != 0 then V4 2 else A3c l p)
theorem B0a (x:TCTs [A9,cPt]):E1 (Anz 2 Tryz.prog ((43,K2)::(105,s_inR)::plPs) [(18,Tryz.f18),(57,Tryz.f57),(58,Tryz.f58)]) 7 (.fn 18) (Eg [A9,cPt] x) Ck 0 (If Tryz.prog [Dc,cI])=B09 x.1 x.2.1:=by kernel_rfl
theorem Ahb {a b c d:Int} (h0:0≤a) (h1:a≤c) (h2:0≤b) (h3:b≤d):a*b≤c*d:=Int.mul_le_mul h1 h3 h2 (by omega)
theorem A8t {y ny l:Int} (hl:1≤l∧l≤4194304) (hy:0≤y∧y≤l) (hn:1≤ny∧ny≤16):0≤min (W64 (Int.tdiv (W64 (y*ny)) l)) (W64 (ny-1))∧min (W64 (Int.tdiv (W64 (y*ny)) l)) (W64 (ny-1))≤ny-1:=by
 have h1:0≤y*ny:=Int.mul_nonneg hy.1 (by omega)
 have h2:y*ny≤4194304*16:=Ahb hy.1 (by omega) (by omega) hn.2
 rw [Bi (n:=y*ny) (by omega) (by omega),Int.tdiv_eq_ediv_of_nonneg h1]
 have h3:=Int.ediv_nonneg h1 (show 0≤l by omega)
 have h4:=Int.ediv_le_self l h1
 rw [Bi (n:=y*ny / l) (by omega) (by omega),Bi (n:=ny-1) (by omega) (by omega)]
 omega
theorem Are {i k nx ny:Int} (hx:1≤nx∧nx≤16) (hy:1≤ny∧ny≤16) (hi:0≤i∧i≤nx-1) (hk:0≤k∧k≤ny-1):0≤W64 (W64 (k*nx)+i)∧W64 (W64 (k*nx)+i)<W64 (nx*ny):=by
 have h1:0≤k*nx:=Int.mul_nonneg hk.1 (by omega)
 have h2:k*nx≤(ny-1)*nx:=Int.mul_le_mul_of_nonneg_right hk.2 (by omega)
 have h3:nx*ny≤16*16:=Ahb (by omega) hx.2 (by omega) hy.2
 have h4:(ny-1)*nx=nx*ny-nx:=by grind
 rw [Bi (n:=k*nx) (by omega) (by omega),Bi (n:=k*nx+i) (by omega) (by omega),Bi (n:=nx*ny) (by omega) (by omega)]
 omega
structure LawOk (l:TCT A9):Prop where
 w:65536≤l.2.1∧l.2.1≤4194304
 lg:65536≤l.2.2.1∧l.2.2.1≤4194304
 nx:1≤nxL l∧nxL l≤16
 ny:1≤nyL l∧nyL l≤16
 n:((Dx l).length:Int)=W64 (nxL l*nyL l)
 hs:(Be l).all Gx=true
 cs:(Dx l).all Hz=true
 ap:apF l.2.1 l.2.2.1 (Cd l)=true
 hn:1≤(Be l).length∧(Be l).length≤12
theorem Adh {l:TCT A9} (h:Co l=0):LawOk l:=by
 have hn:=Sz h
 unfold Co at h
 cases hm:O3 l with
 | true=>rw [hm] at h;cases h
 | false =>
  rw [hm,cond_false] at h
  cases ho:okL l with
  | false=>rw [ho] at h;cases h
  | true =>
   unfold okL Adc Add at ho
   simp only [Bool.and_eq_true,G1,Bool.not_eq_true',decide_eq_false_iff_not,bne_eq_false_iff_eq] at ho
   obtain ⟨⟨_,hw,hl,_⟩,hp,⟨n1,n2,n3,n4,n5⟩,h1,h2,h3⟩:=ho
   exact ⟨hw,hl,⟨Int.not_lt.1 n1,Int.not_lt.1 n2⟩,⟨Int.not_lt.1 n3,Int.not_lt.1 n4⟩,n5,h1,h2,h3,hn.2,hn.1⟩
theorem Arf {l:TCT A9} {p:TCT cPt} (h:Co l=0) (ho:onB l p=true):Ard l p=.leaf (B08 (B7 (Dx l) (Int.toNat (T8 l p)) (B9 Dc)),0,()):=by
 have k:=Adh h
 unfold onB at ho
 simp only [Bool.and_eq_true,G1] at ho
 have hw:1≤l.2.1∧l.2.1≤4194304:=⟨Int.le_trans (by decide) k.w.1,k.w.2⟩
 have hl:1≤l.2.2.1∧l.2.2.1≤4194304:=⟨Int.le_trans (by decide) k.lg.1,k.lg.2⟩
 have hc:=Are k.nx k.ny (A8t hw ho.1 k.nx) (A8t hl ho.2 k.ny)
 rw [← k.n] at hc
 have e1:(l.2.1 != 0)=true:=by
  rw [bne_iff_ne];intro e;rw [e] at hw;exact absurd hw.1 (by decide)
 have e2:(l.2.2.1 != 0)=true:=by
  rw [bne_iff_ne];intro e;rw [e] at hl;exact absurd hl.1 (by decide)
 unfold Ard
 rw [e1,e2,decide_eq_true (show 0≤T8 l p∧T8 l p<((Dx l).length:Int) from hc)]
 rfl
theorem Arh {l:TCT A9} {p:TCT cPt} (h:Co l=0):A3c l p=bif onB l p then .leaf (B08 (B7 (Dx l) (Int.toNat (T8 l p)) (B9 Dc)),0,()) else V4 5:=by
 cases ho:onB l p with
 | true =>
  have:=Arf h ho
  unfold A3c
  unfold onB at ho
  simp only [Bool.and_eq_true] at ho
  rw [ho.1,ho.2,this]
  rfl
 | false =>
  unfold A3c
  unfold onB at ho
  cases h1:inR p.1 0 l.2.1 with
  | false=>rfl
  | true =>
   rw [h1,Bool.true_and] at ho
   rw [ho]
   rfl
def Adi (l:TCT A9) (p:TCT cPt):TCTs [Dc,cI]:=(((Ju l p).1,(Ju l p).2.1,(Ju l p).2.2.1,()),Fy l p,())
theorem B9d {l:TCT A9} {p:TCT cPt}:(bif A26 l p != 0 then V4 (A26 l p) else A3c l p:TCe).sat (fun y=>y=Adi l p):=by
 unfold Adi Ju Fy
 cases h1:A26 l p != 0 with
 | true =>
  have hne:(A26 l p==0)=false:=by
   rw [bne_iff_ne] at h1
   exact beq_eq_false_iff_ne.2 h1
  simp only [cond_true]
  rw [hne]
  exact rfl
 | false =>
  have hl:Co l=0:=by
   unfold A26 at h1
   cases h2:Co l != 0 with
   | true=>rw [h2,cond_true] at h1;rw [h2] at h1;cases h1
   | false=>exact bne_eq_false_iff_eq.1 h2
  simp only [cond_false]
  rw [Arh hl]
  cases onB l p <;> exact rfl
theorem A5j (x y:Int):(Hy x y != 0)=!fpt x y:=by unfold Hy;cases fpt x y <;> rfl
def plCe:List (Nat×PureT):=(43,K2)::(105,s_inR)::plPs
theorem puCe:De Tryz.prog plCe:=puOk_cons is_tChk.plain Lm (puOk_cons is_between2.plain q_between2 puPs)
theorem B0b {l:TCT A9} {p:TCT cPt} (hs:(l.1.size:Int)≤Bo .i64):(B09 l p).sat (fun y=>y=Adi l p):=by
 have key:=B9d (l:=l) (p:=p)
 unfold B09
 rw [Dh hs,A5j]
 unfold A26 at key
 cases h:Co l != 0 with
 | true =>
  rw [h] at key
  simp only [cond_true] at key ⊢
  rw [h] at key
  exact key
 | false =>
  rw [h] at key
  simp only [cond_false] at key ⊢
  cases hf:fpt p.1 p.2.1 with
  | true=>rw [hf] at key;exact key
  | false=>rw [hf] at key;exact key
theorem Ari:A5 Tryz.prog 18 A8s:=C5 (Qi (u:=2) Aw puCe (fns_cons is_CellAt (fns_cons is_lchk (fns_cons is_lon A1)))) 7 (fun x=>B09 x.1 x.2.1) B0a fun x hok _=>B0b (of_decide_eq_true hok)
end St
end V
end Go.Proofs.YtcfanlgpkefogaaGreat
namespace Go.Proofs.YtcfanlgpkefogaaGreat
open Go.RowKit
namespace V
namespace St
theorem is_cGround:FnIs Tryz.prog (78,Tryz.f78):=⟨Tryz.func78,by kernel_rfl,by kernel_rfl⟩
def A3 (g:TCT cGr):List (TCT A2):=g.2.1
def okG (g:TCT cGr):Bool:=(A3 g).all Il&&Hl g.2.2.1.1 g.2.2.1.2.1
def groE (g:TCT cGr):Int:=bif Co g.1 != 0 then Co g.1 else bif decide (((A3 g).length:Int)<1)||decide (((A3 g).length:Int)>8) then 6 else bif okG g then 0 else 2
abbrev B0c:PureT:=Bz [cGr] [cI] (fun x=>decide ((x.1.1.1.size:Int)≤Bo .i64)) (fun x=>(groE x.1,()))
def plG:List (Nat×PureT):=[(75,Oo),(126,G6),(123,A88)]
theorem puG:De Tryz.prog plG:=puOk_cons is_lCheck.plain Mf (puOk_cons is_CheckBounce.plain Ma (puOk_cons is_cfBall.plain Apv (puOk_nil)))
def Arj (g:TCT cGr):TEr:=bif okE (Hl g.2.2.1.1 g.2.2.1.2.1)!=0 then .leaf (2,()) else .leaf (0,())
def T_G (g:TCT cGr):TEr:=szT g.1 (bif Co g.1 != 0 then .leaf (Co g.1,()) else er (decide (((A3 g).length:Int)<1)) 6 (er (decide (((A3 g).length:Int)>8)) 6 (er ((A3 g).any (Ey ())) 2 (Arj g))))
theorem B9e (x:TCTs [cGr]):E1 (ctx Tryz.prog plG [(78,Tryz.f78)]) 7 (.fn 78) (Eg [cGr] x) Ck 0 (If Tryz.prog [cI])=T_G x.1:=by kernel_rfl
theorem B9f {g:TCT cGr} (hs:(g.1.1.size:Int)≤Bo .i64):(T_G g).sat (fun y=>y=(groE g,())):=by
 unfold T_G groE okG Arj
 have hq:(A3 g).any (Ey ())=!(A3 g).all Il:=Ll Il _
 rw [Dh hs,hq,Ye,← O4]
 cases Co g.1 != 0 with
 | true=>exact rfl
 | false =>
  simp only [cond_false]
  cases decide (((A3 g).length:Int)<1)||decide (((A3 g).length:Int)>8) with
  | true=>exact rfl
  | false=>cases (A3 g).all Il <;> cases Hl g.2.2.1.1 g.2.2.1.2.1 <;> exact rfl
theorem Bj8:A5 Tryz.prog 78 B0c:=C5 (B6 Aw puG (fns_cons is_cGround A1)) 7 (fun x=>T_G x.1) B9e fun x hok _=>B9f (of_decide_eq_true hok)
abbrev kGr:List SK:=[.d .s,.d cI,.d cI,.d cI,.d (.sl Bt),.d cI,.d cI,.d cI,.d cI,.d cI,.d (.sl Dc),.d (.sl A2),.d cI,.d cI]
def Alj (x:SKTs kGr):TCT cGr:=((x.1,x.2.1,x.2.2.1,x.2.2.2.1,x.2.2.2.2.1,((x.2.2.2.2.2.1,x.2.2.2.2.2.2.1,()),x.2.2.2.2.2.2.2.1,()),x.2.2.2.2.2.2.2.2.1,x.2.2.2.2.2.2.2.2.2.1,x.2.2.2.2.2.2.2.2.2.2.1,()),x.2.2.2.2.2.2.2.2.2.2.2.1,(x.2.2.2.2.2.2.2.2.2.2.2.2.1,x.2.2.2.2.2.2.2.2.2.2.2.2.2.1,()),())
def Eh (g:TCT cGr):SKTs kGr:=(g.1.1,g.1.2.1,g.1.2.2.1,g.1.2.2.2.1,g.1.2.2.2.2.1,g.1.2.2.2.2.2.1.1.1,g.1.2.2.2.2.2.1.1.2.1,g.1.2.2.2.2.2.1.2.1,g.1.2.2.2.2.2.2.1,g.1.2.2.2.2.2.2.2.1,g.1.2.2.2.2.2.2.2.2.1,g.2.1,g.2.2.1.1,g.2.2.1.2.1,())
def Adj:Lay:={ keys:=[1,3],ks:=[.p 0 0 0 0,.d cI],bs:=[(0,41,kGr)],n:=39,nx:=1000,marks:=[] }
def Bj9:Lay:={ keys:=[1],ks:=[.p 0 0 0 0],bs:=[(0,41,kGr)],n:=39,nx:=1000,marks:=[] }
def Bev:Lay:={ keys:=[2],ks:=[.d cI],bs:=[],n:=39,nx:=1000,marks:=[] }
def Adk:XE→Lay:=fun e=>match e with | .ret=>Bev | _=>Bj9
def Ark (x:SKTs kGr) (i:Int):Adj.T:=(((),i,()),(x,()))
def Arl:A0 Adk:=⟨.ret,((2,()),())⟩
def Arm (x:SKTs kGr):A0 Adk:=⟨.exit 0,(((),()),(x,()))⟩
def blX (x:SKTs kGr):List (TCT A2):=x.2.2.2.2.2.2.2.2.2.2.2.1
def Ahc (b:TCT A2):Bool:=okE (I5 b.1 b.2.1)!=0
def Ahd (g:Adj.T):Tree (Adj.T⊕A0 Adk):=bif decide (g.1.2.1<((blX g.2.1).length:Int)) then bif decide (0≤g.1.2.1∧g.1.2.1<((blX g.2.1).length:Int)) then
 bif Ahc (B7 (blX g.2.1) (Int.toNat g.1.2.1) (B9 A2)) then .leaf (.inr Arl) else .leaf (.inl (Ark g.2.1 (W64 (g.1.2.1+1)))) else .fail else .leaf (.inr (Arm g.2.1))
def Arn (g:Adj.T):Nat:=(blX g.2.1).length+1
def Aro (x:SKTs kGr):Option (A0 Adk):=iter Ahd ((blX x).length+1) (Ark x 0)
def B0e (g:TCT cGr):TEr:=szT g.1 (bif Co g.1 != 0 then szT g.1 (.leaf (Co g.1,())) else er (decide (((A3 g).length:Int)<1)) 6 (er (decide (((A3 g).length:Int)>8)) 6 (
 bif isE .ret (Aro (Eh g)) then .leaf ((D4 .ret (Aro (Eh g))).1.1,()) else bif isE (.exit 0) (Aro (Eh g)) then Arj (Alj (D4 (.exit 0) (Aro (Eh g))).2.1) else .fail)))
theorem B0g {g:TCT cGr} (hs:(g.1.1.size:Int)≤Bo .i64) (hb:((A3 g).length:Int)≤Bo .i64):(B0e g).sat (fun y=>y=(groE g,())):=by
 have hy:Aro (Eh g)=some (bif (blX (Eh g)).any Ahc then Arl else Arm (Eh g)):=Oq (blX (Eh g)) (B9 A2) (Ark (Eh g)) Ahc Arl (Arm (Eh g)) hb (fun _=>rfl)
 have hq:(blX (Eh g)).any Ahc=!(A3 g).all Il:=by
  rw [← Ll Il]
  exact Px fun b _=>Ye _
 rw [hq] at hy
 unfold B0e groE okG
 rw [Dh hs,Dh hs,hy,← O4]
 cases Co g.1 != 0 with
 | true=>exact rfl
 | false =>
  simp only [cond_false]
  cases decide (((A3 g).length:Int)<1)||decide (((A3 g).length:Int)>8) with
  | true=>exact rfl
  | false =>
   cases (A3 g).all Il with
   | false=>exact rfl
   | true =>
    show (Arj g).sat _
    unfold Arj
    rw [Ye]
    cases Hl g.2.2.1.1 g.2.2.1.2.1 <;> exact rfl
end St
end V
end Go.Proofs.YtcfanlgpkefogaaGreat
namespace Go.Proofs.YtcfanlgpkefogaaGreat
open Go.RowKit
namespace V
namespace St
theorem is_sOn:FnIs Tryz.prog (79,Tryz.f79):=⟨Tryz.func79,by kernel_rfl,by kernel_rfl⟩
abbrev A8u:PureT:=Bz [A9,cPt] [.b] (fun _=>true) (fun x=>(onB x.1 x.2.1,()))
def Bey (l:TCT A9) (p:TCT cPt):TBo:=So (decide (0≤p.1)) (So (decide (p.1≤l.2.1)) (So (decide (0≤p.2.1)) (.leaf (decide (p.2.1≤l.2.2.1),()))))
theorem B9g (l:TCT A9) (p:TCT cPt):onB l p=(decide (0≤p.1)&&(decide (p.1≤l.2.1)&&(decide (0≤p.2.1)&&decide (p.2.1≤l.2.2.1)))):=by
 unfold onB inR
 simp only [Bool.and_assoc]
theorem B62:A5 Tryz.prog 79 A8u:=C5 (B6 Aw puOk_nil (fns_cons is_sOn A1)) 4 (fun x=>Bey x.1 x.2.1) (fun x=>by kernel_rfl) fun x _ _=>by
 show (Bey x.1 x.2.1).sat (fun y=>y=(onB x.1 x.2.1,()))
 rw [B9g]
 exact Hb (Hb (Hb (A2w _)))
end St
end V
end Go.Proofs.YtcfanlgpkefogaaGreat
namespace Go.Proofs.YtcfanlgpkefogaaGreat
open Go.RowKit
namespace V
namespace St
theorem is_cState:FnIs Tryz.prog (42,Tryz.f42):=⟨Tryz.func42,by kernel_rfl,by kernel_rfl⟩
abbrev kSt:List SK:=[.d (.sl Bg),.d (.sl .b),.d cI,.d cI,.d cI]
abbrev bsS:List BK:=[(0,41,kGr),(1,45,kSt)]
def plS1:List (Nat×PureT):=[(78,B0c),(55,H5),(79,A8u)]
theorem puS1:De Tryz.prog plS1:=puOk_cons is_cGround.plain Bj8 (puOk_cons is_CheckMotion.plain Qv (puOk_cons is_sOn.plain B62 (puOk_nil)))
def inN {β:Type} (n:Nat) (i:Int) (k:Tree β):Tree β:=bif decide (0≤i∧i<(n:Int)) then k else .fail
theorem E2 {β:Type} {n:Nat} {i:Int} {k:Tree β} (h:0≤i∧i<(n:Int)):inN n i k=k:=by unfold inN;rw [decide_eq_true h];rfl
def M5 (b:TCT A2) (m:TCT Bg):Bool:=Qn b.1 b.2.1 m.1.1 m.1.2.1 m.2.1.1 m.2.1.2.1 m.2.2.1.1 m.2.2.1.2.1
def atM (m:TCT Bg):TCT cPt:=(m.1.1,m.1.2.1,())
def Adl {β:Type} (no:Nat) (i:Int) (o:Bool) (m:TCT Bg) (rt nx:Tree β):Tree β:=inN no i (bif o then bif !(m.2.1.1==0&&(m.2.1.2.1==0&&true)) then rt else nx else nx)
def Yq {β:Type} (nb no:Nat) (i:Int) (l:TCT A9) (b:TCT A2) (o:Bool) (m:TCT Bg) (rt nx:Tree β):Tree β :=
 inN nb i (bif okE (M5 b m)!=0 then rt else inN no i (bif !o then bif !onB l (atM m) then rt else Adl no i o m rt nx else Adl no i o m rt nx))
def lwG (x:SKTs kGr):TCT A9:=(Alj x).1
noncomputable def Bf0:Code:=(Ak (bodyOf Tryz.f42)).getD 0 .skip
def A8v:Lay:={ keys:=[2,3,30,31,32],ks:=[.p 0 0 0 0,.p 1 0 0 0,.d (.sl Bg),.d cI,.d cI],bs:=bsS,n:=106,nx:=1000,marks:=[] }
def Bjb:Lay:={ keys:=[2,3],ks:=[.p 0 0 0 0,.p 1 0 0 0],bs:=bsS,n:=106,nx:=1000,marks:=[] }
def Bf1:Lay:={ keys:=[4],ks:=[.d cI],bs:=[],n:=106,nx:=1000,marks:=[] }
def A5k:XE→Lay:=fun e=>match e with | .ret=>Bf1 | _=>Bjb
def Ahe (x:SKTs kGr) (s:SKTs kSt) (m:List (TCT Bg)) (n i:Int):A8v.T:=(((),(),m,n,i,()),(x,s,()))
def Ahf:A0 A5k:=⟨.ret,((2,()),())⟩
def Arp (x:SKTs kGr) (s:SKTs kSt):A0 A5k:=⟨.exit 0,(((),(),()),(x,s,()))⟩
def otS (s:SKTs kSt):List Bool:=s.2.1
def Ahg (g:A8v.T):Tree (A8v.T⊕A0 A5k):=bif decide (g.1.2.2.2.2.1<g.1.2.2.2.1) then bif decide (0≤g.1.2.2.2.2.1∧g.1.2.2.2.2.1<((g.1.2.2.1:List (TCT Bg)).length:Int)) then
 Yq (blX g.2.1).length (otS g.2.2.1).length g.1.2.2.2.2.1 (lwG g.2.1) (B7 (blX g.2.1) (Int.toNat g.1.2.2.2.2.1) (B9 A2)) (B7 (otS g.2.2.1) (Int.toNat g.1.2.2.2.2.1) (B9 .b)) (B7 g.1.2.2.1 (Int.toNat g.1.2.2.2.2.1) (B9 Bg))
  (.leaf (.inr Ahf)) (.leaf (.inl (Ahe g.2.1 g.2.2.1 g.1.2.2.1 g.1.2.2.2.1 (W64 (g.1.2.2.2.2.1+1))))) else .fail else .leaf (.inr (Arp g.2.1 g.2.2.1))
def Arq (g:A8v.T):Nat:=(g.1.2.2.1:List (TCT Bg)).length+1
theorem Bjc:Bc Tryz.prog 42 Bf0 (Bd A8v A5k (E5 [.ret,.exit 0] Ahg Arq)):=Bv (B6 Aw puS1 A1) 7 _ A8v A5k (fun e=>by cases e <;> exact Nat.le_refl _) [.ret,.exit 0] Ahg Arq (fun g=>by kernel_rfl)
end St
end V
end Go.Proofs.YtcfanlgpkefogaaGreat
namespace Go.Proofs.YtcfanlgpkefogaaGreat
open Go.RowKit
namespace V
namespace St
def A5l:Lay:={ keys:=[2,3,5],ks:=[.p 0 0 0 0,.p 1 0 0 0,.d cI],bs:=bsS,n:=103,nx:=1000,marks:=[] }
def Bjd:Lay:={ keys:=[2,3],ks:=[.p 0 0 0 0,.p 1 0 0 0],bs:=bsS,n:=103,nx:=1000,marks:=[] }
def Bf3:Lay:={ keys:=[4],ks:=[.d cI],bs:=[],n:=103,nx:=1000,marks:=[] }
def A27:XE→Lay:=fun e=>match e with | .ret=>Bf3 | _=>Bjd
def A8w (x:SKTs kGr) (s:SKTs kSt) (i:Int):A5l.T:=(((),(),i,()),(x,s,()))
def A8x:A0 A27:=⟨.ret,((2,()),())⟩
def Ahh (x:SKTs kGr) (s:SKTs kSt):A0 A27:=⟨.exit 0,(((),(),()),(x,s,()))⟩
def msS (s:SKTs kSt):List (TCT Bg):=s.1
def Ahi (g:A5l.T):Tree (A5l.T⊕A0 A27):=bif decide (g.1.2.2.1<((blX g.2.1).length:Int)) then inN (msS g.2.2.1).length g.1.2.2.1 (
 Yq (blX g.2.1).length (otS g.2.2.1).length g.1.2.2.1 (lwG g.2.1) (B7 (blX g.2.1) (Int.toNat g.1.2.2.1) (B9 A2)) (B7 (otS g.2.2.1) (Int.toNat g.1.2.2.1) (B9 .b)) (B7 (msS g.2.2.1) (Int.toNat g.1.2.2.1) (B9 Bg))
  (.leaf (.inr A8x)) (.leaf (.inl (A8w g.2.1 g.2.2.1 (W64 (g.1.2.2.1+1)))))) else .leaf (.inr (Ahh g.2.1 g.2.2.1))
def Ars (g:A5l.T):Nat:=(blX g.2.1).length+1
end St
end V
end Go.Proofs.YtcfanlgpkefogaaGreat
namespace Go.Proofs.YtcfanlgpkefogaaGreat
open Go.RowKit
namespace V
namespace St
def Ou (s:TCT cSt):SKTs kSt:=(s.1,s.2.1,s.2.2.1,s.2.2.2.1,s.2.2.2.2.1,())
def A8y (s:SKTs kSt):TCT cSt:=(s.1,s.2.1,s.2.2.1,s.2.2.2.1,s.2.2.2.2.1,())
def msT (s:TCT cSt):List (TCT Bg):=s.1
def osT (s:TCT cSt):List Bool:=s.2.1
def okO (l:TCT A9) (b:TCT A2) (o:Bool) (m:TCT Bg):Bool:=M5 b m&&(bif o then m.2.1.1==0&&(m.2.1.2.1==0&&true) else onB l (atM m))
def okS (g:TCT cGr) (os:List Bool) (i:Nat) (m:TCT Bg):Bool:=okO g.1 (B7 (A3 g) i (B9 A2)) (B7 os i (B9 .b)) m
theorem A3d {G E:Type} {nb no:Nat} {i:Int} {l:TCT A9} {b:TCT A2} {o:Bool} {m:TCT Bg} {rt:E} {nx:G} (h1:0≤i∧i<(nb:Int)) (h2:0≤i∧i<(no:Int)) :
  (Yq nb no i l b o m (.leaf (.inr rt)) (.leaf (.inl nx)):Tree (G⊕E)).run=some (bif okO l b o m then .inl nx else .inr rt):=by
 unfold Yq Adl okO
 rw [E2 h1,Ye,E2 h2,E2 h2]
 cases M5 b m with
 | false=>rfl
 | true =>
  cases o with
  | false=>cases onB l (atM m) <;> rfl
  | true=>cases m.2.1.1==0&&(m.2.1.2.1==0&&true) <;> rfl
def Bf4 (g:TCT cGr) (s:TCT cSt):Option (A0 A5k):=iter Ahg ((msT s).length+1) (Ahe (Eh g) (Ou s) s.1 (msT s).length 0)
def B9h (g:TCT cGr) (s:TCT cSt):Option (A0 A27):=iter Ahi ((A3 g).length+1) (A8w (Eh g) (Ou s) 0)
theorem B0h {g:TCT cGr} {s:TCT cSt} (h1:(msT s).length=(A3 g).length) (h2:(osT s).length=(A3 g).length) (hm:((msT s).length:Int)≤Bo .i64) :
  Bf4 g s=some (bif I0 (okS g (osT s)) 0 (msT s) then Arp (Eh g) (Ou s) else Ahf):=by
 refine Yo (msT s) (B9 Bg) (fun i=>Ahe (Eh g) (Ou s) s.1 (msT s).length i) (okS g (osT s))
  (fun i m=>Yq (A3 g).length (osT s).length i g.1 (B7 (A3 g) (Int.toNat i) (B9 A2)) (B7 (osT s) (Int.toNat i) (B9 .b)) m (.leaf (.inr Ahf)) (.leaf (.inl (Ahe (Eh g) (Ou s) s.1 (msT s).length (W64 (i+1))))):Int→TCT Bg→Tree (A8v.T⊕A0 A5k)) Ahf (Arp (Eh g) (Ou s)) hm (fun i=>rfl) fun i hi=>?_
 rw [A3d (by omega) (by omega),show Int.toNat (i:Int)=i from rfl,Ec hi hm]
 rfl
theorem B0i {g:TCT cGr} {s:TCT cSt} (h1:(msT s).length=(A3 g).length) (h2:(osT s).length=(A3 g).length) (hm:((msT s).length:Int)≤Bo .i64) :
  B9h g s=some (bif I0 (okS g (osT s)) 0 (msT s) then Ahh (Eh g) (Ou s) else A8x):=by
 unfold B9h
 rw [← h1]
 refine Yo (msT s) (B9 Bg) (fun i=>A8w (Eh g) (Ou s) i) (okS g (osT s))
  (fun i m=>Yq (A3 g).length (osT s).length i g.1 (B7 (A3 g) (Int.toNat i) (B9 A2)) (B7 (osT s) (Int.toNat i) (B9 .b)) m (.leaf (.inr A8x)) (.leaf (.inl (A8w (Eh g) (Ou s) (W64 (i+1))))):Int→TCT Bg→Tree (A5l.T⊕A0 A27)) A8x (Ahh (Eh g) (Ou s)) hm (fun i=>?_) fun i hi=>?_
 ·show (bif decide (i<((A3 g).length:Int)) then inN (msT s).length i (Yq (A3 g).length (osT s).length i g.1 (B7 (A3 g) (Int.toNat i) (B9 A2)) (B7 (osT s) (Int.toNat i) (B9 .b)) (B7 (msT s) (Int.toNat i) (B9 Bg)) (.leaf (.inr A8x)) (.leaf (.inl (A8w (Eh g) (Ou s) (W64 (i+1)))))) else .leaf (.inr (Ahh (Eh g) (Ou s))):Tree (A5l.T⊕A0 A27))=_
  rw [← h1]
  rfl
 ·rw [A3d (by omega) (by omega),show Int.toNat (i:Int)=i from rfl,Ec hi hm]
  rfl
def A28 (n:Int) (s:TCT cSt):Bool:=decide (s.2.2.1<0)||(decide (s.2.2.1≥n)||(decide (s.2.2.2.1<0)||(decide (s.2.2.2.1>8)||(decide (s.2.2.2.2.1<0)||decide (s.2.2.2.2.1>4000)))))
def Yr (g:TCT cGr) (s:TCT cSt):Bool:=(((msT s).length:Int)==((A3 g).length:Int))&&(((osT s).length:Int)==((A3 g).length:Int))
def vaE (g:TCT cGr) (s:TCT cSt):Int:=bif Yr g s then bif I0 (okS g (osT s)) 0 (msT s) then bif A28 (A3 g).length s then 2 else 0 else 2 else 17
def Db (g:TCT cGr) (s:TCT cSt):Int:=bif groE g != 0 then groE g else vaE g s
abbrev Bf5:PureT:=Bz [cGr,cSt] [cI] (fun _=>true) (fun x=>(vaE x.1 x.2.1,()))
abbrev Ahj:PureT:=Bz [cGr,cSt] [cI] (fun x=>decide ((x.1.1.1.size:Int)≤Bo .i64)) (fun x=>(Db x.1 x.2.1,()))
end St
end V
end Go.Proofs.YtcfanlgpkefogaaGreat
namespace Go.Proofs.YtcfanlgpkefogaaGreat
open Go.RowKit
namespace V
namespace St
def Art (n:Int) (s:TCT cSt):TEr:=er (decide (s.2.2.1<0)) 2 (er (decide (s.2.2.1≥n)) 2 (er (decide (s.2.2.2.1<0)) 2 (er (decide (s.2.2.2.1>8)) 2 (er (decide (s.2.2.2.2.1<0)) 2 (er (decide (s.2.2.2.2.1>4000)) 2 (.leaf (0,())))))))
theorem B0j (n:Int) (s:TCT cSt):Art n s=er (A28 n s) 2 (.leaf (0,())):=by
 unfold Art A28
 rw [O4,O4,O4,O4,O4]
def Aru (g:TCT cGr) (s:TCT cSt) (k:TEr):TEr:=er (((msT s).length:Int)!=((A3 g).length:Int)) 17 (er (((osT s).length:Int)!=((A3 g).length:Int)) 17 k)
theorem B0k (g:TCT cGr) (s:TCT cSt) (k:TEr):Aru g s k=er (!Yr g s) 17 k:=by
 unfold Aru Yr
 rw [← O4]
 congr 1
 cases h1:((msT s).length:Int)==((A3 g).length:Int) <;> cases h2:((osT s).length:Int)==((A3 g).length:Int) <;> simp [bne,h1,h2]
theorem Ys {g:TCT cGr} {s:TCT cSt} (h:Yr g s=true):(msT s).length=(A3 g).length∧(osT s).length=(A3 g).length:=by
 unfold Yr at h
 simp only [Bool.and_eq_true,beq_iff_eq] at h
 omega
def Bjf (g:TCT cGr) (y:Option (A0 A5k)):TEr:=bif isE .ret y then .leaf ((D4 .ret y).1.1,()) else bif isE (.exit 0) y then Art (blX (D4 (.exit 0) y).2.1).length (A8y (D4 (.exit 0) y).2.2.1) else .fail
def Bjg (g:TCT cGr) (y:Option (A0 A27)):TEr:=bif isE .ret y then .leaf ((D4 .ret y).1.1,()) else bif isE (.exit 0) y then Art (blX (D4 (.exit 0) y).2.1).length (A8y (D4 (.exit 0) y).2.2.1) else .fail
def B9i (g:TCT cGr) (s:TCT cSt):TEr:=szT g.1 (bif groE g != 0 then .leaf (groE g,()) else Aru g s (Bjf g (Bf4 g s)))
def B9j (g:TCT cGr) (s:TCT cSt):TEr:=Aru g s (Bjg g (B9h g s))
theorem Arv {g:TCT cGr} {s:TCT cSt} {k:TEr} (h:Yr g s=true→k=bif I0 (okS g (osT s)) 0 (msT s) then Art (A3 g).length s else .leaf (2,())):(Aru g s k).sat (fun y=>y=(vaE g s,())):=by
 rw [B0k]
 unfold vaE
 cases he:Yr g s with
 | false=>exact rfl
 | true =>
  rw [h he]
  cases I0 (okS g (osT s)) 0 (msT s) with
  | false=>exact rfl
  | true =>
   simp only [Bool.not_true,cond_true]
   rw [B0j]
   cases A28 (A3 g).length s <;> exact rfl
theorem B0l {g:TCT cGr} {s:TCT cSt} (hs:(g.1.1.size:Int)≤Bo .i64) (hm:((msT s).length:Int)≤Bo .i64):(B9i g s).sat (fun y=>y=(Db g s,())):=by
 unfold B9i Db
 rw [Dh hs]
 cases groE g != 0 with
 | true=>exact rfl
 | false =>
  simp only [cond_false]
  refine Arv fun he=>?_
  obtain ⟨h1,h2⟩:=Ys he
  rw [B0h h1 h2 hm]
  cases I0 (okS g (osT s)) 0 (msT s) <;> rfl
theorem B0m {g:TCT cGr} {s:TCT cSt} (hm:((msT s).length:Int)≤Bo .i64):(B9j g s).sat (fun y=>y=(vaE g s,())):=by
 unfold B9j
 refine Arv fun he=>?_
 obtain ⟨h1,h2⟩:=Ys he
 rw [B0i h1 h2 hm]
 cases I0 (okS g (osT s)) 0 (msT s) <;> rfl
noncomputable def Bjh:Ctx:=Ie Tryz.prog plS1 [(42,Tryz.f42)] [((42,7),Bd A8v A5k (E5 [.ret,.exit 0] Ahg Arq))]
theorem B0n:CtxOk Bjh:=D6 Aw puS1 (fns_cons is_cState A1) (Cl (by kernel_rfl) (by kernel_rfl) Bjc)
theorem B0o:A5 Tryz.prog 42 Ahj:=C5 B0n 7 (fun x=>B9i x.1 x.2.1) (fun x=>by kernel_rfl) fun x hok hw=>B0l (of_decide_eq_true hok) (G3 hw.2.1.1)
def plS2:List (Nat×PureT):=plS1
theorem puS2:De Tryz.prog plS2:=puS1
end St
end V
end Go.Proofs.YtcfanlgpkefogaaGreat
namespace Go.Proofs.YtcfanlgpkefogaaGreat
open Go.RowKit
namespace V
def B8 {S B:Type} (f:Nat→S→S⊕B):Nat→Nat→S→S⊕B
 | _,0,s=>.inl s
 | i,k+1,s=>match f i s with
  | .inl s'=>B8 f (i+1) k s'
  | .inr b=>.inr b
def Ary {G E S B:Type} (hd:Nat→S→G) (res:S⊕B→E) (i:Nat):S⊕B→G⊕E
 | .inl s=>.inl (hd (i+1) s)
 | .inr b=>.inr (res (.inr b))
theorem Hk {G E S B:Type} {st:G→Tree (G⊕E)} (n:Nat) (hd:Nat→S→G) (f:Nat→S→S⊕B) (res:S⊕B→E) (Inv:Nat→S→Prop)
  (h1:∀ i s,i<n→Inv i s→(st (hd i s)).run=some (Ary hd res i (f i s)))
  (h2:∀ i s s',i<n→Inv i s→f i s=.inl s'→Inv (i+1) s')
  (h3:∀ s,Inv n s→(st (hd n s)).run=some (.inr (res (.inl s)))) :
  ∀ (k i:Nat) (s:S),i+k=n→Inv i s→iter st (k+1) (hd i s)=some (res (B8 f i k s))
 | 0,i,s,hk,hi=>by
  have e:i=n:=by omega
  subst e
  exact Jl (h3 s hi)
 | k+1,i,s,hk,hi=>by
  have hlt:i<n:=by omega
  have hr:=h1 i s hlt hi
  unfold B8
  cases hf:f i s with
  | inl s' =>
   rw [hf] at hr
   rw [Y4 hr]
   exact Hk n hd f res Inv h1 h2 h3 k (i+1) s' (by omega) (h2 i s s' hlt hi hf)
  | inr b =>
   rw [hf] at hr
   exact Jl hr
theorem Bn {S B:Type} {f:Nat→S→S⊕B} {Inv:Nat→S→Prop} {n:Nat} (h2:∀ i s s',i<n→Inv i s→f i s=.inl s'→Inv (i+1) s'):∀ (k i:Nat) (s s':S),i+k=n→Inv i s→B8 f i k s=.inl s'→Inv n s'
 | 0,i,s,s',hk,hi,h=>by
  have e:i=n:=by omega
  subst e
  cases h
  exact hi
 | k+1,i,s,s',hk,hi,h=>by
  unfold B8 at h
  cases hf:f i s with
  | inl t=>rw [hf] at h;exact Bn h2 k (i+1) t s' (by omega) (h2 i s t (by omega) hi hf) h
  | inr b=>rw [hf] at h;cases h
theorem Ng {β:Type} {h w:List β} {b:Nat} (k:h.length+w.length≤1000000) (hb:b≤48):Eu h w b=true:=by
 rw [Gf,decide_eq_true_iff]
 have h1:((h.length+w.length:Nat):Int)≤1000000:=by omega
 have h2:(b:Int)≤48:=by omega
 calc ((h.length+w.length:Nat):Int)*b≤1000000*48:=Int.mul_le_mul h1 h2 (by omega) (by decide)
  _≤140737488355328:=by decide
namespace St
theorem is_sLie:FnIs Tryz.prog (28,Tryz.f28):=⟨Tryz.func28,by kernel_rfl,by kernel_rfl⟩
theorem is_sStill:FnIs Tryz.prog (30,Tryz.f30):=⟨Tryz.func30,by kernel_rfl,by kernel_rfl⟩
theorem is_sstill:FnIs Tryz.prog (44,Tryz.f44):=⟨Tryz.func44,by kernel_rfl,by kernel_rfl⟩
theorem is_sTotal:FnIs Tryz.prog (13,Tryz.f13):=⟨Tryz.func13,by kernel_rfl,by kernel_rfl⟩
abbrev kSo:List SK:=[.o 60 Bg,.o 4 .b,.d cI,.d cI,.d cI]
noncomputable def Bf6:Code:=(Ak (bodyOf Tryz.f28)).getD 0 .skip
abbrev Bf7:List BK:=[(0,41,kGr),(1,45,kSt),(3,45,kSo)]
def Adm:Lay:={ keys:=[2,4,7,27,28,29],ks:=[.p 0 0 0 0,.p 1 0 0 0,.p 3 0 0 0,.d (.sl cPt),.d cI,.d cI],bs:=Bf7,n:=48,nx:=1000,marks:=[] }
def Bjj:Lay:={ keys:=[4,7],ks:=[.p 1 0 0 0,.p 3 0 0 0],bs:=[(1,45,kSt),(3,45,kSo)],n:=48,nx:=1000,marks:=[] }
def Bf8:Lay:={ keys:=[4,5],ks:=[.p 1 0 0 0,.d cI],bs:=[(1,45,kSt)],n:=48,nx:=1000,marks:=[] }
def A5m:XE→Lay:=fun e=>match e with | .ret=>Bf8 | _=>Bjj
def A8z (p:TCT cPt):TCT Bg:=((p.1,p.2.1,()),(0,0,()),(0,0,()),())
def Adn (p:TCT cPt):TCT cPt:=(p.1,p.2.1,())
def B63 {β:Type} (p:TCT cPt) (ms:List (TCT Bg)) (nx:List (TCT Bg)→Tree β):Tree β:=bif Eu ms [A8z p] 48 then nx (ms++[A8z p]) else .fail
def Ahk (x:SKTs kGr) (r q:SKTs kSt) (p:List (TCT cPt)) (n i:Int) (ms:List (TCT Bg)):Adm.T:=(((),(),(),p,n,i,()),(x,r,(ms,q.2),()))
def B64:A0 A5m:=⟨.ret,(((),2,()),(([],[],0,0,0,()),()))⟩
def B65 (r q:SKTs kSt) (ms:List (TCT Bg)):A0 A5m:=⟨.exit 0,(((),(),()),(r,(ms,q.2),()))⟩
abbrev TLi:=Tree (Adm.T⊕A0 A5m)
def Yt (x:SKTs kGr) (r q:SKTs kSt) (p:List (TCT cPt)) (n i:Int) (ms:List (TCT Bg)):TLi:=bif decide (i<n) then inN p.length i (
 bif !onB (lwG x) (Adn (B7 p (Int.toNat i) (B9 cPt))) then .leaf (.inr B64) else B63 (B7 p (Int.toNat i) (B9 cPt)) ms fun ms'=>.leaf (.inl (Ahk x r q p n (W64 (i+1)) ms'))) else .leaf (.inr (B65 r q ms))
def A90 (g:Adm.T):TLi:=Yt g.2.1 g.2.2.1 g.2.2.2.1 g.1.2.2.2.1 g.1.2.2.2.2.1 g.1.2.2.2.2.2.1 g.2.2.2.1.1
def Arz (g:Adm.T):Nat:=(g.1.2.2.2.1:List (TCT cPt)).length+1
theorem Bjk:Bc Tryz.prog 28 Bf6 (Bd Adm A5m (E5 [.ret,.exit 0] A90 Arz)):=Bv (B6 Aw puS1 A1) 7 _ Adm A5m (fun e=>by cases e <;> exact Nat.le_refl _) [.ret,.exit 0] A90 Arz (fun g=>by kernel_rfl)
def As0 (l:TCT A9) (p:List (TCT cPt)) (i:Nat):Bool:=onB l (Adn (B7 p i (B9 cPt)))
def f_li (l:TCT A9) (p:List (TCT cPt)) (i:Nat) (ms:List (TCT Bg)):List (TCT Bg)⊕Unit:=bif As0 l p i then .inl (ms++[A8z (B7 p i (B9 cPt))]) else .inr ()
def Ado (r q:SKTs kSt):List (TCT Bg)⊕Unit→A0 A5m
 | .inl ms=>B65 r q ms
 | .inr _=>B64
theorem B9k {l:TCT A9} {p:List (TCT cPt)} (i:Nat) (s s':List (TCT Bg)) (_:i<p.length) (hi:s.length=i) (h:f_li l p i s=.inl s'):s'.length=i+1:=by
 unfold f_li at h
 cases ho:As0 l p i with
 | true=>rw [ho] at h;cases h;simp [hi]
 | false=>rw [ho] at h;cases h
theorem Bf9 {x:SKTs kGr} {r q:SKTs kSt} {p:List (TCT cPt)} (hp:p.length≤100):iter A90 (p.length+1) (Ahk x r q p p.length 0 [])=some (Ado r q (B8 (f_li (lwG x) p) 0 p.length [])):=by
 have hp':(p.length:Int)≤Bo .i64:=by show (p.length:Int)≤9223372036854775807;omega
 refine Hk p.length (fun i ms=>Ahk x r q p p.length i ms) (f_li (lwG x) p) (Ado r q) (fun i ms=>ms.length=i) (fun i ms hi hl=>?_) B9k (fun ms hl=>?_) p.length 0 [] (by omega) rfl
 ·show (Yt x r q p p.length (i:Int) ms).run=_
  unfold Yt f_li As0 B63
  rw [decide_eq_true (show (i:Int)<(p.length:Int) by omega),E2 (by omega),show Int.toNat (i:Int)=i from rfl,Ng (by simp;omega) (by decide),Ec hi hp']
  cases onB (lwG x) (Adn (B7 p i (B9 cPt))) <;> rfl
 ·show (Yt x r q p p.length (p.length:Int) ms).run=_
  unfold Yt
  rw [decide_eq_false (show ¬ (p.length:Int)<(p.length:Int) by omega)]
  rfl
end St
end V
end Go.Proofs.YtcfanlgpkefogaaGreat
namespace Go.Proofs.YtcfanlgpkefogaaGreat
open Go.RowKit
namespace V
namespace St
abbrev plS3:List (Nat×PureT):=(42,Ahj)::(93,Agt)::plS2
theorem puS3:De Tryz.prog plS3:=puOk_cons is_cState.plain B0o (puOk_cons is_cfMot.plain Az9 puS2)
def r0:SKTs kSt:=([],[],0,0,0,())
def q0 (p:List (TCT cPt)):SKTs kSt:=([],List.replicate (Int.toNat (p.length:Int)) false,0,0,0,())
def zS:TCT cSt:=([],[],0,0,0,())
abbrev TLs:=Tree (TCTs [cSt,cI])
def erS (c:Bool) (e:Int) (k:TLs):TLs:=bif c then .leaf (zS,e,()) else k
def Bfa (g:TCT cGr) (p:List (TCT cPt)):Option (A0 A5m):=iter A90 (p.length+1) (Ahk (Eh g) r0 (q0 p) p p.length 0 [])
def mkT {β:Type} (n:Int) (k:Tree β):Tree β:=bif decide (0≤n∧n≤n∧n≤65536∧((1:Nat):Int)*n≤281474976710656) then k else .fail
theorem B9l {β:Type} {n:Int} {k:Tree β} (h0:0≤n) (h:n≤65536):mkT n k=k:=by
 unfold mkT
 rw [decide_eq_true (by omega)];rfl
def stO (s:SKTs kSo):TCT cSt:=(s.1,s.2.1,s.2.2.1,s.2.2.2.1,s.2.2.2.2.1,())
def Bjl (y:Option (A0 A5m)):TLs:=bif isE .ret y then .leaf (A8y (D4 .ret y).2.1,(D4 .ret y).1.2.1,()) else bif isE (.exit 0) y then .leaf (stO (D4 (.exit 0) y).2.2.1,0,()) else .fail
def A91 (a b:Nat):Bool:=(a:Int)!=(b:Int)
def B9m (g:TCT cGr) (p:List (TCT cPt)):TLs:=szT g.1 (erS (groE g != 0) (groE g) (erS (A91 p.length (A3 g).length) 17 (mkT p.length (Bjl (Bfa g p)))))
def B9n (p:List (TCT cPt)):List (TCT Bg)⊕Unit→TCTs [cSt,cI]
 | .inl ms=>((ms,List.replicate p.length false,0,0,0,()),0,())
 | .inr _=>(zS,2,())
def Gj (g:TCT cGr) (p:List (TCT cPt)):TCTs [cSt,cI]:=bif groE g != 0 then (zS,groE g,()) else bif A91 p.length (A3 g).length then (zS,17,()) else B9n p (B8 (f_li g.1 p) 0 p.length [])
def etaS (s:TCT cSt):TCT cSt:=(s.1,s.2.1,s.2.2.1,s.2.2.2.1,s.2.2.2.2.1,())
abbrev B66:PureT:=Bz [cGr,.sl cPt] [cSt,cI] (fun x=>decide ((x.1.1.1.size:Int)≤Bo .i64)) (fun x=>(etaS (Gj x.1 x.2.1).1,(Gj x.1 x.2.1).2.1,()))
theorem Ahl {g:TCT cGr} (h:groE g=0):1≤(A3 g).length∧(A3 g).length≤8:=by
 unfold groE at h
 cases h1:Co g.1 != 0 with
 | true=>rw [h1,cond_true] at h;rw [h] at h1;cases h1
 | false =>
  rw [h1,cond_false] at h
  cases h2:decide (((A3 g).length:Int)<1)||decide (((A3 g).length:Int)>8) with
  | true=>rw [h2] at h;cases h
  | false =>
   rw [Bool.or_eq_false_iff,decide_eq_false_iff_not,decide_eq_false_iff_not] at h2
   omega
theorem B9o {a b:Nat} (h:A91 a b=false):a=b:=by
 unfold A91 at h
 have:=bne_eq_false_iff_eq.1 h
 omega
theorem B0q {g:TCT cGr} {p:List (TCT cPt)} {k:TLs} (h:groE g=0→p.length=(A3 g).length→p.length≤8→k=.leaf (B9n p (B8 (f_li g.1 p) 0 p.length []))) :
  (bif groE g != 0 then .leaf (zS,groE g,()) else erS (A91 p.length (A3 g).length) 17 k:TLs).sat (fun y=>y=(etaS (Gj g p).1,(Gj g p).2.1,())):=by
 show Tree.sat (fun y=>y=Gj g p) _
 unfold Gj
 cases h1:groE g != 0 with
 | true=>exact rfl
 | false =>
  simp only [cond_false]
  unfold erS
  cases h2:A91 p.length (A3 g).length with
  | true=>exact rfl
  | false =>
   have e:=B9o h2
   have h0:groE g=0:=bne_eq_false_iff_eq.1 h1
   have:=Ahl h0
   rw [h h0 e (by omega)]
   exact rfl
theorem B0r {g:TCT cGr} {p:List (TCT cPt)} (hs:(g.1.1.size:Int)≤Bo .i64):(B9m g p).sat (fun y=>y=(etaS (Gj g p).1,(Gj g p).2.1,())):=by
 unfold B9m
 rw [Dh hs]
 refine B0q fun _ e hp=>?_
 have hy:Bfa g p=some (Ado r0 (q0 p) (B8 (f_li g.1 p) 0 p.length [])):=Bf9 (by omega)
 rw [B9l (by omega) (by omega),hy]
 cases B8 (f_li g.1 p) 0 p.length [] <;> rfl
noncomputable def Bjm:Ctx:=Ie Tryz.prog plS3 [(28,Tryz.f28)] [((28,8),Bd Adm A5m (E5 [.ret,.exit 0] A90 Arz))]
theorem B0s:CtxOk Bjm:=D6 Aw puS3 (fns_cons is_sLie A1) (Cl (by kernel_rfl) (by kernel_rfl) Bjk)
theorem B67:A5 Tryz.prog 28 B66:=C5 B0s 7 (fun x=>B9m x.1 x.2.1) (fun x=>by kernel_rfl) fun x hok _=>B0r (of_decide_eq_true hok)
def C2 (s:TCT cSt):Bool:=(msT s).all Ga
abbrev A5n:PureT:=Bz [cSt] [.b] (fun _=>true) (fun x=>(C2 x.1,()))
theorem Alk (s:TCT cSt):(!(msT s).any (Ge ()))=C2 s:=by
 have:(msT s).any (Ge ())=!(msT s).all Ga:=Ll Ga _
 rw [this,Bool.not_not]
 rfl
theorem As1:A5 Tryz.prog 44 A5n:=C5 (B6 Aw puS3 (fns_cons is_sstill (fns_cons is_still1 A1))) 7 (fun x=>.leaf (!(msT x.1).any (Ge ()),())) (fun x=>by kernel_rfl) fun x _ _=>by
 show _=_
 rw [Alk]
def Adp:Lay:={ keys:=[1,3],ks:=[.p 0 0 0 0,.d cI],bs:=[(0,45,kSt)],n:=19,nx:=1000,marks:=[] }
def Bjn:Lay:={ keys:=[],ks:=[],bs:=[],n:=19,nx:=1000,marks:=[] }
def Bfc:Lay:={ keys:=[2],ks:=[.d .b],bs:=[],n:=19,nx:=1000,marks:=[] }
def Adq:XE→Lay:=fun e=>match e with | .ret=>Bfc | _=>Bjn
def As2 (s:SKTs kSt) (i:Int):Adp.T:=(((),i,()),(s,()))
def As3:A0 Adq:=⟨.ret,((false,()),())⟩
def As4:A0 Adq:=⟨.exit 0,((),())⟩
def Ql (m:TCT Bg):Bool:=!(m.2.1.1==0&&(m.2.1.2.1==0&&true))
theorem Ahm (m:TCT Bg):Ql m=!Ga m:=by unfold Ql Ga;rw [Bool.and_true]
def Ahn (g:Adp.T):Tree (Adp.T⊕A0 Adq):=bif decide (g.1.2.1<((msS g.2.1).length:Int)) then bif decide (0≤g.1.2.1∧g.1.2.1<((msS g.2.1).length:Int)) then
 bif Ql (B7 (msS g.2.1) (Int.toNat g.1.2.1) (B9 Bg)) then .leaf (.inr As3) else .leaf (.inl (As2 g.2.1 (W64 (g.1.2.1+1)))) else .fail else .leaf (.inr As4)
def As5 (g:Adp.T):Nat:=(msS g.2.1).length+1
def B0u (s:TCT cSt):Option (A0 Adq):=iter Ahn ((msT s).length+1) (As2 (Ou s) 0)
def B9p (s:TCT cSt):TBo:=bif isE .ret (B0u s) then .leaf ((D4 .ret (B0u s)).1.1,()) else bif isE (.exit 0) (B0u s) then .leaf (true,()) else .fail
def plS4:List (Nat×PureT):=(44,A5n)::plS3
theorem puS4:De Tryz.prog plS4:=puOk_cons is_sstill.plain As1 (puS3)
abbrev B0v:PureT:=Bz [cGr,cSt] [.b,cI] (fun x=>decide ((x.1.1.1.size:Int)≤Bo .i64)) (fun x=>(bif Db x.1 x.2.1 != 0 then false else C2 x.2.1,Db x.1 x.2.1,()))
theorem All {g:TCT cGr} {s:TCT cSt}:(bif Db g s != 0 then .leaf (false,Db g s,()) else .leaf (C2 s,0,()):Tree (TCTs [.b,cI])).sat (fun y=>y=(bif Db g s != 0 then false else C2 s,Db g s,())):=by
 cases h:Db g s != 0 with
 | true=>exact rfl
 | false =>
  have:=bne_eq_false_iff_eq.1 h
  simp only [cond_false]
  rw [this]
  exact rfl
theorem B0w:A5 Tryz.prog 30 B0v:=C5 (B6 Aw puS4 (fns_cons is_sStill A1)) 7 (fun x=>szT x.1.1 (bif Db x.1 x.2.1 != 0 then .leaf (false,Db x.1 x.2.1,()) else .leaf (C2 x.2.1,0,()))) (fun x=>by kernel_rfl) fun x hok _=>by
 rw [Dh (of_decide_eq_true hok)]
 exact All
end St
end V
end Go.Proofs.YtcfanlgpkefogaaGreat
