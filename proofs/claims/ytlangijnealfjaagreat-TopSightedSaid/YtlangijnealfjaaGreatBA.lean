import Derived.Test.YtlangijnealfjaaGreatSd
import Derived.Test.YtlangijnealfjaaGreatTV
import Derived.Test.YtlangijnealfjaaGreatUj
import Derived.Test.YtlangijnealfjaaGreatBa
import Derived.Test.YtlangijnealfjaaGreatZe
namespace Go.Proofs.YtlangijnealfjaaGreat
open Go.RowKit
namespace V
abbrev Vh:PureT:=B9 [cPt,cPt,cI] [cPt,cI] (fun _=>true) (fun x=>(((TwR x.1.1 x.1.2.1 x.2.1.1 x.2.1.2.1 x.2.2.1).1.1,(TwR x.1.1 x.1.2.1 x.2.1.1 x.2.1.2.1 x.2.2.1).1.2,()),(TwR x.1.1 x.1.2.1 x.2.1.1 x.2.1.2.1 x.2.2.1).2,()))
theorem A96:A5 Tryz.prog 59 Vh:=A4p
end V
end Go.Proofs.YtlangijnealfjaaGreat
namespace Go.Proofs.YtlangijnealfjaaGreat
open Go.RowKit
namespace V
namespace St
abbrev B6:TC:=.st [cI,cI,cI,cI,.b]
abbrev D1:TC:=.st [cI,cI,cI]
abbrev Ao:TC:=.st [.s,cI,cI,cI,.sl B6,A1,cI,cI,.sl D1]
abbrev cGr:TC:=.st [Ao,.sl Be,Q7]
abbrev cSt:TC:=.st [.sl Bn,.sl .b,cI,cI,cI]
abbrev cKn:TC:=.st [cI,cI,cI,cI,cI]
theorem is_between2:FnIs Tryz.prog (120,Tryz.f120):=⟨Tryz.func120,by kernel_rfl,by kernel_rfl⟩
theorem is_validHoop:FnIs Tryz.prog (177,Tryz.f177):=⟨Tryz.func177,by kernel_rfl,by kernel_rfl⟩
theorem is_validCell:FnIs Tryz.prog (180,Tryz.f180):=⟨Tryz.func180,by kernel_rfl,by kernel_rfl⟩
theorem is_Check1:FnIs Tryz.prog (176,Tryz.f176):=⟨Tryz.func176,by kernel_rfl,by kernel_rfl⟩
theorem is_Check2:FnIs Tryz.prog (179,Tryz.f179):=⟨Tryz.func179,by kernel_rfl,by kernel_rfl⟩
theorem is_CG1:FnIs Tryz.prog (122,Tryz.f122):=⟨Tryz.func122,by kernel_rfl,by kernel_rfl⟩
theorem is_still1:FnIs Tryz.prog (133,Tryz.f133):=⟨Tryz.func133,by kernel_rfl,by kernel_rfl⟩
theorem is_tChk:FnIs Tryz.prog (70,Tryz.f70):=⟨Tryz.func70,by kernel_rfl,by kernel_rfl⟩
def inR (x lo hi:Int):Bool:=decide (lo≤x)&&decide (x≤hi)
abbrev s_inR:PureT:=B9 [cI,cI,cI] [.b] (fun _=>true) (fun x=>(inR x.1 x.2.1 x.2.2.1,()))
abbrev TBo:=Tree (TCTs [.b])
def Mk (a:Bool) (t:TBo):TBo:=bif a then t else .leaf (false,())
theorem E7 {a b:Bool} {t:TBo} (h:t.sat (fun y=>y=(b,()))):(Mk a t).sat (fun y=>y=(a&&b,())):=by
 unfold Mk
 cases a with
 | true=>rw [Bool.true_and];exact h
 | false=>exact rfl
theorem Vi (b:Bool):(Tree.leaf (b,()):TBo).sat (fun y=>y=(b,())):=rfl
theorem q_between2:A5 Tryz.prog 120 s_inR:=Bb (Aj Ak puOk_nil (A0 is_between2 A2)) 3 (fun x=>Mk (decide (x.2.1≤x.1)) (.leaf (decide (x.1≤x.2.2.1),()))) (fun x=>by kernel_rfl) fun _ _ _=>E7 (Vi _)
def plBt:List (Nat×PureT):=[(120,s_inR)]
theorem puBt:Ca Tryz.prog plBt:=puOk_cons is_between2.plain q_between2 (puOk_nil)
def Ee (h:TCT B6):Bool:=inR h.1 0 4194304&&(inR h.2.1 0 4194304&&(inR h.2.2.1 2 32768&&((Int.tmod h.2.2.1 2==0)&&inR h.2.2.2.1 1 8192)))
def Et (c:TCT D1):Bool:=inR c.1 0 65536&&(inR c.2.1 (-4096) 4096&&inR c.2.2.1 (-4096) 4096)
abbrev Xe:PureT:=B9 [B6] [.b] (fun _=>true) (fun x=>(Ee x.1,()))
abbrev Xf:PureT:=B9 [D1] [.b] (fun _=>true) (fun x=>(Et x.1,()))
def Xg (h:TCT B6):TBo:=Mk (inR h.1 0 4194304) (Mk (inR h.2.1 0 4194304) (Mk (inR h.2.2.1 2 32768) (Mk (Int.tmod h.2.2.1 2==0) (.leaf (inR h.2.2.2.1 1 8192,())))))
def Xh (c:TCT D1):TBo:=Mk (inR c.1 0 65536) (Mk (inR c.2.1 (-4096) 4096) (.leaf (inR c.2.2.1 (-4096) 4096,())))
theorem R2 (h:TCT B6):(Xg h).sat (fun y=>y=(Ee h,())):=E7 (E7 (E7 (E7 (Vi _))))
theorem R7 (c:TCT D1):(Xh c).sat (fun y=>y=(Et c,())):=E7 (E7 (Vi _))
theorem Zr:A5 Tryz.prog 177 Xe:=Bb (Aj Ak puBt (A0 is_validHoop A2)) 3 (fun x=>Xg x.1) (fun x=>by kernel_rfl) fun x _ _=>R2 x.1
theorem Zs:A5 Tryz.prog 180 Xf:=Bb (Aj Ak puBt (A0 is_validCell A2)) 3 (fun x=>Xh x.1) (fun x=>by kernel_rfl) fun x _ _=>R7 x.1
def Acd (m:TCT Bn):Bool:=m.2.1.1==0&&m.2.1.2.1==0
def Hp (b:TCT Be):Bool:=Jd b.1 b.2.1
abbrev Aq8:PureT:=B9 [B6] [.b] (fun _=>true) (fun x=>(!Ee x.1,()))
abbrev Aq9:PureT:=B9 [D1] [.b] (fun _=>true) (fun x=>(!Et x.1,()))
abbrev Am2:PureT:=B9 [Be] [.b] (fun _=>true) (fun x=>(!Hp x.1,()))
abbrev Am3:PureT:=B9 [Bn] [.b] (fun _=>true) (fun x=>(!Acd x.1,()))
abbrev Am4:PureT:=B9 [cPt] [.b] (fun _=>true) (fun x=>(!fpt x.1.1 x.1.2.1,()))
theorem Asy:A5 Tryz.prog 176 Aq8:=Bb (Aj Ak (puOk_cons is_validHoop.plain Zr puOk_nil) (A0 is_Check1 A2)) 3 (fun x=>.leaf (!Ee x.1,())) (fun x=>by kernel_rfl) fun _ _ _=>rfl
theorem Asz:A5 Tryz.prog 179 Aq9:=Bb (Aj Ak (puOk_cons is_validCell.plain Zs puOk_nil) (A0 is_Check2 A2)) 3 (fun x=>.leaf (!Et x.1,())) (fun x=>by kernel_rfl) fun _ _ _=>rfl
theorem R9 (b:Bool):(okE b != 0)=!b:=by unfold okE;cases b <;> rfl
theorem Aqa:A5 Tryz.prog 122 Am2:=Bb (Aj Ak (puOk_cons is_CheckBall.plain A13 puOk_nil) (A0 is_CG1 A2)) 3 (fun x=>.leaf (okE (Jd x.1.1 x.1.2.1)!=0,())) (fun x=>by kernel_rfl) fun x _ _=>by
 show (okE (Jd x.1.1 x.1.2.1)!=0,())=(!Hp x.1,())
 rw [R9];rfl
theorem Aqb:A5 Tryz.prog 133 Am3:=Bb (Aj Ak puOk_nil (A0 is_still1 A2)) 3 (fun x=>.leaf (!(x.1.2.1.1==0&&(x.1.2.1.2.1==0&&true)),())) (fun x=>by kernel_rfl) fun x _ _=>by
 show (!(x.1.2.1.1==0&&(x.1.2.1.2.1==0&&true)),())=(!Acd x.1,())
 rw [Bool.and_true];rfl
def plCl:List (Nat×PureT):=[(176,Aq8),(179,Aq9),(122,Am2),(133,Am3)]
theorem puCl:Ca Tryz.prog plCl:=puOk_cons is_Check1.plain Asy (puOk_cons is_Check2.plain Asz (puOk_cons is_CG1.plain Aqa (puOk_cons is_still1.plain Aqb (puOk_nil))))
theorem is_ixHoop:FnIs Tryz.prog (227,Tryz.f227):=⟨Tryz.func227,by kernel_rfl,by kernel_rfl⟩
theorem is_cfHoop:FnIs Tryz.prog (175,Tryz.f175):=⟨Tryz.func175,by kernel_rfl,by kernel_rfl⟩
abbrev F7:List SK:=[]
def Co (k:SKTs F7) (x:TCT (B6)):Bool:=!Ee x
noncomputable def Vj:Code:=(Ai (bodyOf Tryz.f227)).getD 0 .skip
def Gl:Lay:={ keys:=[0,1,7,8],ks:=[.d (.sl (B6)),.f 176 [] F7,.d cI,.d cI],bs:=[],n:=19,nx:=1000,marks:=[] }
def A97:Lay:={ keys:=[4],ks:=[.d cI],bs:=[],n:=19,nx:=1000,marks:=[] }
def A98:Lay:={ keys:=[],ks:=[],bs:=[],n:=19,nx:=1000,marks:=[] }
def Fi:XE→Lay
 | .ret=>A97
 | _=>A98
def Vk (k:SKTs F7) (l:List (TCT (B6))) (n i:Int):Gl.T:=((l,((),k),n,i,()),())
def Ml (i:Int):A4 Fi:=⟨.ret,((i,()),())⟩
def Mm:A4 Fi:=⟨.exit 0,((),())⟩
def H8 (k:SKTs F7) (l:List (TCT (B6))) (n:Int) (x:TCT (B6)) (i:Int):Tree (Gl.T⊕A4 Fi):=bif Co k x then .leaf (.inr (Ml i)) else .leaf (.inl (Vk k l n (W64 (i+1))))
def A99 (k:SKTs F7) (l:List (TCT (B6))) (n i:Int):Tree (Gl.T⊕A4 Fi) :=
 bif decide (i<n) then bif decide (0≤i∧i<(l.length:Int)) then H8 k l n (Ar l i.toNat (Ap (B6))) i else .fail else .leaf (.inr Mm)
def Lq (g:Gl.T):Tree (A4 Fi) :=
 .br (G1 g.1.2.2.1 g.1.2.2.2.1 g.1.1) (.br (g.1.1.any (Co g.1.2.1.2)) (.leaf (Ml (g.1.1.findIdx (Co g.1.2.1.2)))) (.leaf Mm)) .fail
theorem Ace:As Tryz.prog 227 Vj (Aq Gl Fi Lq):=by
 refine El (X:=ctx Tryz.prog plCl []) (Aj Ak puCl A2) 7 227 (fun _=>none) (fun _ _ f h=>by simp at h) Gl Fi (fun e=>by cases e <;> exact Nat.le_refl _) Lq (fun g=>A99 g.1.2.1.2 g.1.1 g.1.2.2.1 g.1.2.2.2.1) (fun g=>by kernel_rfl) ?_
 rintro ⟨⟨l,⟨⟨⟩,k⟩,n,i,⟨⟩⟩,⟨⟩⟩ R hw hf
 obtain ⟨hf,h0⟩:=hf
 by_cases hc:n=(l.length:Int)∧i=0
 ·obtain ⟨rfl,rfl⟩:=hc
  have hf:=hf (decide_eq_true ⟨rfl,rfl⟩)
  refine Abb l (Ap (B6)) (E9 hw.1.1) (fun n i _=>Vk k l n i) (fun x i (_:Unit)=>bif Co k x then .inr (Ml i) else .inl ()) (fun _=>Mm) (fun _=>True) (fun x i _=>H8 k l l.length x i) (fun i _=>rfl) ?_ () trivial ?_
  ·intro i _ hi Q _ _ hw1 hQ
   show (H8 k l l.length l[i] i).sat Q
   unfold H8
   rw [hw1]
   cases hp:Co k l[i] with
   | true=>rw [hp] at hQ;exact hQ
   | false=>rw [hp] at hQ;exact hQ trivial
  ·rw [Jb (Co k) (fun i=>Ml i) Mm l 0,Nat.zero_add]
   cases ha:l.any (Co k) with
   | true=>exact hf.1 ha
   | false=>exact hf.2 ha
 ·exact (h0 (decide_eq_false hc)).elim
abbrev Acf:PureT:=G8 [.d (.sl (B6)),.f 176 [] F7] [cI] (fun _=>true) (fun x=>(bif x.1.any (Co x.2.1.2) then (x.1.findIdx (Co x.2.1.2):Int) else -1,()))
noncomputable def Acg:Ctx:=Fu Tryz.prog plCl [(227,Tryz.f227)] [((227,keyOf Vj),Aq Gl Fi Lq)]
theorem Zt:CtxOk Acg:=Bt Ak puCl (A0 is_ixHoop A2) (Bs rfl (by kernel_rfl) Ace)
def Zu (k:SKTs F7) (l:List (TCT (B6))):Tree (Int×Unit):=bif G1 (l.length:Int) 0 l then bif l.any (Co k) then .leaf ((l.findIdx (Co k):Int),()) else .leaf (-1,()) else .fail
theorem Zv (k:SKTs F7) (l:List (TCT (B6))):(Zu k l).sat (fun y=>y=(bif l.any (Co k) then (l.findIdx (Co k):Int) else -1,())):=by
 refine I7 (decide_eq_true ⟨rfl,rfl⟩) ?_
 cases l.any (Co k) <;> exact rfl
theorem Ach:A5 Tryz.prog 227 Acf:=Ji Zt 8 (fun x=>Zu x.2.1.2 x.1) (fun x=>by kernel_rfl) fun x _ _=>Zv _ _
abbrev Zw:PureT:=G8 [.d (.sl (B6)),.f 176 [] F7] [.b] (fun _=>true) (fun x=>(x.1.any (Co x.2.1.2),()))
theorem Zx (k:SKTs F7) (l:List (TCT (B6))):(Tree.leaf (decide ((bif l.any (Co k) then (l.findIdx (Co k):Int) else -1)≥0),()):Tree (Bool×Unit)).sat (fun y=>y=(l.any (Co k),())):=by
 rw [Lc];exact rfl
theorem Aci:A5 Tryz.prog 175 Zw:=Ji (Aj Ak (puOk_cons is_ixHoop.plain Ach puOk_nil) (A0 is_cfHoop A2)) 8 (fun x=>.leaf (decide ((bif x.1.any (Co x.2.1.2) then (x.1.findIdx (Co x.2.1.2):Int) else -1)≥0),())) (fun x=>by kernel_rfl) fun x _ _=>Zx _ _
theorem is_ixCell:FnIs Tryz.prog (228,Tryz.f228):=⟨Tryz.func228,by kernel_rfl,by kernel_rfl⟩
theorem is_cfCell:FnIs Tryz.prog (178,Tryz.f178):=⟨Tryz.func178,by kernel_rfl,by kernel_rfl⟩
abbrev F8:List SK:=[]
def Cp (k:SKTs F8) (x:TCT (D1)):Bool:=!Et x
noncomputable def Vl:Code:=(Ai (bodyOf Tryz.f228)).getD 0 .skip
def Gm:Lay:={ keys:=[0,1,7,8],ks:=[.d (.sl (D1)),.f 179 [] F8,.d cI,.d cI],bs:=[],n:=19,nx:=1000,marks:=[] }
def A9a:Lay:={ keys:=[4],ks:=[.d cI],bs:=[],n:=19,nx:=1000,marks:=[] }
def A9b:Lay:={ keys:=[],ks:=[],bs:=[],n:=19,nx:=1000,marks:=[] }
def Fj:XE→Lay
 | .ret=>A9a
 | _=>A9b
def Vm (k:SKTs F8) (l:List (TCT (D1))) (n i:Int):Gm.T:=((l,((),k),n,i,()),())
def Mn (i:Int):A4 Fj:=⟨.ret,((i,()),())⟩
def Mo:A4 Fj:=⟨.exit 0,((),())⟩
def H9 (k:SKTs F8) (l:List (TCT (D1))) (n:Int) (x:TCT (D1)) (i:Int):Tree (Gm.T⊕A4 Fj):=bif Cp k x then .leaf (.inr (Mn i)) else .leaf (.inl (Vm k l n (W64 (i+1))))
def A9c (k:SKTs F8) (l:List (TCT (D1))) (n i:Int):Tree (Gm.T⊕A4 Fj) :=
 bif decide (i<n) then bif decide (0≤i∧i<(l.length:Int)) then H9 k l n (Ar l i.toNat (Ap (D1))) i else .fail else .leaf (.inr Mo)
def Lr (g:Gm.T):Tree (A4 Fj) :=
 .br (G1 g.1.2.2.1 g.1.2.2.2.1 g.1.1) (.br (g.1.1.any (Cp g.1.2.1.2)) (.leaf (Mn (g.1.1.findIdx (Cp g.1.2.1.2)))) (.leaf Mo)) .fail
theorem Acj:As Tryz.prog 228 Vl (Aq Gm Fj Lr):=by
 refine El (X:=ctx Tryz.prog plCl []) (Aj Ak puCl A2) 7 228 (fun _=>none) (fun _ _ f h=>by simp at h) Gm Fj (fun e=>by cases e <;> exact Nat.le_refl _) Lr (fun g=>A9c g.1.2.1.2 g.1.1 g.1.2.2.1 g.1.2.2.2.1) (fun g=>by kernel_rfl) ?_
 rintro ⟨⟨l,⟨⟨⟩,k⟩,n,i,⟨⟩⟩,⟨⟩⟩ R hw hf
 obtain ⟨hf,h0⟩:=hf
 by_cases hc:n=(l.length:Int)∧i=0
 ·obtain ⟨rfl,rfl⟩:=hc
  have hf:=hf (decide_eq_true ⟨rfl,rfl⟩)
  refine Abb l (Ap (D1)) (E9 hw.1.1) (fun n i _=>Vm k l n i) (fun x i (_:Unit)=>bif Cp k x then .inr (Mn i) else .inl ()) (fun _=>Mo) (fun _=>True) (fun x i _=>H9 k l l.length x i) (fun i _=>rfl) ?_ () trivial ?_
  ·intro i _ hi Q _ _ hw1 hQ
   show (H9 k l l.length l[i] i).sat Q
   unfold H9
   rw [hw1]
   cases hp:Cp k l[i] with
   | true=>rw [hp] at hQ;exact hQ
   | false=>rw [hp] at hQ;exact hQ trivial
  ·rw [Jb (Cp k) (fun i=>Mn i) Mo l 0,Nat.zero_add]
   cases ha:l.any (Cp k) with
   | true=>exact hf.1 ha
   | false=>exact hf.2 ha
 ·exact (h0 (decide_eq_false hc)).elim
abbrev Ack:PureT:=G8 [.d (.sl (D1)),.f 179 [] F8] [cI] (fun _=>true) (fun x=>(bif x.1.any (Cp x.2.1.2) then (x.1.findIdx (Cp x.2.1.2):Int) else -1,()))
noncomputable def Acl:Ctx:=Fu Tryz.prog plCl [(228,Tryz.f228)] [((228,keyOf Vl),Aq Gm Fj Lr)]
theorem Zy:CtxOk Acl:=Bt Ak puCl (A0 is_ixCell A2) (Bs rfl (by kernel_rfl) Acj)
def Zz (k:SKTs F8) (l:List (TCT (D1))):Tree (Int×Unit):=bif G1 (l.length:Int) 0 l then bif l.any (Cp k) then .leaf ((l.findIdx (Cp k):Int),()) else .leaf (-1,()) else .fail
theorem A00 (k:SKTs F8) (l:List (TCT (D1))):(Zz k l).sat (fun y=>y=(bif l.any (Cp k) then (l.findIdx (Cp k):Int) else -1,())):=by
 refine I7 (decide_eq_true ⟨rfl,rfl⟩) ?_
 cases l.any (Cp k) <;> exact rfl
theorem Acm:A5 Tryz.prog 228 Ack:=Ji Zy 8 (fun x=>Zz x.2.1.2 x.1) (fun x=>by kernel_rfl) fun x _ _=>A00 _ _
abbrev A01:PureT:=G8 [.d (.sl (D1)),.f 179 [] F8] [.b] (fun _=>true) (fun x=>(x.1.any (Cp x.2.1.2),()))
theorem A02 (k:SKTs F8) (l:List (TCT (D1))):(Tree.leaf (decide ((bif l.any (Cp k) then (l.findIdx (Cp k):Int) else -1)≥0),()):Tree (Bool×Unit)).sat (fun y=>y=(l.any (Cp k),())):=by
 rw [Lc];exact rfl
theorem Acn:A5 Tryz.prog 178 A01:=Ji (Aj Ak (puOk_cons is_ixCell.plain Acm puOk_nil) (A0 is_cfCell A2)) 8 (fun x=>.leaf (decide ((bif x.1.any (Cp x.2.1.2) then (x.1.findIdx (Cp x.2.1.2):Int) else -1)≥0),())) (fun x=>by kernel_rfl) fun x _ _=>A02 _ _
theorem is_ixBall:FnIs Tryz.prog (189,Tryz.f189):=⟨Tryz.func189,by kernel_rfl,by kernel_rfl⟩
theorem is_cfBall:FnIs Tryz.prog (121,Tryz.f121):=⟨Tryz.func121,by kernel_rfl,by kernel_rfl⟩
abbrev F9:List SK:=[]
def Cq (k:SKTs F9) (x:TCT (Be)):Bool:=!Hp x
noncomputable def Vn:Code:=(Ai (bodyOf Tryz.f189)).getD 0 .skip
def Gn:Lay:={ keys:=[0,1,7,8],ks:=[.d (.sl (Be)),.f 122 [] F9,.d cI,.d cI],bs:=[],n:=19,nx:=1000,marks:=[] }
def A9d:Lay:={ keys:=[4],ks:=[.d cI],bs:=[],n:=19,nx:=1000,marks:=[] }
def A9e:Lay:={ keys:=[],ks:=[],bs:=[],n:=19,nx:=1000,marks:=[] }
def Fl:XE→Lay
 | .ret=>A9d
 | _=>A9e
def Vo (k:SKTs F9) (l:List (TCT (Be))) (n i:Int):Gn.T:=((l,((),k),n,i,()),())
def Mq (i:Int):A4 Fl:=⟨.ret,((i,()),())⟩
def Mr:A4 Fl:=⟨.exit 0,((),())⟩
def Ha (k:SKTs F9) (l:List (TCT (Be))) (n:Int) (x:TCT (Be)) (i:Int):Tree (Gn.T⊕A4 Fl):=bif Cq k x then .leaf (.inr (Mq i)) else .leaf (.inl (Vo k l n (W64 (i+1))))
def A9f (k:SKTs F9) (l:List (TCT (Be))) (n i:Int):Tree (Gn.T⊕A4 Fl) :=
 bif decide (i<n) then bif decide (0≤i∧i<(l.length:Int)) then Ha k l n (Ar l i.toNat (Ap (Be))) i else .fail else .leaf (.inr Mr)
def Ls (g:Gn.T):Tree (A4 Fl) :=
 .br (G1 g.1.2.2.1 g.1.2.2.2.1 g.1.1) (.br (g.1.1.any (Cq g.1.2.1.2)) (.leaf (Mq (g.1.1.findIdx (Cq g.1.2.1.2)))) (.leaf Mr)) .fail
theorem Aco:As Tryz.prog 189 Vn (Aq Gn Fl Ls):=by
 refine El (X:=ctx Tryz.prog plCl []) (Aj Ak puCl A2) 7 189 (fun _=>none) (fun _ _ f h=>by simp at h) Gn Fl (fun e=>by cases e <;> exact Nat.le_refl _) Ls (fun g=>A9f g.1.2.1.2 g.1.1 g.1.2.2.1 g.1.2.2.2.1) (fun g=>by kernel_rfl) ?_
 rintro ⟨⟨l,⟨⟨⟩,k⟩,n,i,⟨⟩⟩,⟨⟩⟩ R hw hf
 obtain ⟨hf,h0⟩:=hf
 by_cases hc:n=(l.length:Int)∧i=0
 ·obtain ⟨rfl,rfl⟩:=hc
  have hf:=hf (decide_eq_true ⟨rfl,rfl⟩)
  refine Abb l (Ap (Be)) (E9 hw.1.1) (fun n i _=>Vo k l n i) (fun x i (_:Unit)=>bif Cq k x then .inr (Mq i) else .inl ()) (fun _=>Mr) (fun _=>True) (fun x i _=>Ha k l l.length x i) (fun i _=>rfl) ?_ () trivial ?_
  ·intro i _ hi Q _ _ hw1 hQ
   show (Ha k l l.length l[i] i).sat Q
   unfold Ha
   rw [hw1]
   cases hp:Cq k l[i] with
   | true=>rw [hp] at hQ;exact hQ
   | false=>rw [hp] at hQ;exact hQ trivial
  ·rw [Jb (Cq k) (fun i=>Mq i) Mr l 0,Nat.zero_add]
   cases ha:l.any (Cq k) with
   | true=>exact hf.1 ha
   | false=>exact hf.2 ha
 ·exact (h0 (decide_eq_false hc)).elim
abbrev Acp:PureT:=G8 [.d (.sl (Be)),.f 122 [] F9] [cI] (fun _=>true) (fun x=>(bif x.1.any (Cq x.2.1.2) then (x.1.findIdx (Cq x.2.1.2):Int) else -1,()))
noncomputable def Acr:Ctx:=Fu Tryz.prog plCl [(189,Tryz.f189)] [((189,keyOf Vn),Aq Gn Fl Ls)]
theorem A03:CtxOk Acr:=Bt Ak puCl (A0 is_ixBall A2) (Bs rfl (by kernel_rfl) Aco)
def A04 (k:SKTs F9) (l:List (TCT (Be))):Tree (Int×Unit):=bif G1 (l.length:Int) 0 l then bif l.any (Cq k) then .leaf ((l.findIdx (Cq k):Int),()) else .leaf (-1,()) else .fail
theorem A05 (k:SKTs F9) (l:List (TCT (Be))):(A04 k l).sat (fun y=>y=(bif l.any (Cq k) then (l.findIdx (Cq k):Int) else -1,())):=by
 refine I7 (decide_eq_true ⟨rfl,rfl⟩) ?_
 cases l.any (Cq k) <;> exact rfl
theorem Acs:A5 Tryz.prog 189 Acp:=Ji A03 8 (fun x=>A04 x.2.1.2 x.1) (fun x=>by kernel_rfl) fun x _ _=>A05 _ _
abbrev A06:PureT:=G8 [.d (.sl (Be)),.f 122 [] F9] [.b] (fun _=>true) (fun x=>(x.1.any (Cq x.2.1.2),()))
theorem A07 (k:SKTs F9) (l:List (TCT (Be))):(Tree.leaf (decide ((bif l.any (Cq k) then (l.findIdx (Cq k):Int) else -1)≥0),()):Tree (Bool×Unit)).sat (fun y=>y=(l.any (Cq k),())):=by
 rw [Lc];exact rfl
theorem Acu:A5 Tryz.prog 121 A06:=Ji (Aj Ak (puOk_cons is_ixBall.plain Acs puOk_nil) (A0 is_cfBall A2)) 8 (fun x=>.leaf (decide ((bif x.1.any (Cq x.2.1.2) then (x.1.findIdx (Cq x.2.1.2):Int) else -1)≥0),())) (fun x=>by kernel_rfl) fun x _ _=>A07 _ _
theorem is_ixMot:FnIs Tryz.prog (196,Tryz.f196):=⟨Tryz.func196,by kernel_rfl,by kernel_rfl⟩
theorem is_cfMot:FnIs Tryz.prog (132,Tryz.f132):=⟨Tryz.func132,by kernel_rfl,by kernel_rfl⟩
abbrev Hq:List SK:=[]
def Ef (k:SKTs Hq) (x:TCT (Bn)):Bool:=!Acd x
noncomputable def A08:Code:=(Ai (bodyOf Tryz.f196)).getD 0 .skip
def If:Lay:={ keys:=[0,1,7,8],ks:=[.d (.sl (Bn)),.f 133 [] Hq,.d cI,.d cI],bs:=[],n:=19,nx:=1000,marks:=[] }
def Acv:Lay:={ keys:=[4],ks:=[.d cI],bs:=[],n:=19,nx:=1000,marks:=[] }
def Acw:Lay:={ keys:=[],ks:=[],bs:=[],n:=19,nx:=1000,marks:=[] }
def Hb:XE→Lay
 | .ret=>Acv
 | _=>Acw
def A09 (k:SKTs Hq) (l:List (TCT (Bn))) (n i:Int):If.T:=((l,((),k),n,i,()),())
def Qi (i:Int):A4 Hb:=⟨.ret,((i,()),())⟩
def Qj:A4 Hb:=⟨.exit 0,((),())⟩
def Ig (k:SKTs Hq) (l:List (TCT (Bn))) (n:Int) (x:TCT (Bn)) (i:Int):Tree (If.T⊕A4 Hb):=bif Ef k x then .leaf (.inr (Qi i)) else .leaf (.inl (A09 k l n (W64 (i+1))))
def Acx (k:SKTs Hq) (l:List (TCT (Bn))) (n i:Int):Tree (If.T⊕A4 Hb) :=
 bif decide (i<n) then bif decide (0≤i∧i<(l.length:Int)) then Ig k l n (Ar l i.toNat (Ap (Bn))) i else .fail else .leaf (.inr Qj)
def O3 (g:If.T):Tree (A4 Hb) :=
 .br (G1 g.1.2.2.1 g.1.2.2.2.1 g.1.1) (.br (g.1.1.any (Ef g.1.2.1.2)) (.leaf (Qi (g.1.1.findIdx (Ef g.1.2.1.2)))) (.leaf Qj)) .fail
theorem Ai8:As Tryz.prog 196 A08 (Aq If Hb O3):=by
 refine El (X:=ctx Tryz.prog plCl []) (Aj Ak puCl A2) 7 196 (fun _=>none) (fun _ _ f h=>by simp at h) If Hb (fun e=>by cases e <;> exact Nat.le_refl _) O3 (fun g=>Acx g.1.2.1.2 g.1.1 g.1.2.2.1 g.1.2.2.2.1) (fun g=>by kernel_rfl) ?_
 rintro ⟨⟨l,⟨⟨⟩,k⟩,n,i,⟨⟩⟩,⟨⟩⟩ R hw hf
 obtain ⟨hf,h0⟩:=hf
 by_cases hc:n=(l.length:Int)∧i=0
 ·obtain ⟨rfl,rfl⟩:=hc
  have hf:=hf (decide_eq_true ⟨rfl,rfl⟩)
  refine Abb l (Ap (Bn)) (E9 hw.1.1) (fun n i _=>A09 k l n i) (fun x i (_:Unit)=>bif Ef k x then .inr (Qi i) else .inl ()) (fun _=>Qj) (fun _=>True) (fun x i _=>Ig k l l.length x i) (fun i _=>rfl) ?_ () trivial ?_
  ·intro i _ hi Q _ _ hw1 hQ
   show (Ig k l l.length l[i] i).sat Q
   unfold Ig
   rw [hw1]
   cases hp:Ef k l[i] with
   | true=>rw [hp] at hQ;exact hQ
   | false=>rw [hp] at hQ;exact hQ trivial
  ·rw [Jb (Ef k) (fun i=>Qi i) Qj l 0,Nat.zero_add]
   cases ha:l.any (Ef k) with
   | true=>exact hf.1 ha
   | false=>exact hf.2 ha
 ·exact (h0 (decide_eq_false hc)).elim
abbrev Ai9:PureT:=G8 [.d (.sl (Bn)),.f 133 [] Hq] [cI] (fun _=>true) (fun x=>(bif x.1.any (Ef x.2.1.2) then (x.1.findIdx (Ef x.2.1.2):Int) else -1,()))
noncomputable def Aia:Ctx:=Fu Tryz.prog plCl [(196,Tryz.f196)] [((196,keyOf A08),Aq If Hb O3)]
theorem A3w:CtxOk Aia:=Bt Ak puCl (A0 is_ixMot A2) (Bs rfl (by kernel_rfl) Ai8)
def A6g (k:SKTs Hq) (l:List (TCT (Bn))):Tree (Int×Unit):=bif G1 (l.length:Int) 0 l then bif l.any (Ef k) then .leaf ((l.findIdx (Ef k):Int),()) else .leaf (-1,()) else .fail
theorem A3x (k:SKTs Hq) (l:List (TCT (Bn))):(A6g k l).sat (fun y=>y=(bif l.any (Ef k) then (l.findIdx (Ef k):Int) else -1,())):=by
 refine I7 (decide_eq_true ⟨rfl,rfl⟩) ?_
 cases l.any (Ef k) <;> exact rfl
theorem Aib:A5 Tryz.prog 196 Ai9:=Ji A3w 8 (fun x=>A6g x.2.1.2 x.1) (fun x=>by kernel_rfl) fun x _ _=>A3x _ _
abbrev A6h:PureT:=G8 [.d (.sl (Bn)),.f 133 [] Hq] [.b] (fun _=>true) (fun x=>(x.1.any (Ef x.2.1.2),()))
theorem A3y (k:SKTs Hq) (l:List (TCT (Bn))):(Tree.leaf (decide ((bif l.any (Ef k) then (l.findIdx (Ef k):Int) else -1)≥0),()):Tree (Bool×Unit)).sat (fun y=>y=(l.any (Ef k),())):=by
 rw [Lc];exact rfl
theorem Aic:A5 Tryz.prog 132 A6h:=Ji (Aj Ak (puOk_cons is_ixMot.plain Aib puOk_nil) (A0 is_cfMot A2)) 8 (fun x=>.leaf (decide ((bif x.1.any (Ef x.2.1.2) then (x.1.findIdx (Ef x.2.1.2):Int) else -1)≥0),())) (fun x=>by kernel_rfl) fun x _ _=>A3y _ _
end St
end V
end Go.Proofs.YtlangijnealfjaaGreat
namespace Go.Proofs.YtlangijnealfjaaGreat
open Go.RowKit
namespace V
namespace St
theorem is_lposts:FnIs Tryz.prog (52,Tryz.f52):=⟨Tryz.func52,by kernel_rfl,by kernel_rfl⟩
theorem is_lwires:FnIs Tryz.prog (110,Tryz.f110):=⟨Tryz.func110,by kernel_rfl,by kernel_rfl⟩
theorem is_turned:FnIs Tryz.prog (182,Tryz.f182):=⟨Tryz.func182,by kernel_rfl,by kernel_rfl⟩
abbrev kLw:List SK:=[.d .s,.d cI,.d cI,.d cI,.d (.sl B6),.d cI,.d cI,.d cI,.d cI,.d cI,.d (.sl D1)]
def Fo (x:SKTs kLw):TCT Ao:=(x.1,x.2.1,x.2.2.1,x.2.2.2.1,x.2.2.2.2.1,((x.2.2.2.2.2.1,x.2.2.2.2.2.2.1,()),x.2.2.2.2.2.2.2.1,()),x.2.2.2.2.2.2.2.2.1,x.2.2.2.2.2.2.2.2.2.1,x.2.2.2.2.2.2.2.2.2.2.1,())
def C3 (l:TCT Ao):SKTs kLw:=(l.1,l.2.1,l.2.2.1,l.2.2.2.1,l.2.2.2.2.1,l.2.2.2.2.2.1.1.1,l.2.2.2.2.2.1.1.2.1,l.2.2.2.2.2.1.2.1,l.2.2.2.2.2.2.1,l.2.2.2.2.2.2.2.1,l.2.2.2.2.2.2.2.2.1,())
def An (l:TCT Ao):List (TCT B6):=l.2.2.2.2.1
def Hx (l:TCT Ao):TCT A1:=l.2.2.2.2.2.1
def dW (h:TCT B6):Int:=W64 (W64 (Int.tdiv h.2.2.1 2)+h.2.2.2.1)
def Ld (x y r:Int):TCT A1:=((x,y,()),r,())
def w2 (h:TCT B6):List (TCT A1):=bif h.2.2.2.2.1 then [Ld h.1 (W64 (h.2.1-dW h)) h.2.2.2.1,Ld h.1 (W64 (h.2.1+dW h)) h.2.2.2.1] else [Ld (W64 (h.1-dW h)) h.2.1 h.2.2.2.1,Ld (W64 (h.1+dW h)) h.2.1 h.2.2.2.1]
def B0 (l:TCT Ao):List (TCT A1):=(An l).flatMap w2++[Hx l]
noncomputable def Aqd:Code:=(Ai (bodyOf Tryz.f52)).getD 0 .skip
def Uv:Lay:={ keys:=[1,2,7,8,9],ks:=[.p 0 0 0 0,.o 30 A1,.d (.sl B6),.d cI,.d cI],bs:=[(0,33,kLw)],n:=24,nx:=1000,marks:=[] }
def Aqe:Lay:={ keys:=[1,2],ks:=[.p 0 0 0 0,.o 30 A1],bs:=[(0,33,kLw)],n:=24,nx:=1000,marks:=[] }
def Xi:XE→Lay:=fun _=>Aqe
def Acy (x:SKTs kLw) (hs:List (TCT B6)) (n:Int) (i:Int) (o:List (TCT A1)):Uv.T:=(((),o,hs,n,i,()),(x,()))
def Vp (x:SKTs kLw) (o:List (TCT A1)):A4 Xi:=⟨.exit 0,(((),o,()),(x,()))⟩
def A3z (x:SKTs kLw) (hs:List (TCT B6)) (n i:Int) (o w:List (TCT A1)):Tree (Uv.T⊕A4 Xi):=bif Dv o w 24 then .leaf (.inl (Acy x hs n (W64 (i+1)) (o++w))) else .fail
def Xj (x:SKTs kLw) (hs:List (TCT B6)) (n i:Int) (o:List (TCT A1)) (h:TCT B6):Tree (Uv.T⊕A4 Xi) :=
 bif h.2.2.2.2.1 then A3z x hs n i o [Ld (W64 (h.1-0)) (W64 (h.2.1-dW h)) h.2.2.2.1,Ld (W64 (h.1+0)) (W64 (h.2.1+dW h)) h.2.2.2.1]
 else A3z x hs n i o [Ld (W64 (h.1-dW h)) (W64 (h.2.1-0)) h.2.2.2.1,Ld (W64 (h.1+dW h)) (W64 (h.2.1+0)) h.2.2.2.1]
def A0a (g:Uv.T):Tree (Uv.T⊕A4 Xi) :=
 bif decide (g.1.2.2.2.2.1<g.1.2.2.2.1) then bif decide (0≤g.1.2.2.2.2.1∧g.1.2.2.2.2.1<((g.1.2.2.1:List (TCT B6)).length:Int)) then Xj g.2.1 g.1.2.2.1 g.1.2.2.2.1 g.1.2.2.2.2.1 g.1.2.1 (Ar g.1.2.2.1 (Int.toNat g.1.2.2.2.2.1) (Ap B6)) else .fail else .leaf (.inr (Vp g.2.1 g.1.2.1))
def Acz (g:Uv.T):Nat:=(g.1.2.2.1:List (TCT B6)).length+1
noncomputable def Aqf:Ctx:=ctx Tryz.prog [] [(110,Tryz.f110),(182,Tryz.f182)]
theorem Ad0:CtxOk Aqf:=Aj Ak puOk_nil (A0 is_lwires (A0 is_turned A2))
theorem At0:As Tryz.prog 52 Aqd (Aq Uv Xi (Da [.exit 0] A0a Acz)):=C0 Ad0 7 _ Uv Xi (fun _=>Nat.le_refl _) [.exit 0] A0a Acz (fun g=>by kernel_rfl)
noncomputable def At1:Ctx:=Fu Tryz.prog [] [(52,Tryz.f52)] [((52,2),Aq Uv Xi (Da [.exit 0] A0a Acz))]
theorem Aid:CtxOk At1:=Bt Ak puOk_nil (A0 is_lposts A2) (Bs (by kernel_rfl) (by kernel_rfl) At0)
def Aie (l:TCT Ao):Option (A4 Xi):=iter A0a ((An l).length+1) (Acy (C3 l) (An l) (An l).length 0 [])
abbrev TPo:=Tree (TCTs [.sl A1])
def A40 (r:Aqe.T):TPo:=bif Dv r.1.2.1 [Hx (Fo r.2.1)] 24 then .leaf (r.1.2.1++[Hx (Fo r.2.1)],()) else .fail
def Anf (l:TCT Ao):TPo:=bif isE (.exit 0) (Aie l) then A40 (Dd (.exit 0) (Aie l)) else .fail
abbrev Ih:PureT:=B9 [Ao] [.sl A1] (fun x=>decide ((An x.1).length≤1000)) (fun x=>(B0 x.1,()))
theorem O4 {α β E:Type} (w:α→List β) (ex:List β→E):∀ (l:List α) (i:Nat) (s:List β),Mh (fun _ x s=>some (.inl (s++w x))) (fun s=>some (ex s)) i l s=some (ex (s++l.flatMap w))
 | [],_,s=>by simp [Mh]
 | x::l,i,s=>by simp only [Mh];rw [O4 w ex l (i+1)];simp [List.append_assoc]
theorem A41 (h:TCT B6):(w2 h).length=2:=by unfold w2;cases h.2.2.2.2.1 <;> rfl
theorem Ms (l:List (TCT B6)):(l.flatMap w2).length=2*l.length:=by
 induction l with
 | nil=>rfl
 | cons h l ih =>
  have e:((h::l).flatMap w2).length=(w2 h).length+(l.flatMap w2).length:=by rw [List.flatMap_cons,List.length_append]
  rw [e,ih,A41,List.length_cons];omega
theorem Vq {o w:List (TCT A1)} (h:o.length+w.length≤4000):Dv o w 24=true:=by
 rw [Ep];exact decide_eq_true (by omega)
theorem Ang {h:TCT B6} (hw:WFD B6 h):W64 (h.1-0)=h.1∧W64 (h.1+0)=h.1∧W64 (h.2.1-0)=h.2.1∧W64 (h.2.1+0)=h.2.1:=by
 obtain ⟨x,y,g,w,a,⟨⟩⟩:=h
 obtain ⟨h1,h2,_⟩:=hw
 have h1 : -9223372036854775808≤x∧x≤9223372036854775807:=h1
 have h2 : -9223372036854775808≤y∧y≤9223372036854775807:=h2
 exact ⟨by rw [Int.sub_zero];exact C6 h1.1 h1.2,by rw [Int.add_zero];exact C6 h1.1 h1.2,by rw [Int.sub_zero];exact C6 h2.1 h2.2,by rw [Int.add_zero];exact C6 h2.1 h2.2⟩
theorem Aif {l:TCT Ao} (hw:∀ h ∈ An l,WFD B6 h) (hl:(An l).length≤1000):Aie l=some (Vp (C3 l) ((An l).flatMap w2)):=by
 unfold Aie
 have key:=De (st:=A0a) (An l) (fun i o=>Acy (C3 l) (An l) (An l).length (i:Int) o) (fun _ h o=>some (.inl (o++w2 h))) (fun o=>some (Vp (C3 l) o)) (fun i o=>o.length=2*i)
  (fun i o hi hI=>by
   simp only
   refine ⟨?_,by rw [List.length_append,hI,A41];omega⟩
   show (bif decide ((i:Int)<((An l).length:Int)) then bif decide (0≤(i:Int)∧(i:Int)<((An l).length:Int)) then Xj (C3 l) (An l) (An l).length (i:Int) o (Ar (An l) (Int.toNat (i:Int)) (Ap B6)) else .fail else .leaf (.inr (Vp (C3 l) o))).run=_
   rw [decide_eq_true (show (i:Int)<((An l).length:Int) by omega),decide_eq_true (show 0≤(i:Int)∧(i:Int)<((An l).length:Int) by omega),show Int.toNat (i:Int)=i by omega,Cl hi]
   obtain ⟨e1,e2,e3,e4⟩:=Ang (hw _ (List.getElem_mem hi))
   simp only [cond_true]
   unfold Xj w2 A3z
   rw [e1,e2,e3,e4,C6 (n:=(i:Int)+1) (by omega) (by omega)]
   cases (An l)[i].2.2.2.2.1 with
   | true =>
    simp only [cond_true]
    rw [Vq (by simp only [List.length_cons,List.length_nil,hI];omega)]
    rfl
   | false =>
    simp only [cond_false]
    rw [Vq (by simp only [List.length_cons,List.length_nil,hI];omega)]
    rfl)
  (fun o e hI he=>by
   cases he
   show (bif decide (((An l).length:Int)<((An l).length:Int)) then _ else Tree.leaf (Sum.inr (Vp (C3 l) o)):Tree (Uv.T⊕A4 Xi)).run=_
   rw [decide_eq_false (show ¬ ((An l).length:Int)<((An l).length:Int) by omega)]
   rfl)
  (An l).length 0 [] (Vp (C3 l) ((An l).flatMap w2)) ((An l).length+1) (by omega) (by omega) rfl (by rw [List.drop_zero,O4,List.nil_append])
 exact key
theorem Xk:A5 Tryz.prog 52 Ih:=Bb Aid 7 (fun x=>Anf x.1) (fun x=>by kernel_rfl) fun x hok hw=>by
 have hl:(An x.1).length≤1000:=of_decide_eq_true hok
 show (Anf x.1).sat _
 unfold Anf
 rw [Aif (Alv hw.1.2.2.2.2.1) hl]
 show (A40 (((),(An x.1).flatMap w2,()),(C3 x.1,()))).sat _
 unfold A40
 simp only
 rw [Vq (by rw [Ms];simp only [List.length_cons,List.length_nil];omega)]
 exact rfl
end St
end V
end Go.Proofs.YtlangijnealfjaaGreat
namespace Go.Proofs.YtlangijnealfjaaGreat
open Go.RowKit
namespace V
namespace St
def Uw:Lay:={ keys:=[1,3,4],ks:=[.p 0 0 0 0,.o 30 A1,.d cI],bs:=[(0,33,kLw)],n:=73,nx:=1000,marks:=[] }
def Aqh:Lay:={ keys:=[1,3],ks:=[.p 0 0 0 0,.o 30 A1],bs:=[(0,33,kLw)],n:=73,nx:=1000,marks:=[] }
def Xl:XE→Lay:=fun _=>Aqh
def Hd (x:SKTs kLw) (i:Int) (o:List (TCT A1)):Uw.T:=(((),o,i,()),(x,()))
def Hy (x:SKTs kLw) (o:List (TCT A1)):A4 Xl:=⟨.exit 0,(((),o,()),(x,()))⟩
def A42 (x:SKTs kLw) (i:Int) (o w:List (TCT A1)):Tree (Uw.T⊕A4 Xl):=bif Dv o w 24 then .leaf (.inl (Hd x (W64 (i+1)) (o++w))) else .fail
def Xm (x:SKTs kLw) (i:Int) (o:List (TCT A1)) (h:TCT B6):Tree (Uw.T⊕A4 Xl) :=
 bif h.2.2.2.2.1 then A42 x i o [Ld h.1 (W64 (h.2.1-dW h)) h.2.2.2.1,Ld h.1 (W64 (h.2.1+dW h)) h.2.2.2.1]
 else A42 x i o [Ld (W64 (h.1-dW h)) h.2.1 h.2.2.2.1,Ld (W64 (h.1+dW h)) h.2.1 h.2.2.2.1]
def Hz (g:Uw.T):Tree (Uw.T⊕A4 Xl) :=
 bif decide (g.1.2.2.1<((g.2.1.2.2.2.2.1:List (TCT B6)).length:Int)) then bif decide (0≤g.1.2.2.1∧g.1.2.2.1<((g.2.1.2.2.2.2.1:List (TCT B6)).length:Int)) then Xm g.2.1 g.1.2.2.1 g.1.2.1 (Ar g.2.1.2.2.2.2.1 (Int.toNat g.1.2.2.1) (Ap B6)) else .fail else .leaf (.inr (Hy g.2.1 g.1.2.1))
def Ra (g:Uw.T):Nat:=(g.2.1.2.2.2.2.1:List (TCT B6)).length+1
noncomputable def Ad1:Ctx:=ctx Tryz.prog [] []
theorem Rb:CtxOk Ad1:=Aj Ak puOk_nil A2
def Aih (l:TCT Ao):Option (A4 Xl):=iter Hz ((An l).length+1) (Hd (C3 l) 0 [])
def A43 (r:Aqh.T):TPo:=bif Dv r.1.2.1 [Hx (Fo r.2.1)] 24 then .leaf (r.1.2.1++[Hx (Fo r.2.1)],()) else .fail
def Anh (l:TCT Ao):TPo:=bif isE (.exit 0) (Aih l) then A43 (Dd (.exit 0) (Aih l)) else .fail
theorem Aii {l:TCT Ao} (hl:(An l).length≤1000):Aih l=some (Hy (C3 l) ((An l).flatMap w2)):=by
 unfold Aih
 have key:=De (st:=Hz) (An l) (fun i o=>Hd (C3 l) (i:Int) o) (fun _ h o=>some (.inl (o++w2 h))) (fun o=>some (Hy (C3 l) o)) (fun i o=>o.length=2*i)
  (fun i o hi hI=>by
   simp only
   refine ⟨?_,by rw [List.length_append,hI,A41];omega⟩
   show (bif decide ((i:Int)<((An l).length:Int)) then bif decide (0≤(i:Int)∧(i:Int)<((An l).length:Int)) then Xm (C3 l) (i:Int) o (Ar (An l) (Int.toNat (i:Int)) (Ap B6)) else .fail else .leaf (.inr (Hy (C3 l) o))).run=_
   rw [decide_eq_true (show (i:Int)<((An l).length:Int) by omega),decide_eq_true (show 0≤(i:Int)∧(i:Int)<((An l).length:Int) by omega),show Int.toNat (i:Int)=i by omega,Cl hi]
   simp only [cond_true]
   unfold Xm w2 A42
   rw [C6 (n:=(i:Int)+1) (by omega) (by omega)]
   cases (An l)[i].2.2.2.2.1 with
   | true =>
    simp only [cond_true]
    rw [Vq (by simp only [List.length_cons,List.length_nil,hI];omega)]
    rfl
   | false =>
    simp only [cond_false]
    rw [Vq (by simp only [List.length_cons,List.length_nil,hI];omega)]
    rfl)
  (fun o e hI he=>by
   cases he
   show (bif decide (((An l).length:Int)<((An l).length:Int)) then _ else Tree.leaf (Sum.inr (Hy (C3 l) o)):Tree (Uw.T⊕A4 Xl)).run=_
   rw [decide_eq_false (show ¬ ((An l).length:Int)<((An l).length:Int) by omega)]
   rfl)
  (An l).length 0 [] (Hy (C3 l) ((An l).flatMap w2)) ((An l).length+1) (by omega) (by omega) rfl (by rw [List.drop_zero,O4,List.nil_append])
 exact key
end St
end V
end Go.Proofs.YtlangijnealfjaaGreat
namespace Go.Proofs.YtlangijnealfjaaGreat
open Go.RowKit
namespace V
namespace St
theorem is_vname:FnIs Tryz.prog (174,Tryz.f174):=⟨Tryz.func174,by kernel_rfl,by kernel_rfl⟩
theorem is_vname1:FnIs Tryz.prog (226,Tryz.f226):=⟨Tryz.func226,by kernel_rfl,by kernel_rfl⟩
theorem is_sCont:FnIs Tryz.prog (157,Tryz.f157):=⟨Tryz.func157,by kernel_rfl,by kernel_rfl⟩
theorem is_sIdx:FnIs Tryz.prog (209,Tryz.f209):=⟨Tryz.func209,by kernel_rfl,by kernel_rfl⟩
theorem is_sidx:FnIs Tryz.prog (240,Tryz.f240):=⟨Tryz.func240,by kernel_rfl,by kernel_rfl⟩
def A0c (r:Int):Bool:=(decide (r<97)||decide (r>122))&&(decide (r<48)||decide (r>57))
def Ad2 (r:Int):TBo:=bif decide (r<97) then bif decide (r<48) then .leaf (true,()) else .leaf (decide (r>57),()) else bif decide (r>122) then bif decide (r<48) then .leaf (true,()) else .leaf (decide (r>57),()) else .leaf (false,())
abbrev Ad3:PureT:=B9 [.i .i32] [.b] (fun _=>true) (fun x=>(A0c x.1,()))
theorem Ad4 (r:Int):(Ad2 r).sat (fun y=>y=(A0c r,())):=by
 unfold Ad2 A0c
 cases decide (r<97) <;> cases decide (r>122) <;> cases decide (r<48) <;> exact rfl
theorem Ad5:A5 Tryz.prog 226 Ad3:=Bb (Aj Ak puOk_nil (A0 is_vname1 A2)) 3 (fun x=>Ad2 x.1) (fun x=>by kernel_rfl) fun x _ _=>Ad4 x.1
def plNm:List (Nat×PureT):=[(226,Ad3)]
theorem puNm:Ca Tryz.prog plNm:=puOk_cons is_vname1.plain Ad5 puOk_nil
def nmT (t:ByteArray):Nat→Nat→TBo
 | 0,_=>.fail
 | n+1,pos=>bif Nat.ble (pos+1) t.size then
   bif Ew .i64 (pos:Int)&&Ew .i32 ((Utf8.decode t pos).1:Int) then
    bif A0c ((Utf8.decode t pos).1:Int)==true then .leaf (!decide ((pos:Int)≥0),()) else nmT t n (pos+(Utf8.decode t pos).2)
   else .fail
  else .leaf (!decide ((-1:Int)≥0),())
def Xn (t:ByteArray):TBo:=bif Ew .i64 (t.size:Int) then bif decide ((t.size:Int)≥1) then bif Ew .i64 (t.size:Int) then bif decide ((t.size:Int)≤20) then nmT t 21 0 else .leaf (false,()) else .fail else .leaf (false,()) else .fail
noncomputable def Aqi:Ctx:=Ahi 21 Tryz.prog plNm [(174,Tryz.f174),(157,Tryz.f157),(209,Tryz.f209),(240,Tryz.f240)]
theorem Aij:CtxOk Aqi:=Qv Ak puNm (A0 is_vname (A0 is_sCont (A0 is_sIdx (A0 is_sidx A2))))
theorem A9g (t:ByteArray):D7 Aqi 12 (.fn 174) [.val (.string t)] Bz 0 (Ge Tryz.prog [.b])=Xn t:=by kernel_rfl
end St
end V
end Go.Proofs.YtlangijnealfjaaGreat
namespace Go.Proofs.YtlangijnealfjaaGreat
open Go.RowKit
namespace V
namespace St
def Cg (t:ByteArray):List UInt8:=t.data.toList
def O5 (b:UInt8):Bool:=A0c ((b.toNat:Nat):Int)
def Gp (t:ByteArray):Bool:=decide (1≤t.size∧t.size≤20)&&!(Cg t).any O5
theorem Km (t:ByteArray):(Cg t).length=t.size:=Array.length_toList
theorem A9h {n:Int} (h:0≤n) (h2:n≤9223372036854775807):Ew .i64 n=true:=by
 unfold Ew
 rw [decide_eq_true (show Fz .i64≤n by simp only [Fz];omega),decide_eq_true (show n≤Au .i64 by simp only [Au];omega)];rfl
theorem Aqj {n:Int} (h:0≤n) (h2:n≤2147483647):Ew .i32 n=true:=by
 unfold Ew
 rw [decide_eq_true (show Fz .i32≤n by simp only [Fz];omega),decide_eq_true (show n≤Au .i32 by simp only [Au];omega)];rfl
theorem Ani {t:ByteArray} {i:Nat} (h:i<t.size):t.get! i=(Cg t)[i]'(by rw [Km];exact h):=by
 have h':i<t.data.size:=h
 show t.data[i]! = _
 rw [getElem!_pos t.data i h']
 simp [Cg]
theorem Anj {t:ByteArray} {i:Nat} (h:(t.get! i).toNat<128):Utf8.decode t i=((t.get! i).toNat,1):=by
 unfold Utf8.decode
 simp only [Nat.add_zero]
 rw [if_pos h]
theorem Ank {t:ByteArray} {i:Nat} (h:¬ (t.get! i).toNat<128):128≤(Utf8.decode t i).1∧(Utf8.decode t i).1≤2100000:=by
 have hb:(t.get! i).toNat<256:=(t.get! i).toNat_lt
 unfold Utf8.decode
 simp only [Nat.add_zero]
 rw [if_neg h]
 have m1:=Nat.mod_lt (t.get! (i+1)).toNat (show 0<64 by omega)
 have m2:=Nat.mod_lt (t.get! (i+2)).toNat (show 0<64 by omega)
 have m3:=Nat.mod_lt (t.get! (i+3)).toNat (show 0<64 by omega)
 have r:128≤Utf8.runeError∧Utf8.runeError≤2100000:=by decide
 split
 ·split
  ·rename_i hc
   simp only
   omega
  ·exact r
 ·split
  ·split
   ·rename_i hc
    simp only [ge_iff_le,Bool.and_eq_true,decide_eq_true_eq] at hc
    simp only
    omega
   ·exact r
  ·split
   ·split
    ·rename_i hc
     simp only [ge_iff_le,Bool.and_eq_true,decide_eq_true_eq] at hc
     simp only
     omega
    ·exact r
   ·exact r
theorem Ad6 {r:Nat} (h:128≤r):A0c (r:Int)=true:=by
 unfold A0c
 rw [decide_eq_true (show (r:Int)>122 by omega),decide_eq_true (show (r:Int)>57 by omega)]
 simp
theorem Ad7 {t:ByteArray} (hs:t.size≤20):∀ (n pos:Nat),pos≤t.size→t.size-pos<n→nmT t n pos=.leaf (!((Cg t).drop pos).any O5,())
 | 0,_,_,h=>absurd h (Nat.not_lt_zero _)
 | n+1,pos,hp,hn=>by
  unfold nmT
  by_cases hlt:pos<t.size
  ·have hb:Nat.ble (pos+1) t.size=true:=by rw [Nat.ble_eq];omega
   have hd:(Cg t).drop pos=(Cg t)[pos]'(by rw [Km];exact hlt)::(Cg t).drop (pos+1):=List.drop_eq_getElem_cons _
   rw [hb,cond_true,hd,List.any_cons,← Ani hlt]
   by_cases h8:(t.get! pos).toNat<128
   ·rw [Anj h8]
    simp only
    have hk:(Ew .i64 (pos:Int)&&Ew .i32 (((t.get! pos).toNat:Nat):Int))=true:=by
     rw [A9h (by omega) (by omega),Aqj (by omega) (by omega)];rfl
    rw [hk,cond_true]
    show (bif O5 (t.get! pos)==true then _ else _:TBo)=_
    cases hbd:O5 (t.get! pos) with
    | true =>
     rw [decide_eq_true (show (pos:Int)≥0 by omega)]
     rfl
    | false =>
     show nmT t n (pos+1)=_
     rw [Ad7 hs n (pos+1) (by omega) (by omega),Bool.false_or]
   ·obtain ⟨h1,h2⟩:=Ank h8
    have hk:(Ew .i64 (pos:Int)&&Ew .i32 (((Utf8.decode t pos).1:Nat):Int))=true:=by
     rw [A9h (by omega) (by omega),Aqj (by omega) (by omega)];rfl
    have hbu:O5 (t.get! pos)=true:=Ad6 (by omega)
    rw [hk,cond_true,Ad6 h1,hbu,decide_eq_true (show (pos:Int)≥0 by omega)]
    rfl
  ·have hb:Nat.ble (pos+1) t.size=false:=by
    cases h:Nat.ble (pos+1) t.size with
    | false=>rfl
    | true=>rw [Nat.ble_eq] at h;omega
   rw [hb,cond_false,List.drop_eq_nil_of_le (by rw [Km];omega)]
   rfl
theorem A9i {t:ByteArray} (h64:(t.size:Int)≤Au .i64):(Xn t).sat (fun y=>y=(Gp t,())):=by
 unfold Xn Gp
 have hk:Ew .i64 (t.size:Int)=true:=A9h (by omega) (by simp only [Au] at h64;exact h64)
 rw [hk]
 simp only [cond_true]
 by_cases h1:1≤t.size
 ·rw [decide_eq_true (show (t.size:Int)≥1 by omega)]
  by_cases h2:t.size≤20
  ·rw [decide_eq_true (show (t.size:Int)≤20 by omega),decide_eq_true (show 1≤t.size∧t.size≤20 from ⟨h1,h2⟩),cond_true,cond_true,Ad7 h2 21 0 (by omega) (by omega)]
   exact rfl
  ·rw [decide_eq_false (show ¬ (t.size:Int)≤20 by omega),decide_eq_false (show ¬ (1≤t.size∧t.size≤20) from fun h=>h2 h.2)]
   exact rfl
 ·rw [decide_eq_false (show ¬ (t.size:Int)≥1 by omega),decide_eq_false (show ¬ (1≤t.size∧t.size≤20) from fun h=>h1 h.1)]
  exact rfl
end St
end V
end Go.Proofs.YtlangijnealfjaaGreat
namespace Go.Proofs.YtlangijnealfjaaGreat
open Go.RowKit
namespace V
namespace St
abbrev Xo:PureT:=B9 [.s] [.b] (fun x=>decide ((x.1.size:Int)≤Au .i64)) (fun x=>(Gp x.1,()))
theorem Aik:A5 Tryz.prog 174 Xo:=Bb Aij 12 (fun x=>Xn x.1) (fun x=>A9g x.1) fun x hok _=>A9i (of_decide_eq_true hok)
def A44:Lay:={ keys:=[0,3],ks:=[.d .s,.d cI],bs:=[],n:=41,nx:=1000,marks:=[] }
def At4:Lay:={ keys:=[],ks:=[],bs:=[],n:=41,nx:=1000,marks:=[] }
def Aql:Lay:={ keys:=[2],ks:=[.d .b],bs:=[],n:=41,nx:=1000,marks:=[] }
def A45:XE→Lay:=fun e=>match e with | .ret=>Aql | _=>At4
def Vr (t:ByteArray) (i:Int):A44.T:=((t,i,()),())
def Rc:A4 A45:=⟨.ret,((false,()),())⟩
def A0d:A4 A45:=⟨.exit 0,((),())⟩
abbrev TNm:=Tree (A44.T⊕A4 A45)
def byI (t:ByteArray) (i:Int):Int:=((((t.data.toList.getD (Int.toNat i) 0).toNat:Nat)):Int)
def inI (t:ByteArray) (i:Int) (k:TNm):TNm:=bif decide (0≤i∧i<(t.size:Int)) then k else .fail
def A46 (t:ByteArray) (i:Int):TNm:=inI t i (bif decide (byI t i≥48) then inI t i (bif !decide (byI t i≤57) then .leaf (.inr Rc) else .leaf (.inl (Vr t (W64 (i+1))))) else .leaf (.inr Rc))
def Re (t:ByteArray) (i:Int):TNm :=
 bif Ew .i64 (t.size:Int) then bif decide (i<(t.size:Int)) then
  inI t i (bif decide (byI t i≥97) then inI t i (bif decide (byI t i≤122) then .leaf (.inl (Vr t (W64 (i+1)))) else A46 t i) else A46 t i)
 else .leaf (.inr A0d) else .fail
def Vs (g:A44.T):TNm:=Re g.1.1 g.1.2.1
def Ad8 (g:A44.T):Nat:=(Cg g.1.1).length+1
noncomputable def Aqm:Ctx:=ctx Tryz.prog [] []
theorem Ad9:CtxOk Aqm:=Aj Ak puOk_nil A2
def Ada (t:ByteArray):Option (A4 A45):=iter Vs ((Cg t).length+1) (Vr t 0)
def Anl (t:ByteArray):TBo:=bif Ew .i64 (t.size:Int) then bif decide ((t.size:Int)<1) then .leaf (false,()) else bif Ew .i64 (t.size:Int) then bif decide ((t.size:Int)>20) then .leaf (false,()) else
 bif isE .ret (Ada t) then .leaf ((Dd .ret (Ada t)).1.1,()) else bif isE (.exit 0) (Ada t) then .leaf (true,()) else .fail else .fail else .fail
theorem Anm {t:ByteArray} {i:Nat} (h:i<(Cg t).length):byI t (i:Int)=((((Cg t)[i]).toNat:Nat):Int):=by
 unfold byI
 rw [show Int.toNat (i:Int)=i by omega]
 show ((((Cg t).getD i 0).toNat:Nat):Int)=_
 rw [List.getD_eq_getElem?_getD,List.getElem?_eq_getElem h]
 rfl
theorem Aim {t:ByteArray} (h64:(t.size:Int)≤Au .i64):Ada t=some (bif (Cg t).any O5 then Rc else A0d):=by
 have h64':(t.size:Int)≤9223372036854775807:=h64
 have hlen:=Km t
 unfold Ada
 have key:=De (st:=Vs) (Cg t) (fun i (_:Unit)=>Vr t (i:Int)) (fun _ b _=>bif O5 b then some (.inr Rc) else some (.inl ())) (fun _=>some A0d) (fun _ _=>True)
  (fun i s hi _=>by
   have hI:decide (0≤(i:Int)∧(i:Int)<(t.size:Int))=true:=decide_eq_true (by omega)
   have hrun:(Vs (Vr t (i:Int))).run=some (bif O5 (Cg t)[i] then .inr Rc else .inl (Vr t ((i+1:Nat):Int))):=by
    show (Re t (i:Int)).run=_
    unfold Re A46 inI O5 A0c
    rw [A9h (by omega) h64',decide_eq_true (show (i:Int)<(t.size:Int) by omega),hI,Anm hi,C6 (n:=(i:Int)+1) (by omega) (by omega)]
    generalize ((((Cg t)[i]).toNat:Nat):Int)=b
    by_cases h1:b<97
    ·rw [decide_eq_true h1,decide_eq_false (show ¬ b≥97 by omega)]
     by_cases h2:b<48
     ·rw [decide_eq_true h2,decide_eq_false (show ¬ b≥48 by omega)];simp;rfl
     ·rw [decide_eq_false h2,decide_eq_true (show b≥48 by omega)]
      by_cases h3:b>57
      ·rw [decide_eq_true h3,decide_eq_false (show ¬ b≤57 by omega)];simp;rfl
      ·rw [decide_eq_false h3,decide_eq_true (show b≤57 by omega)];simp;rfl
    ·rw [decide_eq_false h1,decide_eq_true (show b≥97 by omega)]
     by_cases h2:b>122
     ·rw [decide_eq_true h2,decide_eq_false (show ¬ b≤122 by omega),decide_eq_false (show ¬ b<48 by omega),decide_eq_true (show b≥48 by omega),decide_eq_true (show b>57 by omega),decide_eq_false (show ¬ b≤57 by omega)];simp;rfl
     ·rw [decide_eq_false h2,decide_eq_true (show b≤122 by omega)];simp;rfl
   cases hb:O5 (Cg t)[i] with
   | true =>
    rw [hb] at hrun
    simp only [cond_true]
    exact hrun
   | false =>
    rw [hb] at hrun
    simp only [cond_false]
    exact ⟨hrun,trivial⟩)
  (fun s e _ he=>by
   cases he
   show (Re t (((Cg t).length:Nat):Int)).run=_
   unfold Re
   rw [A9h (by omega) h64',decide_eq_false (show ¬ (((Cg t).length:Nat):Int)<(t.size:Int) by omega)]
   rfl)
  (Cg t).length 0 () (bif (Cg t).any O5 then Rc else A0d) ((Cg t).length+1) (by omega) (by omega) trivial (by rw [List.drop_zero];exact Nx O5 (fun _=>Rc) A0d _ 0)
 exact key
theorem Ain {t:ByteArray} (h64:(t.size:Int)≤Au .i64):(Anl t).sat (fun y=>y=(Gp t,())):=by
 unfold Anl Gp
 rw [A9h (by omega) (show (t.size:Int)≤9223372036854775807 from h64),Aim h64]
 simp only [cond_true]
 by_cases h1:1≤t.size
 ·rw [decide_eq_false (show ¬ (t.size:Int)<1 by omega)]
  by_cases h2:t.size≤20
  ·rw [decide_eq_false (show ¬ (t.size:Int)>20 by omega),decide_eq_true (show 1≤t.size∧t.size≤20 from ⟨h1,h2⟩)]
   cases (Cg t).any O5 <;> exact rfl
  ·rw [decide_eq_true (show (t.size:Int)>20 by omega),decide_eq_false (show ¬ (1≤t.size∧t.size≤20) from fun h=>h2 h.2)]
   exact rfl
 ·rw [decide_eq_true (show (t.size:Int)<1 by omega),decide_eq_false (show ¬ (1≤t.size∧t.size≤20) from fun h=>h1 h.1)]
  exact rfl
end St
end V
end Go.Proofs.YtlangijnealfjaaGreat
namespace Go.Proofs.YtlangijnealfjaaGreat
open Go.RowKit
namespace V
namespace St
theorem is_Touch:FnIs Tryz.prog (15,Tryz.f15):=⟨Tryz.func15,by kernel_rfl,by kernel_rfl⟩
theorem is_tCD:FnIs Tryz.prog (43,Tryz.f43):=⟨Tryz.func43,by kernel_rfl,by kernel_rfl⟩
theorem is_tsq:FnIs Tryz.prog (54,Tryz.f54):=⟨Tryz.func54,by kernel_rfl,by kernel_rfl⟩
theorem is_cmp64:FnIs Tryz.prog (53,Tryz.f53):=⟨Tryz.func53,by kernel_rfl,by kernel_rfl⟩
theorem is_nan64:FnIs Tryz.prog (111,Tryz.f111):=⟨Tryz.func111,by kernel_rfl,by kernel_rfl⟩
theorem is_lapart:FnIs Tryz.prog (181,Tryz.f181):=⟨Tryz.func181,by kernel_rfl,by kernel_rfl⟩
def Aip (x y:Int):Int:=bif decide (x<y) then -1 else bif decide (x>y) then 1 else 0
def cdE (a:TCT A1):Int:=Jt a.1.1 a.1.2.1 a.2.1
def sqD (a b:TCT A1):Int:=W64 (W64 (W64 (b.1.1-a.1.1)*W64 (b.1.1-a.1.1))+W64 (W64 (b.1.2.1-a.1.2.1)*W64 (b.1.2.1-a.1.2.1)))
def srD (a b:TCT A1):Int:=W64 (W64 (a.2.1+b.2.1)*W64 (a.2.1+b.2.1))
def Jp (a b:TCT A1):Int:=bif cdE a==0&&cdE b==0 then Aip (sqD a b) (srD a b) else 0
def Ann (a b:TCT A1):Int:=bif cdE a==0&&cdE b==0 then 0 else 2
abbrev Qk:PureT:=B9 [A1,A1] [cI,cI] (fun _=>true) (fun x=>(Jp x.1 x.2.1,Ann x.1 x.2.1,()))
abbrev TTo:=Tree (TCTs [cI,cI])
def Am5 (x y:Int):TTo:=bif x != x then bif y != y then .leaf (0,0,()) else .leaf (-1,0,()) else bif y != y then .leaf (1,0,()) else bif decide (x<y) then .leaf (-1,0,()) else bif decide (x>y) then .leaf (1,0,()) else .leaf (0,0,())
def Y0 (a b:TCT A1):TTo:=bif cdE a != 0 then .leaf (0,2,()) else bif cdE b != 0 then .leaf (0,2,()) else Am5 (sqD a b) (srD a b)
theorem A47 (a b:TCT A1):(Y0 a b).sat (fun y=>y=(Jp a b,Ann a b,())):=by
 unfold Y0 Jp Ann Am5 Aip
 rw [bne_self_eq_false,bne_self_eq_false]
 have e:∀ n:Int,(n != 0)=!(n==0):=fun _=>rfl
 rw [e,e]
 cases cdE a==0 <;> cases cdE b==0 <;> try exact rfl
 cases decide (sqD a b<srD a b) <;> cases decide (sqD a b>srD a b) <;> exact rfl
theorem Y1:A5 Tryz.prog 15 Qk:=Bb (Aj Ak (puOk_cons is_tCD.plain Jv puOk_nil) (A0 is_Touch (A0 is_tsq (A0 is_cmp64 (A0 is_nan64 A2))))) 5 (fun x=>Y0 x.1 x.2.1) (fun x=>by kernel_rfl) fun x _ _=>A47 _ _
def plAp:List (Nat×PureT):=[(15,Qk),(120,s_inR)]
theorem puAp:Ca Tryz.prog plAp:=puOk_cons is_Touch.plain Y1 (puOk_cons is_between2.plain q_between2 puOk_nil)
noncomputable def A6i:Code:=(Ai (bodyOf Tryz.f181)).getD 0 .skip
noncomputable def A6j:Code:=(Ai (bodyOf Tryz.f181)).getD 1 .skip
abbrev kD3:List SK:=[.d cI,.d cI,.d cI]
def d3 (d:SKTs kD3):TCT A1:=((d.1,d.2.1,()),d.2.2.1,())
def Aqn (d:TCT A1):TCT A1:=((d.1.1,d.1.2.1,()),d.2.1,())
def toD (d:TCT A1):SKTs kD3:=(d.1.1,d.1.2.1,d.2.1,())
def Ux:Lay:={ keys:=[1,2,6,11,12,13,46,47,48],ks:=[.d (.sl A1),.p 0 0 0 0,.p 1000 0 0 0,.d (.sl A1),.d cI,.d cI,.d (.sl A1),.d cI,.d cI],bs:=[(0,33,kLw),(1000,30,kD3)],n:=62,nx:=2000,marks:=[] }
def Aqo:Lay:={ keys:=[1,2,11,12,13],ks:=[.d (.sl A1),.p 0 0 0 0,.d (.sl A1),.d cI,.d cI],bs:=[(0,33,kLw)],n:=62,nx:=2000,marks:=[] }
def Am6:Lay:={ keys:=[4],ks:=[.d .b],bs:=[],n:=62,nx:=2000,marks:=[] }
def Rf:XE→Lay:=fun e=>match e with | .ret=>Am6 | _=>Aqo
def Rh:Lay:={ keys:=[1,2,11,12,13],ks:=[.d (.sl A1),.p 0 0 0 0,.d (.sl A1),.d cI,.d cI],bs:=[(0,33,kLw)],n:=62,nx:=1000,marks:=[] }
def At7:Lay:={ keys:=[],ks:=[],bs:=[],n:=62,nx:=2000,marks:=[] }
def A0e:XE→Lay:=fun e=>match e with | .ret=>Am6 | _=>At7
def Ri (x:SKTs kLw) (d:SKTs kD3) (p q:List (TCT A1)) (n i:Int) (r:List (TCT A1)) (m k:Int):Ux.T:=((p,(),(),q,n,i,r,m,k,()),(x,d,()))
def Pb:A4 Rf:=⟨.ret,((false,()),())⟩
def Pd (x:SKTs kLw) (p q:List (TCT A1)) (n i:Int):A4 Rf:=⟨.exit 2,((p,(),q,n,i,()),(x,()))⟩
def Rj (g:Ux.T):Tree (Ux.T⊕A4 Rf) :=
 bif decide (g.1.2.2.2.2.2.2.2.2.1<g.1.2.2.2.2.2.2.2.1) then bif decide (0≤g.1.2.2.2.2.2.2.2.2.1∧g.1.2.2.2.2.2.2.2.2.1<((g.1.2.2.2.2.2.2.1:List (TCT A1)).length:Int)) then
  bif decide (Jp (d3 g.2.2.1) (Aqn (Ar g.1.2.2.2.2.2.2.1 (Int.toNat g.1.2.2.2.2.2.2.2.2.1) (Ap A1)))<0) then .leaf (.inr Pb) else .leaf (.inl (Ri g.2.1 g.2.2.1 g.1.1 g.1.2.2.2.1 g.1.2.2.2.2.1 g.1.2.2.2.2.2.1 g.1.2.2.2.2.2.2.1 g.1.2.2.2.2.2.2.2.1 (W64 (g.1.2.2.2.2.2.2.2.2.1+1))))
 else .fail else .leaf (.inr (Pd g.2.1 g.1.1 g.1.2.2.2.1 g.1.2.2.2.2.1 g.1.2.2.2.2.2.1))
def Adb (g:Ux.T):Nat:=(g.1.2.2.2.2.2.2.1:List (TCT A1)).length+1
noncomputable def A0f:Ctx:=ctx Tryz.prog plAp []
theorem A0g:CtxOk A0f:=Aj Ak puAp A2
theorem At8:As Tryz.prog 181 A6j (Aq Ux Rf (Da [.ret,.exit 2] Rj Adb)):=C0 A0g 7 _ Ux Rf (fun e=>by cases e <;> exact Nat.le_refl _) [.ret,.exit 2] Rj Adb (fun g=>by kernel_rfl)
def Ii {α:Type} (ok:Nat→α→Bool):Nat→List α→Bool
 | _,[]=>true
 | i,x::l=>ok i x&&Ii ok (i+1) l
theorem Rk {α E:Type} (ok:Nat→α→Bool) (r d:E):∀ (l:List α) (i:Nat),Mh (fun i x (_:Unit)=>bif ok i x then some (.inl ()) else some (.inr r)) (fun _=>some d) i l ()=some (bif Ii ok i l then d else r)
 | [],i=>rfl
 | x::l,i=>by
  simp only [Mh,Ii]
  cases ok i x with
  | true=>simp only [cond_true,Bool.true_and];exact Rk ok r d l (i+1)
  | false=>rfl
def touB (d o:TCT A1):Bool:=decide (Jp d o<0)
theorem Aiq (x:SKTs kLw) (d:TCT A1) (p q:List (TCT A1)) (n i:Int) (r:List (TCT A1)) (hr:(r.length:Int)≤Au .i64) :
  iter Rj (r.length+1) (Ri x (toD d) p q n i r r.length 0)=some (bif r.any (touB d) then Pb else Pd x p q n i):=by
 have hr':(r.length:Int)≤9223372036854775807:=hr
 have key:=De (st:=Rj) r (fun k (_:Unit)=>Ri x (toD d) p q n i r r.length (k:Int)) (fun _ o _=>bif touB d o then some (.inr Pb) else some (.inl ())) (fun _=>some (Pd x p q n i)) (fun _ _=>True)
  (fun k s hk _=>by
   have hrun:(Rj (Ri x (toD d) p q n i r r.length (k:Int))).run=some (bif touB d r[k] then .inr Pb else .inl (Ri x (toD d) p q n i r r.length ((k+1:Nat):Int))):=by
    show (bif decide ((k:Int)<(r.length:Int)) then bif decide (0≤(k:Int)∧(k:Int)<(r.length:Int)) then bif touB d (Aqn (Ar r (Int.toNat (k:Int)) (Ap A1))) then Tree.leaf (Sum.inr Pb) else .leaf (.inl (Ri x (toD d) p q n i r r.length (W64 ((k:Int)+1)))) else .fail else .leaf (.inr (Pd x p q n i)):Tree (Ux.T⊕A4 Rf)).run=_
    rw [decide_eq_true (show (k:Int)<(r.length:Int) by omega),decide_eq_true (show 0≤(k:Int)∧(k:Int)<(r.length:Int) by omega),show Int.toNat (k:Int)=k by omega,Cl hk,C6 (n:=(k:Int)+1) (by omega) (by omega)]
    show (bif touB d r[k] then _ else _:Tree (Ux.T⊕A4 Rf)).run=_
    cases touB d r[k] <;> rfl
   cases hb:touB d r[k] with
   | true=>rw [hb] at hrun;simp only [cond_true];exact hrun
   | false=>rw [hb] at hrun;simp only [cond_false];exact ⟨hrun,trivial⟩)
  (fun s e _ he=>by
   cases he
   show (bif decide ((r.length:Int)<(r.length:Int)) then _ else Tree.leaf (Sum.inr (Pd x p q n i)):Tree (Ux.T⊕A4 Rf)).run=_
   rw [decide_eq_false (show ¬ (r.length:Int)<(r.length:Int) by omega)]
   rfl)
  r.length 0 () (bif r.any (touB d) then Pb else Pd x p q n i) (r.length+1) (by omega) (by omega) trivial (by rw [List.drop_zero];exact Nx (touB d) (fun _=>Pb) (Pd x p q n i) _ 0)
 exact key
end St
end V
end Go.Proofs.YtlangijnealfjaaGreat
namespace Go.Proofs.YtlangijnealfjaaGreat
open Go.RowKit
namespace V
namespace St
def Vt (x:SKTs kLw) (p q:List (TCT A1)) (n i:Int):Rh.T:=((p,(),q,n,i,()),(x,()))
def Mt (b:Bool):A4 A0e:=⟨.ret,((b,()),())⟩
def Pe:A4 A0e:=⟨.exit 0,((),())⟩
abbrev TAo:=Tree (Rh.T⊕A4 A0e)
def Aqp (x:SKTs kLw) (d:SKTs kD3) (p q:List (TCT A1)) (n i:Int) (r:List (TCT A1)):Option (A4 Rf):=iter Rj (r.length+1) (Ri x d p q n i r r.length 0)
def Aqq (r:Aqo.T):Rh.T:=Vt r.2.1 r.1.1 r.1.2.2.1 r.1.2.2.2.1 (W64 (r.1.2.2.2.2.1+1))
def Aqr (y:Option (A4 Rf)):TAo:=bif isE .ret y then .leaf (.inr (Mt (Dd .ret y).1.1)) else bif isE (.exit 2) y then .leaf (.inl (Aqq (Dd (.exit 2) y))) else .fail
def Adc (x:SKTs kLw) (p q:List (TCT A1)) (n i:Int) (d:TCT A1):TAo :=
 bif !inR d.1.1 d.2.1 (W64 (x.2.1-d.2.1)) then .leaf (.inr (Mt false)) else bif !inR d.1.2.1 d.2.1 (W64 (x.2.2.1-d.2.1)) then .leaf (.inr (Mt false)) else
 bif decide (0≤i∧i≤(p.length:Int)) then Aqr (Aqp x (toD d) p q n i (p.take (Int.toNat i))) else .fail
def Rl (g:Rh.T):TAo :=
 bif decide (g.1.2.2.2.2.1<g.1.2.2.2.1) then bif decide (0≤g.1.2.2.2.2.1∧g.1.2.2.2.2.1<((g.1.2.2.1:List (TCT A1)).length:Int)) then
  Adc g.2.1 g.1.1 g.1.2.2.1 g.1.2.2.2.1 g.1.2.2.2.2.1 (Ar g.1.2.2.1 (Int.toNat g.1.2.2.2.2.1) (Ap A1)) else .fail else .leaf (.inr Pe)
def Add (g:Rh.T):Nat:=(g.1.2.2.1:List (TCT A1)).length+1
def Am7:Je:=fun k=>bif Nat.beq k 7 then some (Aq Ux Rf (Da [.ret,.exit 2] Rj Adb)) else none
theorem At9 (g:Rh.T):evC A0f.P (D7 A0f 7) A0f.pures 181 A0f.u Am7 A6i (Rh.of g) (Fh Rh A0e)=Rl g:=by kernel_rfl
theorem Ade:Ai A6i=[A6j]:=by kernel_rfl
theorem Adf:keyOf A6j=7:=by kernel_rfl
theorem Ata:As Tryz.prog 181 A6i (Aq Rh A0e (Da [.ret,.exit 0] Rl Add)) :=
 Us A0g 7 _ Am7 (fun d hd f hf=>by
  rw [Ade,List.mem_singleton] at hd
  subst hd
  rw [Adf] at hf
  cases hf
  exact At8) Rh A0e (fun e=>by cases e <;> exact (by decide:(1000:Nat)≤2000)) [.ret,.exit 0] Rl Add At9
theorem Rm {P:Program} {f:Nat} {fn:Func} {la:Code} {sum:St→Tree (XE×St)} {k:Nat} (h1:∀ d ∈ Ai (bodyOf fn),keyOf d=k→d=la) (h2:As P f la sum) :
  ∀ p ∈ [(f,fn)],∀ d ∈ Ai (bodyOf p.2),∀ g,C4 [((f,k),sum)] p.1 (keyOf d)=some g→As P p.1 d g:=by
 intro p hp d hd g hg
 simp only [List.mem_singleton] at hp
 subst hp
 simp only at hd hg
 by_cases hk:keyOf d=k
 ·rw [h1 d hd hk]
  rw [hk] at hg
  simp [C4] at hg
  subst hg
  exact h2
 ·have:Nat.beq k (keyOf d)=false:=by
   cases h:Nat.beq k (keyOf d) with
   | false=>rfl
   | true=>exact absurd (Nat.eq_of_beq_eq_true h).symm hk
  simp only [C4,this,Bool.and_false,cond_false] at hg
  cases hg
theorem Adg:Ai (bodyOf Tryz.f181)=[A6i,A6j]:=by kernel_rfl
noncomputable def Atb:Ctx:=Fu Tryz.prog plAp [(181,Tryz.f181)] [((181,2),Aq Rh A0e (Da [.ret,.exit 0] Rl Add))]
theorem Air:CtxOk Atb:=Bt Ak puAp (A0 is_lapart A2) (Rm (fun d hd hk=>by
 rw [Adg,List.mem_cons,List.mem_singleton] at hd
 rcases hd with rfl | rfl
 ·rfl
 ·rw [Adf] at hk;cases hk) Ata)
def Lu (w l:Int) (d:TCT A1):Bool:=inR d.1.1 d.2.1 (W64 (w-d.2.1))&&inR d.1.2.1 d.2.1 (W64 (l-d.2.1))
def apF (w l:Int) (p:List (TCT A1)):Bool:=Ii (fun i d=>Lu w l d&&!(p.take i).any (touB d)) 0 p
def Adh (l:TCT Ao) (p:List (TCT A1)):Option (A4 A0e):=iter Rl (p.length+1) (Vt (C3 l) p p p.length 0)
def Ano (l:TCT Ao) (p:List (TCT A1)):TBo:=bif isE .ret (Adh l p) then .leaf ((Dd .ret (Adh l p)).1.1,()) else bif isE (.exit 0) (Adh l p) then .leaf (true,()) else .fail
theorem Ais (l:TCT Ao) (p:List (TCT A1)) (hp:(p.length:Int)≤Au .i64):Adh l p=some (bif apF l.2.1 l.2.2.1 p then Pe else Mt false):=by
 have hp':(p.length:Int)≤9223372036854775807:=hp
 unfold Adh
 have key:=De (st:=Rl) p (fun i (_:Unit)=>Vt (C3 l) p p p.length (i:Int)) (fun i d _=>bif Lu l.2.1 l.2.2.1 d&&!(p.take i).any (touB d) then some (.inl ()) else some (.inr (Mt false))) (fun _=>some Pe) (fun _ _=>True)
  (fun i s hi _=>by
   have hrun:(Rl (Vt (C3 l) p p p.length (i:Int))).run=some (bif Lu l.2.1 l.2.2.1 p[i]&&!(p.take i).any (touB p[i]) then .inl (Vt (C3 l) p p p.length ((i+1:Nat):Int)) else .inr (Mt false)):=by
    show (bif decide ((i:Int)<(p.length:Int)) then bif decide (0≤(i:Int)∧(i:Int)<(p.length:Int)) then Adc (C3 l) p p p.length (i:Int) (Ar p (Int.toNat (i:Int)) (Ap A1)) else .fail else .leaf (.inr Pe):TAo).run=_
    rw [decide_eq_true (show (i:Int)<(p.length:Int) by omega),decide_eq_true (show 0≤(i:Int)∧(i:Int)<(p.length:Int) by omega),show Int.toNat (i:Int)=i by omega,Cl hi]
    simp only [cond_true]
    unfold Adc Lu
    have hw:(C3 l).2.1=l.2.1:=rfl
    have hl:(C3 l).2.2.1=l.2.2.1:=rfl
    rw [hw,hl]
    cases inR p[i].1.1 p[i].2.1 (W64 (l.2.1-p[i].2.1)) with
    | false=>rfl
    | true =>
     cases inR p[i].1.2.1 p[i].2.1 (W64 (l.2.2.1-p[i].2.1)) with
     | false=>rfl
     | true =>
      simp only [Bool.not_true,cond_false,Bool.true_and]
      have ht:(p.take i).length=i:=by rw [List.length_take];omega
      have hy:Aqp (C3 l) (toD p[i]) p p p.length (i:Int) (p.take i)=some (bif (p.take i).any (touB p[i]) then Pb else Pd (C3 l) p p p.length (i:Int)) :=
       Aiq (C3 l) p[i] p p p.length (i:Int) (p.take i) (by rw [ht];show (i:Int)≤9223372036854775807;omega)
      rw [decide_eq_true (show 0≤(i:Int)∧(i:Int)≤(p.length:Int) by omega),cond_true,show Int.toNat (i:Int)=i by omega,hy]
      cases (p.take i).any (touB p[i]) with
      | true=>rfl
      | false =>
       show (Tree.leaf (Sum.inl (Vt (C3 l) p p p.length (W64 ((i:Int)+1)))):TAo).run=_
       rw [C6 (n:=(i:Int)+1) (by omega) (by omega)]
       rfl
   cases hb:Lu l.2.1 l.2.2.1 p[i]&&!(p.take i).any (touB p[i]) with
   | true=>rw [hb] at hrun;simp only [cond_true];exact ⟨hrun,trivial⟩
   | false=>rw [hb] at hrun;simp only [cond_false];exact hrun)
  (fun s e _ he=>by
   cases he
   show (bif decide ((p.length:Int)<(p.length:Int)) then _ else Tree.leaf (Sum.inr Pe):TAo).run=_
   rw [decide_eq_false (show ¬ (p.length:Int)<(p.length:Int) by omega)]
   rfl)
  p.length 0 () (bif apF l.2.1 l.2.2.1 p then Pe else Mt false) (p.length+1) (by omega) (by omega) trivial (by
   rw [List.drop_zero]
   exact Rk (fun i d=>Lu l.2.1 l.2.2.1 d&&!(p.take i).any (touB d)) (Mt false) Pe p 0)
 exact key
abbrev A6k:PureT:=B9 [Ao,.sl A1] [.b] (fun _=>true) (fun x=>(apF x.1.2.1 x.1.2.2.1 x.2.1,()))
theorem Ait:A5 Tryz.prog 181 A6k:=Bb Air 7 (fun x=>Ano x.1 x.2.1) (fun x=>by kernel_rfl) fun x _ hw=>by
 show (Ano x.1 x.2.1).sat _
 unfold Ano
 rw [Ais x.1 x.2.1 (E9 hw.2.1)]
 show ((bif isE .ret (some (bif apF x.1.2.1 x.1.2.2.1 x.2.1 then Pe else Mt false)) then _ else _:TBo)).sat (fun y=>y=(apF x.1.2.1 x.1.2.2.1 x.2.1,()))
 cases apF x.1.2.1 x.1.2.2.1 x.2.1 <;> exact rfl
end St
end V
end Go.Proofs.YtlangijnealfjaaGreat
namespace Go.Proofs.YtlangijnealfjaaGreat
open Go.RowKit
namespace V
namespace St
theorem is_lCheck:FnIs Tryz.prog (105,Tryz.f105):=⟨Tryz.func105,by kernel_rfl,by kernel_rfl⟩
def nxL (l:TCT Ao):Int:=l.2.2.2.2.2.2.1
def nyL (l:TCT Ao):Int:=l.2.2.2.2.2.2.2.1
def Df (l:TCT Ao):List (TCT D1):=l.2.2.2.2.2.2.2.2.1
def Lf (l:TCT Ao):Bool:=decide (((An l).length:Int)<1)||(decide (((An l).length:Int)>12)||decide (((Df l).length:Int)>256))
def A9j (l:TCT Ao):Bool:=Gp l.1&&(inR l.2.1 65536 4194304&&(inR l.2.2.1 65536 4194304&&inR l.2.2.2.1 0 (W64 (Int.tdiv (min l.2.1 l.2.2.1) 4))))
def A9k (l:TCT Ao):Bool:=!decide (nxL l<1)&&(!decide (nxL l>16)&&(!decide (nyL l<1)&&(!decide (nyL l>16)&&!(((Df l).length:Int)!=W64 (nxL l*nyL l)))))
def okL (l:TCT Ao):Bool:=A9j l&&(inR (Hx l).2.1 1 8192&&(A9k l&&((An l).all Ee&&((Df l).all Et&&apF l.2.1 l.2.2.1 (B0 l)))))
def D2 (l:TCT Ao):Int:=bif Lf l then 6 else bif okL l then 0 else 2
abbrev Pf:PureT:=B9 [Ao] [cI] (fun x=>decide ((x.1.1.size:Int)≤Au .i64)) (fun x=>(D2 x.1,()))
def plLc:List (Nat×PureT):=[(174,Xo),(120,s_inR),(52,Ih),(181,A6k),(175,Zw),(178,A01)]
theorem puLc:Ca Tryz.prog plLc:=puOk_cons is_vname.plain Aik (puOk_cons is_between2.plain q_between2 (puOk_cons is_lposts.plain Xk (puOk_cons is_lapart.plain Ait (puOk_cons is_cfHoop.plain Aci (puOk_cons is_cfCell.plain Acn puOk_nil)))))
abbrev TEr:=Tree (TCTs [cI])
def er (c:Bool) (e:Int) (k:TEr):TEr:=bif c then .leaf (e,()) else k
theorem Jc {a b:Bool} {e:Int} {k:TEr}:er (a||b) e k=er a e (er b e k):=by cases a <;> cases b <;> rfl
def Anp (l:TCT Ao):TEr :=
 er (decide (((An l).length:Int)<1)) 6 (er (decide (((An l).length:Int)>12)) 6 (er (decide (((Df l).length:Int)>256)) 6 (
 bif decide ((l.1.size:Int)≤Au .i64) then er (!Gp l.1) 2 (er (!inR l.2.1 65536 4194304) 2 (er (!inR l.2.2.1 65536 4194304) 2 (er (!inR l.2.2.2.1 0 (W64 (Int.tdiv (min l.2.1 l.2.2.1) 4))) 2 (er (!inR (Hx l).2.1 1 8192) 2 (
  er (decide (nxL l<1)) 2 (er (decide (nxL l>16)) 2 (er (decide (nyL l<1)) 2 (er (decide (nyL l>16)) 2 (er (((Df l).length:Int)!=W64 (nxL l*nyL l)) 2 (
  er ((An l).any (Co ())) 2 (er ((Df l).any (Cp ())) 2 (
  bif decide ((An l).length≤1000) then er (!apF l.2.1 l.2.2.1 (B0 l)) 2 (.leaf (0,())) else .fail))))))))))))
 else .fail)))
theorem Kn {α:Type} (p:α→Bool) (l:List α):l.any (fun x=>!p x)=!l.all p:=by
 induction l with
 | nil=>rfl
 | cons x l ih=>simp only [List.any_cons,List.all_cons,ih,Bool.not_and]
theorem Aiu {l:TCT Ao} (hs:(l.1.size:Int)≤Au .i64):(Anp l).sat (fun y=>y=(D2 l,())):=by
 unfold Anp D2
 rw [← Jc,← Jc,Bool.or_assoc]
 show (er (Lf l) 6 _).sat _
 cases hm:Lf l with
 | true=>exact rfl
 | false =>
  have h12:(An l).length≤1000:=by
   unfold Lf at hm
   simp only [Bool.or_eq_false_iff,decide_eq_false_iff_not] at hm
   omega
  rw [decide_eq_true hs,decide_eq_true h12]
  show (er (!Gp l.1) 2 _).sat (fun y=>y=((bif okL l then 0 else 2),()))
  have hh:(An l).any (Co ())=!(An l).all Ee:=Kn Ee _
  have hc:(Df l).any (Cp ())=!(Df l).all Et:=Kn Et _
  rw [hh,hc]
  unfold okL A9j A9k
  simp only [cond_true]
  generalize Gp l.1=b1
  generalize inR l.2.1 65536 4194304=b2
  generalize inR l.2.2.1 65536 4194304=b3
  generalize inR l.2.2.2.1 0 (W64 (Int.tdiv (min l.2.1 l.2.2.1) 4))=b4
  generalize inR (Hx l).2.1 1 8192=b5
  generalize decide (nxL l<1)=b6
  generalize decide (nxL l>16)=b7
  generalize decide (nyL l<1)=b8
  generalize decide (nyL l>16)=b9
  generalize (((Df l).length:Int)!=W64 (nxL l*nyL l))=b10
  generalize (An l).all Ee=b11
  generalize (Df l).all Et=b12
  generalize apF l.2.1 l.2.2.1 (B0 l)=b13
  cases b1 <;> try exact rfl
  cases b2 <;> try exact rfl
  cases b3 <;> try exact rfl
  cases b4 <;> try exact rfl
  cases b5 <;> try exact rfl
  cases b6 <;> try exact rfl
  cases b7 <;> try exact rfl
  cases b8 <;> try exact rfl
  cases b9 <;> try exact rfl
  cases b10 <;> try exact rfl
  cases b11 <;> try exact rfl
  cases b12 <;> try exact rfl
  cases b13 <;> exact rfl
theorem Mv:A5 Tryz.prog 105 Pf:=Bb (Aj Ak puLc (A0 is_lCheck A2)) 7 (fun x=>Anp x.1) (fun x=>by kernel_rfl) fun x hok _=>Aiu (of_decide_eq_true hok)
end St
end V
end Go.Proofs.YtlangijnealfjaaGreat
namespace Go.Proofs.YtlangijnealfjaaGreat
open Go.RowKit
namespace V
namespace St
theorem Mw {G E α:Type} {st:G→Tree (G⊕E)} (l:List α) (d:α) (hd:Int→G) (bad:α→Bool) (rt ex:E) (hl:(l.length:Int)≤Au .i64)
  (h:∀ i:Int,st (hd i)=bif decide (i<(l.length:Int)) then bif decide (0≤i∧i<(l.length:Int)) then bif bad (Ar l (Int.toNat i) d) then .leaf (.inr rt) else .leaf (.inl (hd (W64 (i+1)))) else .fail else .leaf (.inr ex)) :
  iter st (l.length+1) (hd 0)=some (bif l.any bad then rt else ex):=by
 have hl':(l.length:Int)≤9223372036854775807:=hl
 have key:=De (st:=st) l (fun i (_:Unit)=>hd (i:Int)) (fun _ x _=>bif bad x then some (.inr rt) else some (.inl ())) (fun _=>some ex) (fun _ _=>True)
  (fun i s hi _=>by
   have hrun:(st (hd (i:Int))).run=some (bif bad l[i] then .inr rt else .inl (hd ((i+1:Nat):Int))):=by
    rw [h,decide_eq_true (show (i:Int)<(l.length:Int) by omega),decide_eq_true (show 0≤(i:Int)∧(i:Int)<(l.length:Int) by omega),show Int.toNat (i:Int)=i by omega,Cl hi,C6 (n:=(i:Int)+1) (by omega) (by omega)]
    cases bad l[i] <;> rfl
   cases hb:bad l[i] with
   | true=>rw [hb] at hrun;simp only [cond_true];exact hrun
   | false=>rw [hb] at hrun;simp only [cond_false];exact ⟨hrun,trivial⟩)
  (fun s e _ he=>by
   cases he
   rw [h,decide_eq_false (show ¬ (l.length:Int)<(l.length:Int) by omega)]
   rfl)
  l.length 0 () (bif l.any bad then rt else ex) (l.length+1) (by omega) (by omega) trivial (by rw [List.drop_zero];exact Nx bad (fun _=>rt) ex _ 0)
 exact key
theorem Rn {G E α:Type} {st:G→Tree (G⊕E)} (l:List α) (d:α) (hd:Int→G) (ok:Nat→α→Bool) (body:Int→α→Tree (G⊕E)) (rt ex:E) (hl:(l.length:Int)≤Au .i64)
  (h:∀ i:Int,st (hd i)=bif decide (i<(l.length:Int)) then bif decide (0≤i∧i<(l.length:Int)) then body i (Ar l (Int.toNat i) d) else .fail else .leaf (.inr ex))
  (hb:∀ (i:Nat) (hi:i<l.length),(body (i:Int) l[i]).run=some (bif ok i l[i] then .inl (hd ((i+1:Nat):Int)) else .inr rt)) :
  iter st (l.length+1) (hd 0)=some (bif Ii ok 0 l then ex else rt):=by
 have hl':(l.length:Int)≤9223372036854775807:=hl
 have key:=De (st:=st) l (fun i (_:Unit)=>hd (i:Int)) (fun i x _=>bif ok i x then some (.inl ()) else some (.inr rt)) (fun _=>some ex) (fun _ _=>True)
  (fun i s hi _=>by
   have hrun:(st (hd (i:Int))).run=some (bif ok i l[i] then .inl (hd ((i+1:Nat):Int)) else .inr rt):=by
    rw [h,decide_eq_true (show (i:Int)<(l.length:Int) by omega),decide_eq_true (show 0≤(i:Int)∧(i:Int)<(l.length:Int) by omega),show Int.toNat (i:Int)=i by omega,Cl hi]
    exact hb i hi
   cases hk:ok i l[i] with
   | true=>rw [hk] at hrun;simp only [cond_true];exact ⟨hrun,trivial⟩
   | false=>rw [hk] at hrun;simp only [cond_false];exact hrun)
  (fun s e _ he=>by
   cases he
   rw [h,decide_eq_false (show ¬ (l.length:Int)<(l.length:Int) by omega)]
   rfl)
  l.length 0 () (bif Ii ok 0 l then ex else rt) (l.length+1) (by omega) (by omega) trivial (by rw [List.drop_zero];exact Rk ok rt ex _ 0)
 exact key
def plRc:List (Nat×PureT):=[]
theorem puRc:Ca Tryz.prog plRc:=puOk_nil
abbrev bL:BK:=(0,33,kLw)
def A48:Lay:={ keys:=[1,3],ks:=[.p 0 0 0 0,.d cI],bs:=[bL],n:=224,nx:=1000,marks:=[] }
def A0j:Lay:={ keys:=[1],ks:=[.p 0 0 0 0],bs:=[bL],n:=224,nx:=1000,marks:=[] }
def Atc:Lay:={ keys:=[2],ks:=[.d cI],bs:=[],n:=224,nx:=1000,marks:=[] }
def O6:XE→Lay:=fun e=>match e with | .ret=>Atc | _=>A0j
def Adk (x:SKTs kLw) (i:Int):A48.T:=(((),i,()),(x,()))
def Vu:A4 O6:=⟨.ret,((2,()),())⟩
def Adl (x:SKTs kLw):A4 O6:=⟨.exit 0,(((),()),(x,()))⟩
def Atd (h:TCT B6):TCT B6:=(h.1,h.2.1,h.2.2.1,h.2.2.2.1,h.2.2.2.2.1,())
def hsX (x:SKTs kLw):List (TCT B6):=x.2.2.2.2.1
def csX (x:SKTs kLw):List (TCT D1):=x.2.2.2.2.2.2.2.2.2.2.1
def A6m (g:A48.T):Tree (A48.T⊕A4 O6):=bif decide (g.1.2.1<((hsX g.2.1).length:Int)) then bif decide (0≤g.1.2.1∧g.1.2.1<((hsX g.2.1).length:Int)) then
 bif !Ee (Atd (Ar (hsX g.2.1) (Int.toNat g.1.2.1) (Ap B6))) then .leaf (.inr Vu) else .leaf (.inl (Adk g.2.1 (W64 (g.1.2.1+1)))) else .fail else .leaf (.inr (Adl g.2.1))
def Adm (g:A48.T):Nat:=(hsX g.2.1).length+1
def A49:Lay:={ keys:=[1,4],ks:=[.p 0 0 0 0,.d cI],bs:=[bL],n:=224,nx:=1000,marks:=[] }
def Adn (x:SKTs kLw) (i:Int):A49.T:=(((),i,()),(x,()))
def Ado (x:SKTs kLw):A4 O6:=⟨.exit 2,(((),()),(x,()))⟩
def A6n (g:A49.T):Tree (A49.T⊕A4 O6):=bif decide (g.1.2.1<((csX g.2.1).length:Int)) then bif decide (0≤g.1.2.1∧g.1.2.1<((csX g.2.1).length:Int)) then
 bif !Et (Ar (csX g.2.1) (Int.toNat g.1.2.1) (Ap D1)) then .leaf (.inr Vu) else .leaf (.inl (Adn g.2.1 (W64 (g.1.2.1+1)))) else .fail else .leaf (.inr (Ado g.2.1))
def Adp (g:A49.T):Nat:=(csX g.2.1).length+1
end St
end V
end Go.Proofs.YtlangijnealfjaaGreat
namespace Go.Proofs.YtlangijnealfjaaGreat
open Go.RowKit
namespace V
namespace St
def A0k:Lay:={ keys:=[1,5,6,7],ks:=[.p 0 0 0 0,.d (.sl A1),.d cI,.d cI],bs:=[bL],n:=224,nx:=2000,marks:=[] }
def Aqs:Lay:={ keys:=[1,5,6],ks:=[.p 0 0 0 0,.d (.sl A1),.d cI],bs:=[bL],n:=224,nx:=2000,marks:=[] }
def Am8:Lay:={ keys:=[2],ks:=[.d cI],bs:=[],n:=224,nx:=2000,marks:=[] }
def Y2:XE→Lay:=fun e=>match e with | .ret=>Am8 | _=>Aqs
def Ro:Lay:={ keys:=[1,5,6],ks:=[.p 0 0 0 0,.d (.sl A1),.d cI],bs:=[bL],n:=224,nx:=1000,marks:=[] }
def Atg:Lay:={ keys:=[],ks:=[],bs:=[],n:=224,nx:=2000,marks:=[] }
def A0l:XE→Lay:=fun e=>match e with | .ret=>Am8 | _=>Atg
def sqR (a b:TCT A1):Int:=W64 (W64 (W64 (a.1.1-b.1.1)*W64 (a.1.1-b.1.1))+W64 (W64 (a.1.2.1-b.1.2.1)*W64 (a.1.2.1-b.1.2.1)))
def Uy (d o:TCT A1):Bool:=decide (sqR d o<srD d o)
def inP {β:Type} (p:List (TCT A1)) (i:Int) (k:Tree β):Tree β:=bif decide (0≤i∧i<(p.length:Int)) then k else .fail
theorem Eo {β:Type} {p:List (TCT A1)} {i:Int} {k:Tree β} (h:0≤i∧i<(p.length:Int)):inP p i k=k:=by unfold inP;rw [decide_eq_true h];rfl
def gD (p:List (TCT A1)) (i:Int):TCT A1:=Ar p (Int.toNat i) (Ap A1)
def A6o (x:SKTs kLw) (p:List (TCT A1)) (i k:Int):A0k.T:=(((),p,i,k,()),(x,()))
def A6p:A4 Y2:=⟨.ret,((2,()),())⟩
def A6q (x:SKTs kLw) (p:List (TCT A1)) (i:Int):A4 Y2:=⟨.exit 6,(((),p,i,()),(x,()))⟩
def A4a (x:SKTs kLw) (p:List (TCT A1)) (i k:Int):Tree (A0k.T⊕A4 Y2):=bif decide (k<i) then
 inP p i (inP p k (inP p i (inP p k (inP p i (inP p k (inP p i (inP p k (bif Uy (gD p i) (gD p k) then .leaf (.inr A6p) else .leaf (.inl (A6o x p i (W64 (k+1)))))))))))) else .leaf (.inr (A6q x p i))
def A0m (g:A0k.T):Tree (A0k.T⊕A4 Y2):=A4a g.2.1 g.1.2.1 g.1.2.2.1 g.1.2.2.2.1
def Adq (g:A0k.T):Nat:=(List.take (Int.toNat g.1.2.2.1) (g.1.2.1:List (TCT A1))).length+1
theorem Aiv (x:SKTs kLw) (p:List (TCT A1)) (i:Nat) (hi:i<p.length) (hp:(p.length:Int)≤Au .i64) :
  iter A0m ((p.take i).length+1) (A6o x p i 0)=some (bif (p.take i).any (Uy p[i]) then A6p else A6q x p i):=by
 have ht:(p.take i).length=i:=by rw [List.length_take];omega
 have hp':(p.length:Int)≤9223372036854775807:=hp
 refine Mw (p.take i) (Ap A1) (fun k=>A6o x p i k) (Uy p[i]) A6p (A6q x p i) (by rw [ht];show (i:Int)≤9223372036854775807;omega) fun k=>?_
 show A4a x p i k=_
 unfold A4a
 rw [ht]
 by_cases hk:k<(i:Int)
 ·rw [decide_eq_true hk,cond_true,cond_true]
  by_cases h0:0≤k
  ·have hki:0≤k∧k<(p.length:Int):=by omega
   have hii:0≤(i:Int)∧(i:Int)<(p.length:Int):=by omega
   have e1:gD p (i:Int)=p[i]:=by unfold gD;rw [show Int.toNat (i:Int)=i by omega,Cl hi]
   have e2:gD p k=Ar (p.take i) (Int.toNat k) (Ap A1):=by
    unfold gD
    have h1:Int.toNat k<p.length:=by omega
    have h2:Int.toNat k<(p.take i).length:=by omega
    rw [Cl h1,Cl h2,List.getElem_take]
   rw [Eo hii,Eo hki,Eo hii,Eo hki,Eo hii,Eo hki,Eo hii,Eo hki,e1,e2,decide_eq_true (show 0≤k∧k<(i:Int) by omega)]
   rfl
  ·have hii:0≤(i:Int)∧(i:Int)<(p.length:Int):=by omega
   rw [Eo hii,decide_eq_false (show ¬ (0≤k∧k<(i:Int)) by omega)]
   unfold inP
   rw [decide_eq_false (show ¬ (0≤k∧k<(p.length:Int)) by omega)]
   rfl
 ·rw [decide_eq_false hk];rfl
def A6r (x:SKTs kLw) (p:List (TCT A1)) (i:Int):Ro.T:=(((),p,i,()),(x,()))
def Vv (e:Int):A4 A0l:=⟨.ret,((e,()),())⟩
def A6s:A4 A0l:=⟨.exit 4,((),())⟩
abbrev TC3:=Tree (Ro.T⊕A4 A0l)
def Anq (x:SKTs kLw) (p:List (TCT A1)) (i:Int):Option (A4 Y2):=iter A0m ((p.take (Int.toNat i)).length+1) (A6o x p i 0)
def Aqt (r:Aqs.T):Ro.T:=A6r r.2.1 r.1.2.1 (W64 (r.1.2.2.1+1))
def Aqu (y:Option (A4 Y2)):TC3:=bif isE .ret y then .leaf (.inr (Vv (Dd .ret y).1.1)) else bif isE (.exit 6) y then .leaf (.inl (Aqt (Dd (.exit 6) y))) else .fail
def Adr (x:SKTs kLw) (p:List (TCT A1)) (i:Int) (d:TCT A1):TC3 :=
 inP p i (inP p i (bif !inR d.1.1 d.2.1 (W64 (x.2.1-d.2.1)) then .leaf (.inr (Vv 2)) else inP p i (inP p i (inP p i (bif !inR d.1.2.1 d.2.1 (W64 (x.2.2.1-d.2.1)) then .leaf (.inr (Vv 2)) else Aqu (Anq x p i))))))
def A0n (g:Ro.T):TC3:=bif decide (g.1.2.2.1<((g.1.2.1:List (TCT A1)).length:Int)) then bif decide (0≤g.1.2.2.1∧g.1.2.2.1<((g.1.2.1:List (TCT A1)).length:Int)) then Adr g.2.1 g.1.2.1 g.1.2.2.1 (gD g.1.2.1 g.1.2.2.1) else .fail else .leaf (.inr A6s)
def Ads (g:Ro.T):Nat:=(g.1.2.1:List (TCT A1)).length+1
def Am9:Je:=fun k=>bif Nat.beq k 24 then some (Aq A0k Y2 (Da [.ret,.exit 6] A0m Adq)) else none
end St
end V
end Go.Proofs.YtlangijnealfjaaGreat
namespace Go.Proofs.YtlangijnealfjaaGreat
open Go.RowKit
namespace V
namespace St
def Adx (x:SKTs kLw):Option (A4 O6):=iter A6m ((hsX x).length+1) (Adk x 0)
def Ady (x:SKTs kLw):Option (A4 O6):=iter A6n ((csX x).length+1) (Adn x 0)
def Adz (x:SKTs kLw) (p:List (TCT A1)):Option (A4 A0l):=iter A0n (p.length+1) (A6r x p 0)
def Ae0 (r:A0j.T):TEr:=bif decide ((hsX r.2.1).length≤1000) then
 bif isE .ret (Adz r.2.1 (B0 (Fo r.2.1))) then .leaf ((Dd .ret (Adz r.2.1 (B0 (Fo r.2.1)))).1.1,()) else bif isE (.exit 4) (Adz r.2.1 (B0 (Fo r.2.1))) then .leaf (0,()) else .fail else .fail
def Ae1 (r:A0j.T):TEr:=er (!inR (Hx (Fo r.2.1)).2.1 1 8192) 2 (er (!inR (Hx (Fo r.2.1)).1.1 0 4194304) 2 (er (!inR (Hx (Fo r.2.1)).1.2.1 0 4194304) 2 (
 er (decide (nxL (Fo r.2.1)<1)) 2 (er (decide (nxL (Fo r.2.1)>16)) 2 (er (decide (nyL (Fo r.2.1)<1)) 2 (er (decide (nyL (Fo r.2.1)>16)) 2 (er (((csX r.2.1).length:Int)!=W64 (nxL (Fo r.2.1)*nyL (Fo r.2.1))) 2 (
 bif isE .ret (Ady r.2.1) then .leaf ((Dd .ret (Ady r.2.1)).1.1,()) else bif isE (.exit 2) (Ady r.2.1) then Ae0 (Dd (.exit 2) (Ady r.2.1)) else .fail))))))))
def Aix (l:TCT Ao):TEr :=
 er (decide (((An l).length:Int)<1)) 6 (er (decide (((An l).length:Int)>12)) 6 (er (decide (((Df l).length:Int)>256)) 6 (
 bif decide ((l.1.size:Int)≤Au .i64) then er (!Gp l.1) 2 (er (!inR l.2.1 65536 4194304) 2 (er (!inR l.2.2.1 65536 4194304) 2 (er (!inR l.2.2.2.1 0 (W64 (Int.tdiv (min l.2.1 l.2.2.1) 4))) 2 (
  bif isE .ret (Adx (C3 l)) then .leaf ((Dd .ret (Adx (C3 l))).1.1,()) else bif isE (.exit 0) (Adx (C3 l)) then Ae1 (Dd (.exit 0) (Adx (C3 l))) else .fail))))
 else .fail)))
end St
end V
end Go.Proofs.YtlangijnealfjaaGreat
namespace Go.Proofs.YtlangijnealfjaaGreat
open Go.RowKit
namespace V
namespace St
def apR (w l:Int) (p:List (TCT A1)):Bool:=Ii (fun i d=>Lu w l d&&!(p.take i).any (Uy d)) 0 p
theorem Aiz (x:SKTs kLw) (hl:((hsX x).length:Int)≤Au .i64):Adx x=some (bif (hsX x).any (fun h=>!Ee h) then Vu else Adl x) :=
 Mw (hsX x) (Ap B6) (Adk x) (fun h=>!Ee h) Vu (Adl x) hl (fun _=>rfl)
theorem Aj0 (x:SKTs kLw) (hl:((csX x).length:Int)≤Au .i64):Ady x=some (bif (csX x).any (fun h=>!Et h) then Vu else Ado x) :=
 Mw (csX x) (Ap D1) (Adn x) (fun h=>!Et h) Vu (Ado x) hl (fun _=>rfl)
theorem Aj1 (x:SKTs kLw) (p:List (TCT A1)) (hp:(p.length:Int)≤Au .i64):Adz x p=some (bif apR x.2.1 x.2.2.1 p then A6s else Vv 2):=by
 have hp':(p.length:Int)≤9223372036854775807:=hp
 refine Rn p (Ap A1) (A6r x p) (fun i d=>Lu x.2.1 x.2.2.1 d&&!(p.take i).any (Uy d)) (Adr x p) (Vv 2) A6s hp (fun _=>rfl) fun i hi=>?_
 have hii:0≤(i:Int)∧(i:Int)<(p.length:Int):=by omega
 unfold Adr Lu
 rw [Eo hii,Eo hii,Eo hii,Eo hii,Eo hii]
 cases inR p[i].1.1 p[i].2.1 (W64 (x.2.1-p[i].2.1)) with
 | false=>rfl
 | true =>
  cases inR p[i].1.2.1 p[i].2.1 (W64 (x.2.2.1-p[i].2.1)) with
  | false=>rfl
  | true =>
   have hy:Anq x p (i:Int)=some (bif (p.take i).any (Uy p[i]) then A6p else A6q x p i):=by
    unfold Anq
    rw [show Int.toNat (i:Int)=i by omega]
    exact Aiv x p i hi hp
   simp only [Bool.not_true,cond_false,Bool.true_and]
   rw [hy]
   cases (p.take i).any (Uy p[i]) with
   | true=>rfl
   | false =>
    show (Tree.leaf (Sum.inl (A6r x p (W64 ((i:Int)+1)))):TC3).run=_
    rw [C6 (n:=(i:Int)+1) (by omega) (by omega)]
    rfl
def Aj2 (l:TCT Ao):Bool:=inR (Hx l).2.1 1 8192&&(inR (Hx l).1.1 0 4194304&&inR (Hx l).1.2.1 0 4194304)
def okR (l:TCT Ao):Bool:=A9j l&&((An l).all Ee&&(Aj2 l&&(A9k l&&((Df l).all Et&&apR l.2.1 l.2.2.1 (B0 l)))))
def Aj3 (l:TCT Ao):Int:=bif Lf l then 6 else bif okR l then 0 else 2
theorem A9l {l:TCT Ao}:(B0 l).length=2*(An l).length+1:=by
 unfold B0
 rw [List.length_append,Ms]
 rfl
theorem Aqw {l:TCT Ao} (h12:(An l).length≤1000):(Ae0 (((),()),(C3 l,()))).sat (fun y=>y=((bif apR l.2.1 l.2.2.1 (B0 l) then (0:Int) else 2),())):=by
 unfold Ae0
 have e:Fo (((((),()),(C3 l,())):A0j.T).2.1)=l:=rfl
 have e2:hsX (((((),()),(C3 l,())):A0j.T).2.1)=An l:=rfl
 have hy:Adz (((((),()),(C3 l,())):A0j.T).2.1) (B0 l)=some (bif apR l.2.1 l.2.2.1 (B0 l) then A6s else Vv 2):=Aj1 (C3 l) (B0 l) (by rw [A9l];simp only [Au];omega)
 rw [e,e2,decide_eq_true h12,hy]
 cases apR l.2.1 l.2.2.1 (B0 l) <;> exact rfl
theorem Ij {a b:Bool} {k:TEr} (h:k.sat (fun y=>y=((bif b then (0:Int) else 2),()))):(er (!a) 2 k).sat (fun y=>y=((bif a&&b then (0:Int) else 2),())):=by
 cases a with
 | true=>exact h
 | false=>exact rfl
theorem Jq {a b:Bool} {k:TEr} (h:k.sat (fun y=>y=((bif b then (0:Int) else 2),()))):(er a 2 k).sat (fun y=>y=((bif !a&&b then (0:Int) else 2),())):=by
 cases a with
 | true=>exact rfl
 | false=>exact h
theorem Aqx {l:TCT Ao} (h12:(An l).length≤1000) (hc:((Df l).length:Int)≤Au .i64):(Ae1 (((),()),(C3 l,()))).sat (fun y=>y=((bif Aj2 l&&(A9k l&&((Df l).all Et&&apR l.2.1 l.2.2.1 (B0 l))) then (0:Int) else 2),())):=by
 unfold Ae1 Aj2 A9k
 have e:Fo (((((),()),(C3 l,())):A0j.T).2.1)=l:=rfl
 have e2:csX (((((),()),(C3 l,())):A0j.T).2.1)=Df l:=rfl
 rw [e,e2]
 simp only [Bool.and_assoc]
 refine Ij (Ij (Ij (Jq (Jq (Jq (Jq (Jq ?_)))))))
 rw [Aj0 (C3 l) hc]
 have hq:(csX (C3 l)).any (fun h=>!Et h)=!(Df l).all Et:=Kn Et _
 rw [hq]
 cases (Df l).all Et with
 | false=>exact rfl
 | true=>exact Aqw h12
theorem Aj4 {l:TCT Ao} (hs:(l.1.size:Int)≤Au .i64) (hh:((An l).length:Int)≤Au .i64) (hc:((Df l).length:Int)≤Au .i64):(Aix l).sat (fun y=>y=(Aj3 l,())):=by
 unfold Aix Aj3
 rw [← Jc,← Jc,Bool.or_assoc]
 show (er (Lf l) 6 _).sat _
 cases hm:Lf l with
 | true=>exact rfl
 | false =>
  have h12:(An l).length≤1000:=by
   unfold Lf at hm
   simp only [Bool.or_eq_false_iff,decide_eq_false_iff_not] at hm
   omega
  rw [decide_eq_true hs]
  show (er (!Gp l.1) 2 _).sat (fun y=>y=((bif okR l then (0:Int) else 2),()))
  unfold okR A9j
  simp only [Bool.and_assoc]
  refine Ij (Ij (Ij (Ij ?_)))
  rw [Aiz (C3 l) hh]
  have hq:(hsX (C3 l)).any (fun h=>!Ee h)=!(An l).all Ee:=Kn Ee _
  rw [hq]
  cases (An l).all Ee with
  | false=>exact rfl
  | true=>exact Aqx h12 hc
end St
end V
end Go.Proofs.YtlangijnealfjaaGreat
namespace Go.Proofs.YtlangijnealfjaaGreat
open Go.RowKit
namespace V
namespace St
theorem Ik {x lo hi:Int}:inR x lo hi=true ↔ lo≤x∧x≤hi:=by unfold inR;simp only [Bool.and_eq_true,decide_eq_true_eq]
theorem A6t {α:Type} {p:List α} {ok1 ok2:Nat→α→Bool} (ins:α→Bool) (h:∀ (i:Nat) (hi:i<p.length),(∀ o ∈ p.take i,ins o=true)→ok1 i p[i]=ok2 i p[i]) (h1:∀ i x,ok1 i x=true→ins x=true) :
  ∀ (k i:Nat),i+k=p.length→(∀ o ∈ p.take i,ins o=true)→Ii ok1 i (p.drop i)=Ii ok2 i (p.drop i)
 | 0,i,hk,_=>by
  rw [List.drop_eq_nil_of_le (by omega)];rfl
 | k+1,i,hk,hp=>by
  have hi:i<p.length:=by omega
  rw [List.drop_eq_getElem_cons hi]
  simp only [Ii]
  rw [← h i hi hp]
  cases ho:ok1 i p[i] with
  | false=>rfl
  | true =>
   rw [Bool.true_and,Bool.true_and]
   refine A6t ins h h1 k (i+1) (by omega) fun o hm=>?_
   rw [List.take_succ_eq_append_getElem hi,List.mem_append,List.mem_singleton] at hm
   rcases hm with hm | rfl
   ·exact hp o hm
   ·exact h1 i _ ho
theorem A0o {α:Type} {ok:Nat→α→Bool}:∀ (l:List α) (i:Nat),Ii ok i l=true→∀ x ∈ l,∃ j,ok j x=true
 | y::l,i,h,x,hx=>by
  simp only [Ii,Bool.and_eq_true] at h
  rcases List.mem_cons.1 hx with rfl | hx
  ·exact ⟨i,h.1⟩
  ·exact A0o l (i+1) h.2 x hx
structure On (d:TCT A1):Prop where
 x:0≤d.1.1∧d.1.1≤4194304
 y:0≤d.1.2.1∧d.1.2.1≤4194304
 r:1≤d.2.1∧d.2.1≤8192
theorem Aj5 {x y r w l:Int} (hw:0≤w∧w≤4194304) (hl:0≤l∧l≤4194304) (hr:1≤r∧r≤8192) (h:(r≤x∧x≤W64 (w-r))∧r≤y∧y≤W64 (l-r)):(0≤x∧x≤4194304)∧0≤y∧y≤4194304:=by
 rw [C6 (n:=w-r) (by omega) (by omega),C6 (n:=l-r) (by omega) (by omega)] at h
 omega
theorem Ae2 {w l:Int} (hw:0≤w∧w≤4194304) (hl:0≤l∧l≤4194304) {d:TCT A1} (hr:1≤d.2.1∧d.2.1≤8192) (h:Lu w l d=true):On d:=by
 unfold Lu at h
 simp only [Bool.and_eq_true,Ik] at h
 obtain ⟨h1,h2⟩:=Aj5 hw hl hr h
 exact ⟨h1,h2,hr⟩
theorem Ae3 {x y r:Int} (hx:0≤x∧x≤4194304) (hy:0≤y∧y≤4194304) (hr:1≤r∧r≤8192):Jt x y r=0:=by
 unfold Jt Gr fpt B7
 rw [decide_eq_true (show -4194304≤x∧x≤4194304 ∧ -4194304≤y∧y≤4194304 by omega),decide_eq_false (show ¬ r<1 by omega),decide_eq_false (show ¬ 65536<r by omega)]
 rfl
theorem Ae4 {a b:Int} (ha:0≤a∧a≤4194304) (hb:0≤b∧b≤4194304):W64 (b-a)*W64 (b-a)=W64 (a-b)*W64 (a-b):=by
 rw [C6 (n:=b-a) (by omega) (by omega),C6 (n:=a-b) (by omega) (by omega)]
 grind
theorem Anu {d o:TCT A1} (hd:On d) (ho:On o):touB d o=Uy d o:=by
 have e:sqD d o=sqR d o:=by
  unfold sqD sqR
  rw [Ae4 hd.x ho.x,Ae4 hd.y ho.y]
 have c1:cdE d=0:=Ae3 hd.x hd.y hd.r
 have c2:cdE o=0:=Ae3 ho.x ho.y ho.r
 unfold touB Uy Jp
 rw [c1,c2,e]
 show decide (Aip (sqR d o) (srD d o)<0)=_
 unfold Aip
 by_cases h:sqR d o<srD d o
 ·rw [decide_eq_true h];rfl
 ·rw [decide_eq_false h,cond_false]
  cases decide (sqR d o>srD d o) <;> rfl
theorem O7 {α:Type} {p q:α→Bool}:∀ {l:List α},(∀ x ∈ l,p x=q x)→l.any p=l.any q
 | [],_=>rfl
 | x::l,h=>by rw [List.any_cons,List.any_cons,h x (List.mem_cons_self ..),O7 fun y hy=>h y (List.mem_cons_of_mem _ hy)]
theorem Aqy {w l:Int} (hw:0≤w∧w≤4194304) (hl:0≤l∧l≤4194304) {p:List (TCT A1)} (hr:∀ d ∈ p,1≤d.2.1∧d.2.1≤8192):apF w l p=apR w l p:=by
 have key:=A6t (p:=p) (ok1:=fun i d=>Lu w l d&&!(p.take i).any (touB d)) (ok2:=fun i d=>Lu w l d&&!(p.take i).any (Uy d)) (Lu w l)
  (fun i hi hp=>by
   cases hi':Lu w l p[i] with
   | false=>rfl
   | true =>
    have hd:=Ae2 hw hl (hr _ (List.getElem_mem hi)) hi'
    rw [O7 fun o ho=>Anu hd (Ae2 hw hl (hr o (List.mem_of_mem_take ho)) (hp o ho))])
  (fun i x h=>by simp only [Bool.and_eq_true] at h;exact h.1) p.length 0 (by omega) (fun o ho=>by rw [List.take_zero] at ho;cases ho)
 rw [List.drop_zero] at key
 exact key
theorem Atk {h:TCT B6} {d:TCT A1} (hd:d ∈ w2 h):d.2.1=h.2.2.2.1:=by
 unfold w2 at hd
 cases hb:h.2.2.2.2.1 with
 | true =>
  rw [hb] at hd
  have hd:d ∈ [Ld h.1 (W64 (h.2.1-dW h)) h.2.2.2.1,Ld h.1 (W64 (h.2.1+dW h)) h.2.2.2.1]:=hd
  rcases List.mem_cons.1 hd with rfl | hd
  ·rfl
  ·rw [List.mem_singleton] at hd;subst hd;rfl
 | false =>
  rw [hb] at hd
  have hd:d ∈ [Ld (W64 (h.1-dW h)) h.2.1 h.2.2.2.1,Ld (W64 (h.1+dW h)) h.2.1 h.2.2.2.1]:=hd
  rcases List.mem_cons.1 hd with rfl | hd
  ·rfl
  ·rw [List.mem_singleton] at hd;subst hd;rfl
theorem Aj6 {l:TCT Ao} (hh:(An l).all Ee=true) (hp:inR (Hx l).2.1 1 8192=true):∀ d ∈ B0 l,1≤d.2.1∧d.2.1≤8192:=by
 intro d hd
 unfold B0 at hd
 rw [List.mem_append,List.mem_singleton,List.mem_flatMap] at hd
 rcases hd with ⟨h,hm,hd⟩ | rfl
 ·have:=List.all_eq_true.1 hh h hm
  unfold Ee at this
  simp only [Bool.and_eq_true,Ik] at this
  rw [Atk hd]
  exact this.2.2.2.2
 ·exact Ik.1 hp
theorem Ae5 (l:TCT Ao):Aj3 l=D2 l:=by
 unfold Aj3 D2
 congr 2
 unfold okR okL
 cases hd:A9j l with
 | false=>rfl
 | true =>
  have hd':=hd
  unfold A9j at hd'
  simp only [Bool.and_eq_true,Ik] at hd'
  obtain ⟨_,⟨w1,w2'⟩,⟨l1,l2⟩,_⟩:=hd'
  have hw:0≤l.2.1∧l.2.1≤4194304:=⟨Int.le_trans (by decide) w1,w2'⟩
  have hl:0≤l.2.2.1∧l.2.2.1≤4194304:=⟨Int.le_trans (by decide) l1,l2⟩
  unfold Aj2
  cases hh:(An l).all Ee with
  | false=>cases inR (Hx l).2.1 1 8192 <;> cases A9k l <;> rfl
  | true =>
   cases hp:inR (Hx l).2.1 1 8192 with
   | false=>rfl
   | true =>
    have hr:=Aj6 hh hp
    rw [← Aqy hw hl hr]
    cases ha:apF l.2.1 l.2.2.1 (B0 l) with
    | false=>simp
    | true =>
     obtain ⟨j,hj⟩:=A0o (B0 l) 0 ha (Hx l) (by unfold B0;simp)
     simp only [Bool.and_eq_true] at hj
     have on:=Ae2 hw hl (Ik.1 hp) hj.1
     have e1:inR (Hx l).1.1 0 4194304=true:=Ik.2 on.x
     have e2:inR (Hx l).1.2.1 0 4194304=true:=Ik.2 on.y
     rw [e1,e2]
     simp
end St
end V
end Go.Proofs.YtlangijnealfjaaGreat
namespace Go.Proofs.YtlangijnealfjaaGreat
open Go.RowKit
namespace V
namespace St
theorem is_Posts:FnIs Tryz.prog (101,Tryz.f101):=⟨Tryz.func101,by kernel_rfl,by kernel_rfl⟩
def plPs:List (Nat×PureT):=[(105,Pf),(52,Ih)]
theorem puPs:Ca Tryz.prog plPs:=puOk_cons is_lCheck.plain Mv (puOk_cons is_lposts.plain Xk (puOk_nil))
def Il (l:TCT Ao):List (TCT A1):=bif D2 l==0 then B0 l else []
abbrev Aj7:PureT:=B9 [Ao] [.sl A1,cI] (fun x=>decide ((x.1.1.size:Int)≤Au .i64)) (fun x=>(Il x.1,D2 x.1,()))
abbrev TPs:=Tree (TCTs [.sl A1,cI])
def szT {β:Type} (l:TCT Ao) (k:Tree β):Tree β:=bif decide ((l.1.size:Int)≤Au .i64) then k else .fail
theorem Dw {β:Type} {l:TCT Ao} {k:Tree β} (h:(l.1.size:Int)≤Au .i64):szT l k=k:=by unfold szT;rw [decide_eq_true h];rfl
def A6u (l:TCT Ao):TPs:=bif decide ((An l).length≤1000) then .leaf (B0 l,0,()) else .fail
def A4b (l:TCT Ao):TPs:=szT l (bif D2 l != 0 then .leaf ([],D2 l,()) else A6u l)
theorem Rp {l:TCT Ao} (h:D2 l=0):(An l).length≤12∧1≤(An l).length:=by
 unfold D2 at h
 cases hm:Lf l with
 | true=>rw [hm] at h;cases h
 | false =>
  unfold Lf at hm
  simp only [Bool.or_eq_false_iff,decide_eq_false_iff_not] at hm
  omega
theorem Ae7 {l:TCT Ao} (h:D2 l=0):(A6u l).sat (fun y=>y=(Il l,D2 l,())):=by
 have:=Rp h
 unfold A6u Il
 rw [decide_eq_true (show (An l).length≤1000 by omega),h]
 exact rfl
theorem Aqz {l:TCT Ao}:(bif D2 l != 0 then .leaf ([],D2 l,()) else A6u l:TPs).sat (fun y=>y=(Il l,D2 l,())):=by
 cases h:D2 l==0 with
 | true =>
  have h':D2 l=0:=by simpa using h
  rw [show (D2 l != 0)=false by simp [h']]
  exact Ae7 h'
 | false =>
  rw [show (D2 l != 0)=true by simpa using h]
  unfold Il
  rw [h]
  exact rfl
theorem Aj8:A5 Tryz.prog 101 Aj7:=Bb (Aj Ak puPs (A0 is_Posts A2)) 7 (fun x=>A4b x.1) (fun x=>by kernel_rfl) fun x hok _=>by
 show (A4b x.1).sat _
 unfold A4b
 rw [Dw (of_decide_eq_true hok)]
 exact Aqz
end St
end V
end Go.Proofs.YtlangijnealfjaaGreat
namespace Go.Proofs.YtlangijnealfjaaGreat
open Go.RowKit
namespace V
namespace St
theorem is_lchk:FnIs Tryz.prog (47,Tryz.f47):=⟨Tryz.func47,by kernel_rfl,by kernel_rfl⟩
theorem is_lon:FnIs Tryz.prog (61,Tryz.f61):=⟨Tryz.func61,by kernel_rfl,by kernel_rfl⟩
def onB (l:TCT Ao) (p:TCT cPt):Bool:=inR p.1 0 l.2.1&&inR p.2.1 0 l.2.2.1
theorem A6v (x y:Int):(u_ck x y != 0)=!fpt x y:=by unfold u_ck;cases fpt x y <;> rfl
end St
end V
end Go.Proofs.YtlangijnealfjaaGreat
namespace Go.Proofs.YtlangijnealfjaaGreat
open Go.RowKit
namespace V
namespace St
theorem is_cGround:FnIs Tryz.prog (62,Tryz.f62):=⟨Tryz.func62,by kernel_rfl,by kernel_rfl⟩
def Aw (g:TCT cGr):List (TCT Be):=g.2.1
def okG (g:TCT cGr):Bool:=(Aw g).all Hp&&V0 g.2.2.1.1 g.2.2.1.2.1
def groE (g:TCT cGr):Int:=bif D2 g.1 != 0 then D2 g.1 else bif decide (((Aw g).length:Int)<1)||decide (((Aw g).length:Int)>8) then 6 else bif okG g then 0 else 2
abbrev Aj9:PureT:=B9 [cGr] [cI] (fun x=>decide ((x.1.1.1.size:Int)≤Au .i64)) (fun x=>(groE x.1,()))
def plG:List (Nat×PureT):=[(105,Pf),(124,Fc),(121,A06)]
theorem puG:Ca Tryz.prog plG:=puOk_cons is_lCheck.plain Mv (puOk_cons is_CheckBounce.plain V1 (puOk_cons is_cfBall.plain Acu (puOk_nil)))
def Ae8 (g:TCT cGr):TEr:=bif okE (V0 g.2.2.1.1 g.2.2.1.2.1)!=0 then .leaf (2,()) else .leaf (0,())
def T_G (g:TCT cGr):TEr:=szT g.1 (bif D2 g.1 != 0 then .leaf (D2 g.1,()) else er (decide (((Aw g).length:Int)<1)) 6 (er (decide (((Aw g).length:Int)>8)) 6 (er ((Aw g).any (Cq ())) 2 (Ae8 g))))
theorem Anv (x:TCTs [cGr]):D7 (ctx Tryz.prog plG [(62,Tryz.f62)]) 7 (.fn 62) (D5 [cGr] x) Bz 0 (Ge Tryz.prog [cI])=T_G x.1:=by kernel_rfl
theorem Anw {g:TCT cGr} (hs:(g.1.1.size:Int)≤Au .i64):(T_G g).sat (fun y=>y=(groE g,())):=by
 unfold T_G groE okG Ae8
 have hq:(Aw g).any (Cq ())=!(Aw g).all Hp:=Kn Hp _
 rw [Dw hs,hq,R9,← Jc]
 cases D2 g.1 != 0 with
 | true=>exact rfl
 | false =>
  simp only [cond_false]
  cases decide (((Aw g).length:Int)<1)||decide (((Aw g).length:Int)>8) with
  | true=>exact rfl
  | false=>cases (Aw g).all Hp <;> cases V0 g.2.2.1.1 g.2.2.1.2.1 <;> exact rfl
theorem Atl:A5 Tryz.prog 62 Aj9:=Bb (Aj Ak puG (A0 is_cGround A2)) 7 (fun x=>T_G x.1) Anv fun x hok _=>Anw (of_decide_eq_true hok)
abbrev kGr:List SK:=[.d .s,.d cI,.d cI,.d cI,.d (.sl B6),.d cI,.d cI,.d cI,.d cI,.d cI,.d (.sl D1),.d (.sl Be),.d cI,.d cI]
def Ar0 (x:SKTs kGr):TCT cGr:=((x.1,x.2.1,x.2.2.1,x.2.2.2.1,x.2.2.2.2.1,((x.2.2.2.2.2.1,x.2.2.2.2.2.2.1,()),x.2.2.2.2.2.2.2.1,()),x.2.2.2.2.2.2.2.2.1,x.2.2.2.2.2.2.2.2.2.1,x.2.2.2.2.2.2.2.2.2.2.1,()),x.2.2.2.2.2.2.2.2.2.2.2.1,(x.2.2.2.2.2.2.2.2.2.2.2.2.1,x.2.2.2.2.2.2.2.2.2.2.2.2.2.1,()),())
def G9 (g:TCT cGr):SKTs kGr:=(g.1.1,g.1.2.1,g.1.2.2.1,g.1.2.2.2.1,g.1.2.2.2.2.1,g.1.2.2.2.2.2.1.1.1,g.1.2.2.2.2.2.1.1.2.1,g.1.2.2.2.2.2.1.2.1,g.1.2.2.2.2.2.2.1,g.1.2.2.2.2.2.2.2.1,g.1.2.2.2.2.2.2.2.2.1,g.2.1,g.2.2.1.1,g.2.2.1.2.1,())
def A4c:Lay:={ keys:=[1,3],ks:=[.p 0 0 0 0,.d cI],bs:=[(0,64,kGr)],n:=39,nx:=1000,marks:=[] }
def Atm:Lay:={ keys:=[1],ks:=[.p 0 0 0 0],bs:=[(0,64,kGr)],n:=39,nx:=1000,marks:=[] }
def Ar2:Lay:={ keys:=[2],ks:=[.d cI],bs:=[],n:=39,nx:=1000,marks:=[] }
def A4d:XE→Lay:=fun e=>match e with | .ret=>Ar2 | _=>Atm
def Ae9 (x:SKTs kGr) (i:Int):A4c.T:=(((),i,()),(x,()))
def Aea:A4 A4d:=⟨.ret,((2,()),())⟩
def Aeb (x:SKTs kGr):A4 A4d:=⟨.exit 0,(((),()),(x,()))⟩
def blX (x:SKTs kGr):List (TCT Be):=x.2.2.2.2.2.2.2.2.2.2.2.1
def A6w (b:TCT Be):Bool:=okE (Jd b.1 b.2.1)!=0
def A6x (g:A4c.T):Tree (A4c.T⊕A4 A4d):=bif decide (g.1.2.1<((blX g.2.1).length:Int)) then bif decide (0≤g.1.2.1∧g.1.2.1<((blX g.2.1).length:Int)) then
 bif A6w (Ar (blX g.2.1) (Int.toNat g.1.2.1) (Ap Be)) then .leaf (.inr Aea) else .leaf (.inl (Ae9 g.2.1 (W64 (g.1.2.1+1)))) else .fail else .leaf (.inr (Aeb g.2.1))
def Aec (g:A4c.T):Nat:=(blX g.2.1).length+1
def Aed (x:SKTs kGr):Option (A4 A4d):=iter A6x ((blX x).length+1) (Ae9 x 0)
def Ajb (g:TCT cGr):TEr:=szT g.1 (bif D2 g.1 != 0 then szT g.1 (.leaf (D2 g.1,())) else er (decide (((Aw g).length:Int)<1)) 6 (er (decide (((Aw g).length:Int)>8)) 6 (
 bif isE .ret (Aed (G9 g)) then .leaf ((Dd .ret (Aed (G9 g))).1.1,()) else bif isE (.exit 0) (Aed (G9 g)) then Ae8 (Ar0 (Dd (.exit 0) (Aed (G9 g))).2.1) else .fail)))
theorem Ajd {g:TCT cGr} (hs:(g.1.1.size:Int)≤Au .i64) (hb:((Aw g).length:Int)≤Au .i64):(Ajb g).sat (fun y=>y=(groE g,())):=by
 have hy:Aed (G9 g)=some (bif (blX (G9 g)).any A6w then Aea else Aeb (G9 g)):=Mw (blX (G9 g)) (Ap Be) (Ae9 (G9 g)) A6w Aea (Aeb (G9 g)) hb (fun _=>rfl)
 have hq:(blX (G9 g)).any A6w=!(Aw g).all Hp:=by
  rw [← Kn Hp]
  exact O7 fun b _=>R9 _
 rw [hq] at hy
 unfold Ajb groE okG
 rw [Dw hs,Dw hs,hy,← Jc]
 cases D2 g.1 != 0 with
 | true=>exact rfl
 | false =>
  simp only [cond_false]
  cases decide (((Aw g).length:Int)<1)||decide (((Aw g).length:Int)>8) with
  | true=>exact rfl
  | false =>
   cases (Aw g).all Hp with
   | false=>exact rfl
   | true =>
    show (Ae8 g).sat _
    unfold Ae8
    rw [R9]
    cases V0 g.2.2.1.1 g.2.2.1.2.1 <;> exact rfl
end St
end V
end Go.Proofs.YtlangijnealfjaaGreat
namespace Go.Proofs.YtlangijnealfjaaGreat
open Go.RowKit
namespace V
namespace St
theorem is_sOn:FnIs Tryz.prog (63,Tryz.f63):=⟨Tryz.func63,by kernel_rfl,by kernel_rfl⟩
abbrev A6y:PureT:=B9 [Ao,cPt] [.b] (fun _=>true) (fun x=>(onB x.1 x.2.1,()))
def Ar5 (l:TCT Ao) (p:TCT cPt):TBo:=Mk (decide (0≤p.1)) (Mk (decide (p.1≤l.2.1)) (Mk (decide (0≤p.2.1)) (.leaf (decide (p.2.1≤l.2.2.1),()))))
theorem Anx (l:TCT Ao) (p:TCT cPt):onB l p=(decide (0≤p.1)&&(decide (p.1≤l.2.1)&&(decide (0≤p.2.1)&&decide (p.2.1≤l.2.2.1)))):=by
 unfold onB inR
 simp only [Bool.and_assoc]
theorem Ar6:A5 Tryz.prog 63 A6y:=Bb (Aj Ak puOk_nil (A0 is_sOn A2)) 4 (fun x=>Ar5 x.1 x.2.1) (fun x=>by kernel_rfl) fun x _ _=>by
 show (Ar5 x.1 x.2.1).sat (fun y=>y=(onB x.1 x.2.1,()))
 rw [Anx]
 exact E7 (E7 (E7 (Vi _)))
end St
end V
end Go.Proofs.YtlangijnealfjaaGreat
namespace Go.Proofs.YtlangijnealfjaaGreat
open Go.RowKit
namespace V
namespace St
theorem is_cState:FnIs Tryz.prog (64,Tryz.f64):=⟨Tryz.func64,by kernel_rfl,by kernel_rfl⟩
abbrev kSt:List SK:=[.d (.sl Bn),.d (.sl .b),.d cI,.d cI,.d cI]
abbrev bsS:List BK:=[(0,64,kGr),(1,76,kSt)]
def plS1:List (Nat×PureT):=[(62,Aj9),(125,Fe),(63,A6y)]
theorem puS1:Ca Tryz.prog plS1:=puOk_cons is_cGround.plain Atl (puOk_cons is_CheckMotion.plain V2 (puOk_cons is_sOn.plain Ar6 (puOk_nil)))
def inN {β:Type} (n:Nat) (i:Int) (k:Tree β):Tree β:=bif decide (0≤i∧i<(n:Int)) then k else .fail
theorem Jr {β:Type} {n:Nat} {i:Int} {k:Tree β} (h:0≤i∧i<(n:Int)):inN n i k=k:=by unfold inN;rw [decide_eq_true h];rfl
def Any (b:TCT Be) (m:TCT Bn):Bool:=A4q b.1 b.2.1 m.1.1 m.1.2.1 m.2.1.1 m.2.1.2.1 m.2.2.1.1 m.2.2.1.2.1
def atM (m:TCT Bn):TCT cPt:=(m.1.1,m.1.2.1,())
def A4e {β:Type} (no:Nat) (i:Int) (o:Bool) (m:TCT Bn) (rt nx:Tree β):Tree β:=inN no i (bif o then bif !(m.2.1.1==0&&(m.2.1.2.1==0&&true)) then rt else nx else nx)
def Rq {β:Type} (nb no:Nat) (i:Int) (l:TCT Ao) (b:TCT Be) (o:Bool) (m:TCT Bn) (rt nx:Tree β):Tree β :=
 inN nb i (bif okE (Any b m)!=0 then rt else inN no i (bif !o then bif !onB l (atM m) then rt else A4e no i o m rt nx else A4e no i o m rt nx))
def lwG (x:SKTs kGr):TCT Ao:=(Ar0 x).1
noncomputable def Ar8:Code:=(Ai (bodyOf Tryz.f64)).getD 0 .skip
def A0p:Lay:={ keys:=[2,3,30,31,32],ks:=[.p 0 0 0 0,.p 1 0 0 0,.d (.sl Bn),.d cI,.d cI],bs:=bsS,n:=106,nx:=1000,marks:=[] }
def Ato:Lay:={ keys:=[2,3],ks:=[.p 0 0 0 0,.p 1 0 0 0],bs:=bsS,n:=106,nx:=1000,marks:=[] }
def Ar9:Lay:={ keys:=[4],ks:=[.d cI],bs:=[],n:=106,nx:=1000,marks:=[] }
def Y3:XE→Lay:=fun e=>match e with | .ret=>Ar9 | _=>Ato
def A6z (x:SKTs kGr) (s:SKTs kSt) (m:List (TCT Bn)) (n i:Int):A0p.T:=(((),(),m,n,i,()),(x,s,()))
def A70:A4 Y3:=⟨.ret,((2,()),())⟩
def Aee (x:SKTs kGr) (s:SKTs kSt):A4 Y3:=⟨.exit 0,(((),(),()),(x,s,()))⟩
def otS (s:SKTs kSt):List Bool:=s.2.1
def A71 (g:A0p.T):Tree (A0p.T⊕A4 Y3):=bif decide (g.1.2.2.2.2.1<g.1.2.2.2.1) then bif decide (0≤g.1.2.2.2.2.1∧g.1.2.2.2.2.1<((g.1.2.2.1:List (TCT Bn)).length:Int)) then
 Rq (blX g.2.1).length (otS g.2.2.1).length g.1.2.2.2.2.1 (lwG g.2.1) (Ar (blX g.2.1) (Int.toNat g.1.2.2.2.2.1) (Ap Be)) (Ar (otS g.2.2.1) (Int.toNat g.1.2.2.2.2.1) (Ap .b)) (Ar g.1.2.2.1 (Int.toNat g.1.2.2.2.2.1) (Ap Bn))
  (.leaf (.inr A70)) (.leaf (.inl (A6z g.2.1 g.2.2.1 g.1.2.2.1 g.1.2.2.2.1 (W64 (g.1.2.2.2.2.1+1))))) else .fail else .leaf (.inr (Aee g.2.1 g.2.2.1))
def Aef (g:A0p.T):Nat:=(g.1.2.2.1:List (TCT Bn)).length+1
theorem Atp:As Tryz.prog 64 Ar8 (Aq A0p Y3 (Da [.ret,.exit 0] A71 Aef)):=C0 (Aj Ak puS1 A2) 7 _ A0p Y3 (fun e=>by cases e <;> exact Nat.le_refl _) [.ret,.exit 0] A71 Aef (fun g=>by kernel_rfl)
end St
end V
end Go.Proofs.YtlangijnealfjaaGreat
namespace Go.Proofs.YtlangijnealfjaaGreat
open Go.RowKit
namespace V
namespace St
def Y4:Lay:={ keys:=[2,3,5],ks:=[.p 0 0 0 0,.p 1 0 0 0,.d cI],bs:=bsS,n:=103,nx:=1000,marks:=[] }
def Atq:Lay:={ keys:=[2,3],ks:=[.p 0 0 0 0,.p 1 0 0 0],bs:=bsS,n:=103,nx:=1000,marks:=[] }
def Arb:Lay:={ keys:=[4],ks:=[.d cI],bs:=[],n:=103,nx:=1000,marks:=[] }
def Uz:XE→Lay:=fun e=>match e with | .ret=>Arb | _=>Atq
def A0q (x:SKTs kGr) (s:SKTs kSt) (i:Int):Y4.T:=(((),(),i,()),(x,s,()))
def A0r:A4 Uz:=⟨.ret,((2,()),())⟩
def A72 (x:SKTs kGr) (s:SKTs kSt):A4 Uz:=⟨.exit 0,(((),(),()),(x,s,()))⟩
def msS (s:SKTs kSt):List (TCT Bn):=s.1
def A73 (g:Y4.T):Tree (Y4.T⊕A4 Uz):=bif decide (g.1.2.2.1<((blX g.2.1).length:Int)) then inN (msS g.2.2.1).length g.1.2.2.1 (
 Rq (blX g.2.1).length (otS g.2.2.1).length g.1.2.2.1 (lwG g.2.1) (Ar (blX g.2.1) (Int.toNat g.1.2.2.1) (Ap Be)) (Ar (otS g.2.2.1) (Int.toNat g.1.2.2.1) (Ap .b)) (Ar (msS g.2.2.1) (Int.toNat g.1.2.2.1) (Ap Bn))
  (.leaf (.inr A0r)) (.leaf (.inl (A0q g.2.1 g.2.2.1 (W64 (g.1.2.2.1+1)))))) else .leaf (.inr (A72 g.2.1 g.2.2.1))
def Aeg (g:Y4.T):Nat:=(blX g.2.1).length+1
end St
end V
end Go.Proofs.YtlangijnealfjaaGreat
namespace Go.Proofs.YtlangijnealfjaaGreat
open Go.RowKit
namespace V
namespace St
def Q6 (s:TCT cSt):SKTs kSt:=(s.1,s.2.1,s.2.2.1,s.2.2.2.1,s.2.2.2.2.1,())
def A0s (s:SKTs kSt):TCT cSt:=(s.1,s.2.1,s.2.2.1,s.2.2.2.1,s.2.2.2.2.1,())
def msT (s:TCT cSt):List (TCT Bn):=s.1
def osT (s:TCT cSt):List Bool:=s.2.1
def okO (l:TCT Ao) (b:TCT Be) (o:Bool) (m:TCT Bn):Bool:=Any b m&&(bif o then m.2.1.1==0&&(m.2.1.2.1==0&&true) else onB l (atM m))
def okS (g:TCT cGr) (os:List Bool) (i:Nat) (m:TCT Bn):Bool:=okO g.1 (Ar (Aw g) i (Ap Be)) (Ar os i (Ap .b)) m
theorem Vx {G E:Type} {nb no:Nat} {i:Int} {l:TCT Ao} {b:TCT Be} {o:Bool} {m:TCT Bn} {rt:E} {nx:G} (h1:0≤i∧i<(nb:Int)) (h2:0≤i∧i<(no:Int)) :
  (Rq nb no i l b o m (.leaf (.inr rt)) (.leaf (.inl nx)):Tree (G⊕E)).run=some (bif okO l b o m then .inl nx else .inr rt):=by
 unfold Rq A4e okO
 rw [Jr h1,R9,Jr h2,Jr h2]
 cases Any b m with
 | false=>rfl
 | true =>
  cases o with
  | false=>cases onB l (atM m) <;> rfl
  | true=>cases m.2.1.1==0&&(m.2.1.2.1==0&&true) <;> rfl
def Arc (g:TCT cGr) (s:TCT cSt):Option (A4 Y3):=iter A71 ((msT s).length+1) (A6z (G9 g) (Q6 s) s.1 (msT s).length 0)
def Anz (g:TCT cGr) (s:TCT cSt):Option (A4 Uz):=iter A73 ((Aw g).length+1) (A0q (G9 g) (Q6 s) 0)
theorem Aje {g:TCT cGr} {s:TCT cSt} (h1:(msT s).length=(Aw g).length) (h2:(osT s).length=(Aw g).length) (hm:((msT s).length:Int)≤Au .i64) :
  Arc g s=some (bif Ii (okS g (osT s)) 0 (msT s) then Aee (G9 g) (Q6 s) else A70):=by
 refine Rn (msT s) (Ap Bn) (fun i=>A6z (G9 g) (Q6 s) s.1 (msT s).length i) (okS g (osT s))
  (fun i m=>Rq (Aw g).length (osT s).length i g.1 (Ar (Aw g) (Int.toNat i) (Ap Be)) (Ar (osT s) (Int.toNat i) (Ap .b)) m (.leaf (.inr A70)) (.leaf (.inl (A6z (G9 g) (Q6 s) s.1 (msT s).length (W64 (i+1))))):Int→TCT Bn→Tree (A0p.T⊕A4 Y3)) A70 (Aee (G9 g) (Q6 s)) hm (fun i=>rfl) fun i hi=>?_
 rw [Vx (by omega) (by omega),show Int.toNat (i:Int)=i from rfl,I9 hi hm]
 rfl
theorem Ajf {g:TCT cGr} {s:TCT cSt} (h1:(msT s).length=(Aw g).length) (h2:(osT s).length=(Aw g).length) (hm:((msT s).length:Int)≤Au .i64) :
  Anz g s=some (bif Ii (okS g (osT s)) 0 (msT s) then A72 (G9 g) (Q6 s) else A0r):=by
 unfold Anz
 rw [← h1]
 refine Rn (msT s) (Ap Bn) (fun i=>A0q (G9 g) (Q6 s) i) (okS g (osT s))
  (fun i m=>Rq (Aw g).length (osT s).length i g.1 (Ar (Aw g) (Int.toNat i) (Ap Be)) (Ar (osT s) (Int.toNat i) (Ap .b)) m (.leaf (.inr A0r)) (.leaf (.inl (A0q (G9 g) (Q6 s) (W64 (i+1))))):Int→TCT Bn→Tree (Y4.T⊕A4 Uz)) A0r (A72 (G9 g) (Q6 s)) hm (fun i=>?_) fun i hi=>?_
 ·show (bif decide (i<((Aw g).length:Int)) then inN (msT s).length i (Rq (Aw g).length (osT s).length i g.1 (Ar (Aw g) (Int.toNat i) (Ap Be)) (Ar (osT s) (Int.toNat i) (Ap .b)) (Ar (msT s) (Int.toNat i) (Ap Bn)) (.leaf (.inr A0r)) (.leaf (.inl (A0q (G9 g) (Q6 s) (W64 (i+1)))))) else .leaf (.inr (A72 (G9 g) (Q6 s))):Tree (Y4.T⊕A4 Uz))=_
  rw [← h1]
  rfl
 ·rw [Vx (by omega) (by omega),show Int.toNat (i:Int)=i from rfl,I9 hi hm]
  rfl
def Ajg (n:Int) (s:TCT cSt):Bool:=decide (s.2.2.1<0)||(decide (s.2.2.1≥n)||(decide (s.2.2.2.1<0)||(decide (s.2.2.2.1>8)||(decide (s.2.2.2.2.1<0)||decide (s.2.2.2.2.1>4000)))))
def A4f (g:TCT cGr) (s:TCT cSt):Bool:=(((msT s).length:Int)==((Aw g).length:Int))&&(((osT s).length:Int)==((Aw g).length:Int))
def vaE (g:TCT cGr) (s:TCT cSt):Int:=bif A4f g s then bif Ii (okS g (osT s)) 0 (msT s) then bif Ajg (Aw g).length s then 2 else 0 else 2 else 17
def Aeh (g:TCT cGr) (s:TCT cSt):Int:=bif groE g != 0 then groE g else vaE g s
abbrev Ard:PureT:=B9 [cGr,cSt] [cI] (fun _=>true) (fun x=>(vaE x.1 x.2.1,()))
abbrev A74:PureT:=B9 [cGr,cSt] [cI] (fun x=>decide ((x.1.1.1.size:Int)≤Au .i64)) (fun x=>(Aeh x.1 x.2.1,()))
end St
end V
end Go.Proofs.YtlangijnealfjaaGreat
namespace Go.Proofs.YtlangijnealfjaaGreat
open Go.RowKit
namespace V
namespace St
def Aei (n:Int) (s:TCT cSt):TEr:=er (decide (s.2.2.1<0)) 2 (er (decide (s.2.2.1≥n)) 2 (er (decide (s.2.2.2.1<0)) 2 (er (decide (s.2.2.2.1>8)) 2 (er (decide (s.2.2.2.2.1<0)) 2 (er (decide (s.2.2.2.2.1>4000)) 2 (.leaf (0,())))))))
theorem Ajh (n:Int) (s:TCT cSt):Aei n s=er (Ajg n s) 2 (.leaf (0,())):=by
 unfold Aei Ajg
 rw [Jc,Jc,Jc,Jc,Jc]
def Aej (g:TCT cGr) (s:TCT cSt) (k:TEr):TEr:=er (((msT s).length:Int)!=((Aw g).length:Int)) 17 (er (((osT s).length:Int)!=((Aw g).length:Int)) 17 k)
theorem Aji (g:TCT cGr) (s:TCT cSt) (k:TEr):Aej g s k=er (!A4f g s) 17 k:=by
 unfold Aej A4f
 rw [← Jc]
 congr 1
 cases h1:((msT s).length:Int)==((Aw g).length:Int) <;> cases h2:((osT s).length:Int)==((Aw g).length:Int) <;> simp [bne,h1,h2]
theorem A0t {g:TCT cGr} {s:TCT cSt} (h:A4f g s=true):(msT s).length=(Aw g).length∧(osT s).length=(Aw g).length:=by
 unfold A4f at h
 simp only [Bool.and_eq_true,beq_iff_eq] at h
 omega
def Ats (g:TCT cGr) (y:Option (A4 Y3)):TEr:=bif isE .ret y then .leaf ((Dd .ret y).1.1,()) else bif isE (.exit 0) y then Aei (blX (Dd (.exit 0) y).2.1).length (A0s (Dd (.exit 0) y).2.2.1) else .fail
def Att (g:TCT cGr) (y:Option (A4 Uz)):TEr:=bif isE .ret y then .leaf ((Dd .ret y).1.1,()) else bif isE (.exit 0) y then Aei (blX (Dd (.exit 0) y).2.1).length (A0s (Dd (.exit 0) y).2.2.1) else .fail
def Ao0 (g:TCT cGr) (s:TCT cSt):TEr:=szT g.1 (bif groE g != 0 then .leaf (groE g,()) else Aej g s (Ats g (Arc g s)))
def Ao1 (g:TCT cGr) (s:TCT cSt):TEr:=Aej g s (Att g (Anz g s))
theorem Aek {g:TCT cGr} {s:TCT cSt} {k:TEr} (h:A4f g s=true→k=bif Ii (okS g (osT s)) 0 (msT s) then Aei (Aw g).length s else .leaf (2,())):(Aej g s k).sat (fun y=>y=(vaE g s,())):=by
 rw [Aji]
 unfold vaE
 cases he:A4f g s with
 | false=>exact rfl
 | true =>
  rw [h he]
  cases Ii (okS g (osT s)) 0 (msT s) with
  | false=>exact rfl
  | true =>
   simp only [Bool.not_true,cond_true]
   rw [Ajh]
   cases Ajg (Aw g).length s <;> exact rfl
theorem Ajj {g:TCT cGr} {s:TCT cSt} (hs:(g.1.1.size:Int)≤Au .i64) (hm:((msT s).length:Int)≤Au .i64):(Ao0 g s).sat (fun y=>y=(Aeh g s,())):=by
 unfold Ao0 Aeh
 rw [Dw hs]
 cases groE g != 0 with
 | true=>exact rfl
 | false =>
  simp only [cond_false]
  refine Aek fun he=>?_
  obtain ⟨h1,h2⟩:=A0t he
  rw [Aje h1 h2 hm]
  cases Ii (okS g (osT s)) 0 (msT s) <;> rfl
theorem Ajk {g:TCT cGr} {s:TCT cSt} (hm:((msT s).length:Int)≤Au .i64):(Ao1 g s).sat (fun y=>y=(vaE g s,())):=by
 unfold Ao1
 refine Aek fun he=>?_
 obtain ⟨h1,h2⟩:=A0t he
 rw [Ajf h1 h2 hm]
 cases Ii (okS g (osT s)) 0 (msT s) <;> rfl
noncomputable def Atu:Ctx:=Fu Tryz.prog plS1 [(64,Tryz.f64)] [((64,7),Aq A0p Y3 (Da [.ret,.exit 0] A71 Aef))]
theorem Ajl:CtxOk Atu:=Bt Ak puS1 (A0 is_cState A2) (Bs (by kernel_rfl) (by kernel_rfl) Atp)
theorem Ajm:A5 Tryz.prog 64 A74:=Bb Ajl 7 (fun x=>Ao0 x.1 x.2.1) (fun x=>by kernel_rfl) fun x hok hw=>Ajj (of_decide_eq_true hok) (E9 hw.2.1.1)
def plS2:List (Nat×PureT):=plS1
theorem puS2:Ca Tryz.prog plS2:=puS1
end St
end V
end Go.Proofs.YtlangijnealfjaaGreat
namespace Go.Proofs.YtlangijnealfjaaGreat
open Go.RowKit
namespace V
def Lg {S B:Type} (f:Nat→S→S⊕B):Nat→Nat→S→S⊕B
 | _,0,s=>.inl s
 | i,k+1,s=>match f i s with
  | .inl s'=>Lg f (i+1) k s'
  | .inr b=>.inr b
def Aen {G E S B:Type} (hd:Nat→S→G) (res:S⊕B→E) (i:Nat):S⊕B→G⊕E
 | .inl s=>.inl (hd (i+1) s)
 | .inr b=>.inr (res (.inr b))
theorem A4g {G E S B:Type} {st:G→Tree (G⊕E)} (n:Nat) (hd:Nat→S→G) (f:Nat→S→S⊕B) (res:S⊕B→E) (Inv:Nat→S→Prop)
  (h1:∀ i s,i<n→Inv i s→(st (hd i s)).run=some (Aen hd res i (f i s)))
  (h2:∀ i s s',i<n→Inv i s→f i s=.inl s'→Inv (i+1) s')
  (h3:∀ s,Inv n s→(st (hd n s)).run=some (.inr (res (.inl s)))) :
  ∀ (k i:Nat) (s:S),i+k=n→Inv i s→iter st (k+1) (hd i s)=some (res (Lg f i k s))
 | 0,i,s,hk,hi=>by
  have e:i=n:=by omega
  subst e
  exact Ib (h3 s hi)
 | k+1,i,s,hk,hi=>by
  have hlt:i<n:=by omega
  have hr:=h1 i s hlt hi
  unfold Lg
  cases hf:f i s with
  | inl s' =>
   rw [hf] at hr
   rw [Qw hr]
   exact A4g n hd f res Inv h1 h2 h3 k (i+1) s' (by omega) (h2 i s s' hlt hi hf)
  | inr b =>
   rw [hf] at hr
   exact Ib hr
theorem Aeo {β:Type} {h w:List β} {b:Nat} (k:h.length+w.length≤1000000) (hb:b≤48):Dv h w b=true:=by
 rw [Ep,decide_eq_true_iff]
 have h1:((h.length+w.length:Nat):Int)≤1000000:=by omega
 have h2:(b:Int)≤48:=by omega
 calc ((h.length+w.length:Nat):Int)*b≤1000000*48:=Int.mul_le_mul h1 h2 (by omega) (by decide)
  _≤140737488355328:=by decide
namespace St
theorem is_sLie:FnIs Tryz.prog (24,Tryz.f24):=⟨Tryz.func24,by kernel_rfl,by kernel_rfl⟩
abbrev kSo:List SK:=[.o 84 Bn,.o 4 .b,.d cI,.d cI,.d cI]
noncomputable def Are:Code:=(Ai (bodyOf Tryz.f24)).getD 0 .skip
abbrev Ama:List BK:=[(0,64,kGr),(1,76,kSt),(3,76,kSo)]
def A4h:Lay:={ keys:=[2,4,7,27,28,29],ks:=[.p 0 0 0 0,.p 1 0 0 0,.p 3 0 0 0,.d (.sl cPt),.d cI,.d cI],bs:=Ama,n:=48,nx:=1000,marks:=[] }
def Atw:Lay:={ keys:=[4,7],ks:=[.p 1 0 0 0,.p 3 0 0 0],bs:=[(1,76,kSt),(3,76,kSo)],n:=48,nx:=1000,marks:=[] }
def Arf:Lay:={ keys:=[4,5],ks:=[.p 1 0 0 0,.d cI],bs:=[(1,76,kSt)],n:=48,nx:=1000,marks:=[] }
def Y5:XE→Lay:=fun e=>match e with | .ret=>Arf | _=>Atw
def Atx:Lay:={ keys:=[1,2,4,6,7],ks:=[.d (.sl cPt),.p 0 0 0 0,.p 1 0 0 0,.p 3 0 0 0,.d cI],bs:=Ama,n:=51,nx:=1000,marks:=[] }
def Aty:Lay:={ keys:=[4,6],ks:=[.p 1 0 0 0,.p 3 0 0 0],bs:=[(1,76,kSt),(3,76,kSo)],n:=51,nx:=1000,marks:=[] }
def Arh:Lay:={ keys:=[4,5],ks:=[.p 1 0 0 0,.d cI],bs:=[(1,76,kSt)],n:=51,nx:=1000,marks:=[] }
def Atz:XE→Lay:=fun e=>match e with | .ret=>Arh | _=>Aty
def Ao2 (p:TCT cPt):TCT Bn:=((p.1,p.2.1,()),(0,0,()),(0,0,()),())
def Ao3 (p:TCT cPt):TCT cPt:=(p.1,p.2.1,())
def Amb {β:Type} (p:TCT cPt) (ms:List (TCT Bn)) (nx:List (TCT Bn)→Tree β):Tree β:=bif Dv ms [Ao2 p] 48 then nx (ms++[Ao2 p]) else .fail
def A75 (x:SKTs kGr) (r q:SKTs kSt) (p:List (TCT cPt)) (n i:Int) (ms:List (TCT Bn)):A4h.T:=(((),(),(),p,n,i,()),(x,r,(ms,q.2),()))
def Amc:A4 Y5:=⟨.ret,(((),2,()),(([],[],0,0,0,()),()))⟩
def Amd (r q:SKTs kSt) (ms:List (TCT Bn)):A4 Y5:=⟨.exit 0,(((),(),()),(r,(ms,q.2),()))⟩
abbrev TLi:=Tree (A4h.T⊕A4 Y5)
def Rr (x:SKTs kGr) (r q:SKTs kSt) (p:List (TCT cPt)) (n i:Int) (ms:List (TCT Bn)):TLi:=bif decide (i<n) then inN p.length i (
 bif !onB (lwG x) (Ao3 (Ar p (Int.toNat i) (Ap cPt))) then .leaf (.inr Amc) else Amb (Ar p (Int.toNat i) (Ap cPt)) ms fun ms'=>.leaf (.inl (A75 x r q p n (W64 (i+1)) ms'))) else .leaf (.inr (Amd r q ms))
def A0u (g:A4h.T):TLi:=Rr g.2.1 g.2.2.1 g.2.2.2.1 g.1.2.2.2.1 g.1.2.2.2.2.1 g.1.2.2.2.2.2.1 g.2.2.2.1.1
def Aep (g:A4h.T):Nat:=(g.1.2.2.2.1:List (TCT cPt)).length+1
theorem Au0:As Tryz.prog 24 Are (Aq A4h Y5 (Da [.ret,.exit 0] A0u Aep)):=C0 (Aj Ak puS1 A2) 7 _ A4h Y5 (fun e=>by cases e <;> exact Nat.le_refl _) [.ret,.exit 0] A0u Aep (fun g=>by kernel_rfl)
abbrev TRl:=Tree (Atx.T⊕A4 Atz)
def Ao4 (l:TCT Ao) (p:List (TCT cPt)) (i:Nat):Bool:=onB l (Ao3 (Ar p i (Ap cPt)))
def Y6 (l:TCT Ao) (p:List (TCT cPt)) (i:Nat) (ms:List (TCT Bn)):List (TCT Bn)⊕Unit:=bif Ao4 l p i then .inl (ms++[Ao2 (Ar p i (Ap cPt))]) else .inr ()
def A4i (r q:SKTs kSt):List (TCT Bn)⊕Unit→A4 Y5
 | .inl ms=>Amd r q ms
 | .inr _=>Amc
theorem Ao5 {l:TCT Ao} {p:List (TCT cPt)} (i:Nat) (s s':List (TCT Bn)) (_:i<p.length) (hi:s.length=i) (h:Y6 l p i s=.inl s'):s'.length=i+1:=by
 unfold Y6 at h
 cases ho:Ao4 l p i with
 | true=>rw [ho] at h;cases h;simp [hi]
 | false=>rw [ho] at h;cases h
theorem Ari {x:SKTs kGr} {r q:SKTs kSt} {p:List (TCT cPt)} (hp:p.length≤100):iter A0u (p.length+1) (A75 x r q p p.length 0 [])=some (A4i r q (Lg (Y6 (lwG x) p) 0 p.length [])):=by
 have hp':(p.length:Int)≤Au .i64:=by show (p.length:Int)≤9223372036854775807;omega
 refine A4g p.length (fun i ms=>A75 x r q p p.length i ms) (Y6 (lwG x) p) (A4i r q) (fun i ms=>ms.length=i) (fun i ms hi hl=>?_) Ao5 (fun ms hl=>?_) p.length 0 [] (by omega) rfl
 ·show (Rr x r q p p.length (i:Int) ms).run=_
  unfold Rr Y6 Ao4 Amb
  rw [decide_eq_true (show (i:Int)<(p.length:Int) by omega),Jr (by omega),show Int.toNat (i:Int)=i from rfl,Aeo (by simp;omega) (by decide),I9 hi hp']
  cases onB (lwG x) (Ao3 (Ar p i (Ap cPt))) <;> rfl
 ·show (Rr x r q p p.length (p.length:Int) ms).run=_
  unfold Rr
  rw [decide_eq_false (show ¬ (p.length:Int)<(p.length:Int) by omega)]
  rfl
end St
end V
end Go.Proofs.YtlangijnealfjaaGreat
namespace Go.Proofs.YtlangijnealfjaaGreat
open Go.RowKit
namespace V
namespace St
abbrev plS3:List (Nat×PureT):=(64,A74)::(132,A6h)::plS2
theorem puS3:Ca Tryz.prog plS3:=puOk_cons is_cState.plain Ajm (puOk_cons is_cfMot.plain Aic puS2)
def r0:SKTs kSt:=([],[],0,0,0,())
def q0 (p:List (TCT cPt)):SKTs kSt:=([],List.replicate (Int.toNat (p.length:Int)) false,0,0,0,())
def zS:TCT cSt:=([],[],0,0,0,())
abbrev TLs:=Tree (TCTs [cSt,cI])
def erS (c:Bool) (e:Int) (k:TLs):TLs:=bif c then .leaf (zS,e,()) else k
def Arj (g:TCT cGr) (p:List (TCT cPt)):Option (A4 Y5):=iter A0u (p.length+1) (A75 (G9 g) r0 (q0 p) p p.length 0 [])
def mkT {β:Type} (n:Int) (k:Tree β):Tree β:=bif decide (0≤n∧n≤n∧n≤65536∧((1:Nat):Int)*n≤281474976710656) then k else .fail
theorem Ao6 {β:Type} {n:Int} {k:Tree β} (h0:0≤n) (h:n≤65536):mkT n k=k:=by
 unfold mkT
 rw [decide_eq_true (by omega)];rfl
def stO (s:SKTs kSo):TCT cSt:=(s.1,s.2.1,s.2.2.1,s.2.2.2.1,s.2.2.2.2.1,())
def Au1 (y:Option (A4 Y5)):TLs:=bif isE .ret y then .leaf (A0s (Dd .ret y).2.1,(Dd .ret y).1.2.1,()) else bif isE (.exit 0) y then .leaf (stO (Dd (.exit 0) y).2.2.1,0,()) else .fail
def A9m (a b:Nat):Bool:=(a:Int)!=(b:Int)
def Ao7 (g:TCT cGr) (p:List (TCT cPt)):TLs:=szT g.1 (erS (groE g != 0) (groE g) (erS (A9m p.length (Aw g).length) 17 (mkT p.length (Au1 (Arj g p)))))
def Ark (p:List (TCT cPt)):List (TCT Bn)⊕Unit→TCTs [cSt,cI]
 | .inl ms=>((ms,List.replicate p.length false,0,0,0,()),0,())
 | .inr _=>(zS,2,())
def H5 (g:TCT cGr) (p:List (TCT cPt)):TCTs [cSt,cI]:=bif groE g != 0 then (zS,groE g,()) else bif A9m p.length (Aw g).length then (zS,17,()) else Ark p (Lg (Y6 g.1 p) 0 p.length [])
def etaS (s:TCT cSt):TCT cSt:=(s.1,s.2.1,s.2.2.1,s.2.2.2.1,s.2.2.2.2.1,())
abbrev Ame:PureT:=B9 [cGr,.sl cPt] [cSt,cI] (fun x=>decide ((x.1.1.1.size:Int)≤Au .i64)) (fun x=>(etaS (H5 x.1 x.2.1).1,(H5 x.1 x.2.1).2.1,()))
theorem Ajo {g:TCT cGr} (h:groE g=0):1≤(Aw g).length∧(Aw g).length≤8:=by
 unfold groE at h
 cases h1:D2 g.1 != 0 with
 | true=>rw [h1,cond_true] at h;rw [h] at h1;cases h1
 | false =>
  rw [h1,cond_false] at h
  cases h2:decide (((Aw g).length:Int)<1)||decide (((Aw g).length:Int)>8) with
  | true=>rw [h2] at h;cases h
  | false =>
   rw [Bool.or_eq_false_iff,decide_eq_false_iff_not,decide_eq_false_iff_not] at h2
   omega
theorem Ao8 {a b:Nat} (h:A9m a b=false):a=b:=by
 unfold A9m at h
 have:=bne_eq_false_iff_eq.1 h
 omega
theorem Ajp {g:TCT cGr} {p:List (TCT cPt)} {k:TLs} (h:groE g=0→p.length=(Aw g).length→p.length≤8→k=.leaf (Ark p (Lg (Y6 g.1 p) 0 p.length []))) :
  (bif groE g != 0 then .leaf (zS,groE g,()) else erS (A9m p.length (Aw g).length) 17 k:TLs).sat (fun y=>y=(etaS (H5 g p).1,(H5 g p).2.1,())):=by
 show Tree.sat (fun y=>y=H5 g p) _
 unfold H5
 cases h1:groE g != 0 with
 | true=>exact rfl
 | false =>
  simp only [cond_false]
  unfold erS
  cases h2:A9m p.length (Aw g).length with
  | true=>exact rfl
  | false =>
   have e:=Ao8 h2
   have h0:groE g=0:=bne_eq_false_iff_eq.1 h1
   have:=Ajo h0
   rw [h h0 e (by omega)]
   exact rfl
theorem Ajq {g:TCT cGr} {p:List (TCT cPt)} (hs:(g.1.1.size:Int)≤Au .i64):(Ao7 g p).sat (fun y=>y=(etaS (H5 g p).1,(H5 g p).2.1,())):=by
 unfold Ao7
 rw [Dw hs]
 refine Ajp fun _ e hp=>?_
 have hy:Arj g p=some (A4i r0 (q0 p) (Lg (Y6 g.1 p) 0 p.length [])):=Ari (by omega)
 rw [Ao6 (by omega) (by omega),hy]
 cases Lg (Y6 g.1 p) 0 p.length [] <;> rfl
noncomputable def Au2:Ctx:=Fu Tryz.prog plS3 [(24,Tryz.f24)] [((24,8),Aq A4h Y5 (Da [.ret,.exit 0] A0u Aep))]
theorem Ajr:CtxOk Au2:=Bt Ak puS3 (A0 is_sLie A2) (Bs (by kernel_rfl) (by kernel_rfl) Au0)
theorem Arl:A5 Tryz.prog 24 Ame:=Bb Ajr 7 (fun x=>Ao7 x.1 x.2.1) (fun x=>by kernel_rfl) fun x hok _=>Ajq (of_decide_eq_true hok)
end St
end V
end Go.Proofs.YtlangijnealfjaaGreat
