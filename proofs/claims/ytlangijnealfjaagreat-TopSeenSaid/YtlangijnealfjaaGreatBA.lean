import Derived.Test.YtlangijnealfjaaGreatSd
import Derived.Test.YtlangijnealfjaaGreatTV
import Derived.Test.YtlangijnealfjaaGreatUj
import Derived.Test.YtlangijnealfjaaGreatBa
import Derived.Test.YtlangijnealfjaaGreatZe
namespace Go.Proofs.YtlangijnealfjaaGreat
open Go.RowKit
namespace V
abbrev X8:PureT:=Bh [cPt,cPt,cI] [cPt,cI] (fun _=>true) (fun x=>(((TwR x.1.1 x.1.2.1 x.2.1.1 x.2.1.2.1 x.2.2.1).1.1,(TwR x.1.1 x.1.2.1 x.2.1.1 x.2.1.2.1 x.2.2.1).1.2,()),(TwR x.1.1 x.1.2.1 x.2.1.1 x.2.1.2.1 x.2.2.1).2,()))
theorem Acb:A6 Tryz.prog 59 X8:=A7a
end V
end Go.Proofs.YtlangijnealfjaaGreat
namespace Go.Proofs.YtlangijnealfjaaGreat
open Go.RowKit
namespace V
namespace St
abbrev Bg:TC:=.st [cI,cI,cI,cI,.b]
abbrev Dh:TC:=.st [cI,cI,cI]
abbrev Aq:TC:=.st [.s,cI,cI,cI,.sl Bg,A1,cI,cI,.sl Dh]
abbrev cGr:TC:=.st [Aq,.sl Bo,Rs]
abbrev cSt:TC:=.st [.sl Bz,.sl .b,cI,cI,cI]
abbrev cKn:TC:=.st [cI,cI,cI,cI,cI]
theorem is_between2:FnIs Tryz.prog (120,Tryz.f120):=⟨Tryz.func120,by kernel_rfl,by kernel_rfl⟩
theorem is_validHoop:FnIs Tryz.prog (177,Tryz.f177):=⟨Tryz.func177,by kernel_rfl,by kernel_rfl⟩
theorem is_validCell:FnIs Tryz.prog (180,Tryz.f180):=⟨Tryz.func180,by kernel_rfl,by kernel_rfl⟩
theorem is_Check1:FnIs Tryz.prog (176,Tryz.f176):=⟨Tryz.func176,by kernel_rfl,by kernel_rfl⟩
theorem is_Check2:FnIs Tryz.prog (179,Tryz.f179):=⟨Tryz.func179,by kernel_rfl,by kernel_rfl⟩
theorem is_CG1:FnIs Tryz.prog (122,Tryz.f122):=⟨Tryz.func122,by kernel_rfl,by kernel_rfl⟩
theorem is_still1:FnIs Tryz.prog (133,Tryz.f133):=⟨Tryz.func133,by kernel_rfl,by kernel_rfl⟩
theorem is_tChk:FnIs Tryz.prog (70,Tryz.f70):=⟨Tryz.func70,by kernel_rfl,by kernel_rfl⟩
def inR (x lo hi:Int):Bool:=decide (lo≤x)&&decide (x≤hi)
abbrev s_inR:PureT:=Bh [cI,cI,cI] [.b] (fun _=>true) (fun x=>(inR x.1 x.2.1 x.2.2.1,()))
abbrev TBo:=Tree (TCTs [.b])
def Nh (a:Bool) (t:TBo):TBo:=bif a then t else .leaf (false,())
theorem Eh {a b:Bool} {t:TBo} (h:t.sat (fun y=>y=(b,()))):(Nh a t).sat (fun y=>y=(a&&b,())):=by
 unfold Nh
 cases a with
 | true=>rw [Bool.true_and];exact h
 | false=>exact rfl
theorem X9 (b:Bool):(Tree.leaf (b,()):TBo).sat (fun y=>y=(b,())):=rfl
theorem q_between2:A6 Tryz.prog 120 s_inR:=Bj (An Am puOk_nil (A0 is_between2 A2)) 3 (fun x=>Nh (decide (x.2.1≤x.1)) (.leaf (decide (x.1≤x.2.2.1),()))) (fun x=>by kernel_rfl) fun _ _ _=>Eh (X9 _)
def plBt:List (Nat×PureT):=[(120,s_inR)]
theorem puBt:Cd Tryz.prog plBt:=puOk_cons is_between2.plain q_between2 (puOk_nil)
def Ep (h:TCT Bg):Bool:=inR h.1 0 4194304&&(inR h.2.1 0 4194304&&(inR h.2.2.1 2 32768&&((Int.tmod h.2.2.1 2==0)&&inR h.2.2.2.1 1 8192)))
def F9 (c:TCT Dh):Bool:=inR c.1 0 65536&&(inR c.2.1 (-4096) 4096&&inR c.2.2.1 (-4096) 4096)
abbrev A00:PureT:=Bh [Bg] [.b] (fun _=>true) (fun x=>(Ep x.1,()))
abbrev A01:PureT:=Bh [Dh] [.b] (fun _=>true) (fun x=>(F9 x.1,()))
def A02 (h:TCT Bg):TBo:=Nh (inR h.1 0 4194304) (Nh (inR h.2.1 0 4194304) (Nh (inR h.2.2.1 2 32768) (Nh (Int.tmod h.2.2.1 2==0) (.leaf (inR h.2.2.2.1 1 8192,())))))
def A03 (c:TCT Dh):TBo:=Nh (inR c.1 0 65536) (Nh (inR c.2.1 (-4096) 4096) (.leaf (inR c.2.2.1 (-4096) 4096,())))
theorem Sv (h:TCT Bg):(A02 h).sat (fun y=>y=(Ep h,())):=Eh (Eh (Eh (Eh (X9 _))))
theorem Sw (c:TCT Dh):(A03 c).sat (fun y=>y=(F9 c,())):=Eh (Eh (X9 _))
theorem A27:A6 Tryz.prog 177 A00:=Bj (An Am puBt (A0 is_validHoop A2)) 3 (fun x=>A02 x.1) (fun x=>by kernel_rfl) fun x _ _=>Sv x.1
theorem A28:A6 Tryz.prog 180 A01:=Bj (An Am puBt (A0 is_validCell A2)) 3 (fun x=>A03 x.1) (fun x=>by kernel_rfl) fun x _ _=>Sw x.1
def Afr (m:TCT Bz):Bool:=m.2.1.1==0&&m.2.1.2.1==0
def I3 (b:TCT Bo):Bool:=Jv b.1 b.2.1
abbrev Avk:PureT:=Bh [Bg] [.b] (fun _=>true) (fun x=>(!Ep x.1,()))
abbrev Avl:PureT:=Bh [Dh] [.b] (fun _=>true) (fun x=>(!F9 x.1,()))
abbrev Aqr:PureT:=Bh [Bo] [.b] (fun _=>true) (fun x=>(!I3 x.1,()))
abbrev Aqs:PureT:=Bh [Bz] [.b] (fun _=>true) (fun x=>(!Afr x.1,()))
abbrev Aqt:PureT:=Bh [cPt] [.b] (fun _=>true) (fun x=>(!fpt x.1.1 x.1.2.1,()))
theorem Ayk:A6 Tryz.prog 176 Avk:=Bj (An Am (puOk_cons is_validHoop.plain A27 puOk_nil) (A0 is_Check1 A2)) 3 (fun x=>.leaf (!Ep x.1,())) (fun x=>by kernel_rfl) fun _ _ _=>rfl
theorem Ayl:A6 Tryz.prog 179 Avl:=Bj (An Am (puOk_cons is_validCell.plain A28 puOk_nil) (A0 is_Check2 A2)) 3 (fun x=>.leaf (!F9 x.1,())) (fun x=>by kernel_rfl) fun _ _ _=>rfl
theorem Sx (b:Bool):(okE b != 0)=!b:=by unfold okE;cases b <;> rfl
theorem Avm:A6 Tryz.prog 122 Aqr:=Bj (An Am (puOk_cons is_CheckBall.plain A3k puOk_nil) (A0 is_CG1 A2)) 3 (fun x=>.leaf (okE (Jv x.1.1 x.1.2.1)!=0,())) (fun x=>by kernel_rfl) fun x _ _=>by
 show (okE (Jv x.1.1 x.1.2.1)!=0,())=(!I3 x.1,())
 rw [Sx];rfl
theorem Avn:A6 Tryz.prog 133 Aqs:=Bj (An Am puOk_nil (A0 is_still1 A2)) 3 (fun x=>.leaf (!(x.1.2.1.1==0&&(x.1.2.1.2.1==0&&true)),())) (fun x=>by kernel_rfl) fun x _ _=>by
 show (!(x.1.2.1.1==0&&(x.1.2.1.2.1==0&&true)),())=(!Afr x.1,())
 rw [Bool.and_true];rfl
def plCl:List (Nat×PureT):=[(176,Avk),(179,Avl),(122,Aqr),(133,Aqs)]
theorem puCl:Cd Tryz.prog plCl:=puOk_cons is_Check1.plain Ayk (puOk_cons is_Check2.plain Ayl (puOk_cons is_CG1.plain Avm (puOk_cons is_still1.plain Avn (puOk_nil))))
theorem is_ixHoop:FnIs Tryz.prog (227,Tryz.f227):=⟨Tryz.func227,by kernel_rfl,by kernel_rfl⟩
theorem is_cfHoop:FnIs Tryz.prog (175,Tryz.f175):=⟨Tryz.func175,by kernel_rfl,by kernel_rfl⟩
abbrev Ft:List SK:=[]
def Cy (k:SKTs Ft) (x:TCT (Bg)):Bool:=!Ep x
noncomputable def Xd:Code:=(Ah (bodyOf Tryz.f227)).getD 0 .skip
def H6:Lay:={ keys:=[0,1,7,8],ks:=[.d (.sl (Bg)),.f 176 [] Ft,.d cI,.d cI],bs:=[],n:=19,nx:=1000,marks:=[] }
def Acc:Lay:={ keys:=[4],ks:=[.d cI],bs:=[],n:=19,nx:=1000,marks:=[] }
def Acd:Lay:={ keys:=[],ks:=[],bs:=[],n:=19,nx:=1000,marks:=[] }
def G1:XE→Lay
 | .ret=>Acc
 | _=>Acd
def Xe (k:SKTs Ft) (l:List (TCT (Bg))) (n i:Int):H6.T:=((l,((),k),n,i,()),())
def Ni (i:Int):A4 G1:=⟨.ret,((i,()),())⟩
def Nj:A4 G1:=⟨.exit 0,((),())⟩
def Hm (k:SKTs Ft) (l:List (TCT (Bg))) (n:Int) (x:TCT (Bg)) (i:Int):Tree (H6.T⊕A4 G1):=bif Cy k x then .leaf (.inr (Ni i)) else .leaf (.inl (Xe k l n (W64 (i+1))))
def Ace (k:SKTs Ft) (l:List (TCT (Bg))) (n i:Int):Tree (H6.T⊕A4 G1) :=
 bif decide (i<n) then bif decide (0≤i∧i<(l.length:Int)) then Hm k l n (A7 l i.toNat (A5 (Bg))) i else .fail else .leaf (.inr Nj)
def Mi (g:H6.T):Tree (A4 G1) :=
 .br (Ge g.1.2.2.1 g.1.2.2.2.1 g.1.1) (.br (g.1.1.any (Cy g.1.2.1.2)) (.leaf (Ni (g.1.1.findIdx (Cy g.1.2.1.2)))) (.leaf Nj)) .fail
theorem Afs:Av Tryz.prog 227 Xd (Au H6 G1 Mi):=by
 refine Ew (X:=ctx Tryz.prog plCl []) (An Am puCl A2) 7 227 (fun _=>none) (fun _ _ f h=>by simp at h) H6 G1 (fun e=>by cases e <;> exact Nat.le_refl _) Mi (fun g=>Ace g.1.2.1.2 g.1.1 g.1.2.2.1 g.1.2.2.2.1) (fun g=>by kernel_rfl) ?_
 rintro ⟨⟨l,⟨⟨⟩,k⟩,n,i,⟨⟩⟩,⟨⟩⟩ R hw hf
 obtain ⟨hf,h0⟩:=hf
 by_cases hc:n=(l.length:Int)∧i=0
 ·obtain ⟨rfl,rfl⟩:=hc
  have hf:=hf (decide_eq_true ⟨rfl,rfl⟩)
  refine Aei l (A5 (Bg)) (Ej hw.1.1) (fun n i _=>Xe k l n i) (fun x i (_:Unit)=>bif Cy k x then .inr (Ni i) else .inl ()) (fun _=>Nj) (fun _=>True) (fun x i _=>Hm k l l.length x i) (fun i _=>rfl) ?_ () trivial ?_
  ·intro i _ hi Q _ _ hw1 hQ
   show (Hm k l l.length l[i] i).sat Q
   unfold Hm
   rw [hw1]
   cases hp:Cy k l[i] with
   | true=>rw [hp] at hQ;exact hQ
   | false=>rw [hp] at hQ;exact hQ trivial
  ·rw [Jr (Cy k) (fun i=>Ni i) Nj l 0,Nat.zero_add]
   cases ha:l.any (Cy k) with
   | true=>exact hf.1 ha
   | false=>exact hf.2 ha
 ·exact (h0 (decide_eq_false hc)).elim
abbrev Aft:PureT:=Gl [.d (.sl (Bg)),.f 176 [] Ft] [cI] (fun _=>true) (fun x=>(bif x.1.any (Cy x.2.1.2) then (x.1.findIdx (Cy x.2.1.2):Int) else -1,()))
noncomputable def Afu:Ctx:=F8 Tryz.prog plCl [(227,Tryz.f227)] [((227,keyOf Xd),Au H6 G1 Mi)]
theorem A29:CtxOk Afu:=Bt Am puCl (A0 is_ixHoop A2) (C3 rfl (by kernel_rfl) Afs)
def A2a (k:SKTs Ft) (l:List (TCT (Bg))):Tree (Int×Unit):=bif Ge (l.length:Int) 0 l then bif l.any (Cy k) then .leaf ((l.findIdx (Cy k):Int),()) else .leaf (-1,()) else .fail
theorem A2b (k:SKTs Ft) (l:List (TCT (Bg))):(A2a k l).sat (fun y=>y=(bif l.any (Cy k) then (l.findIdx (Cy k):Int) else -1,())):=by
 refine Im (decide_eq_true ⟨rfl,rfl⟩) ?_
 cases l.any (Cy k) <;> exact rfl
theorem Afv:A6 Tryz.prog 227 Aft:=K0 A29 8 (fun x=>A2a x.2.1.2 x.1) (fun x=>by kernel_rfl) fun x _ _=>A2b _ _
abbrev A2c:PureT:=Gl [.d (.sl (Bg)),.f 176 [] Ft] [.b] (fun _=>true) (fun x=>(x.1.any (Cy x.2.1.2),()))
theorem A2d (k:SKTs Ft) (l:List (TCT (Bg))):(Tree.leaf (decide ((bif l.any (Cy k) then (l.findIdx (Cy k):Int) else -1)≥0),()):Tree (Bool×Unit)).sat (fun y=>y=(l.any (Cy k),())):=by
 rw [M1];exact rfl
theorem Afw:A6 Tryz.prog 175 A2c:=K0 (An Am (puOk_cons is_ixHoop.plain Afv puOk_nil) (A0 is_cfHoop A2)) 8 (fun x=>.leaf (decide ((bif x.1.any (Cy x.2.1.2) then (x.1.findIdx (Cy x.2.1.2):Int) else -1)≥0),())) (fun x=>by kernel_rfl) fun x _ _=>A2d _ _
theorem is_ixCell:FnIs Tryz.prog (228,Tryz.f228):=⟨Tryz.func228,by kernel_rfl,by kernel_rfl⟩
theorem is_cfCell:FnIs Tryz.prog (178,Tryz.f178):=⟨Tryz.func178,by kernel_rfl,by kernel_rfl⟩
abbrev Fu:List SK:=[]
def Cz (k:SKTs Fu) (x:TCT (Dh)):Bool:=!F9 x
noncomputable def Xf:Code:=(Ah (bodyOf Tryz.f228)).getD 0 .skip
def H7:Lay:={ keys:=[0,1,7,8],ks:=[.d (.sl (Dh)),.f 179 [] Fu,.d cI,.d cI],bs:=[],n:=19,nx:=1000,marks:=[] }
def Acf:Lay:={ keys:=[4],ks:=[.d cI],bs:=[],n:=19,nx:=1000,marks:=[] }
def Acg:Lay:={ keys:=[],ks:=[],bs:=[],n:=19,nx:=1000,marks:=[] }
def G2:XE→Lay
 | .ret=>Acf
 | _=>Acg
def Xg (k:SKTs Fu) (l:List (TCT (Dh))) (n i:Int):H7.T:=((l,((),k),n,i,()),())
def Nk (i:Int):A4 G2:=⟨.ret,((i,()),())⟩
def Nl:A4 G2:=⟨.exit 0,((),())⟩
def Hn (k:SKTs Fu) (l:List (TCT (Dh))) (n:Int) (x:TCT (Dh)) (i:Int):Tree (H7.T⊕A4 G2):=bif Cz k x then .leaf (.inr (Nk i)) else .leaf (.inl (Xg k l n (W64 (i+1))))
def Ach (k:SKTs Fu) (l:List (TCT (Dh))) (n i:Int):Tree (H7.T⊕A4 G2) :=
 bif decide (i<n) then bif decide (0≤i∧i<(l.length:Int)) then Hn k l n (A7 l i.toNat (A5 (Dh))) i else .fail else .leaf (.inr Nl)
def Mj (g:H7.T):Tree (A4 G2) :=
 .br (Ge g.1.2.2.1 g.1.2.2.2.1 g.1.1) (.br (g.1.1.any (Cz g.1.2.1.2)) (.leaf (Nk (g.1.1.findIdx (Cz g.1.2.1.2)))) (.leaf Nl)) .fail
theorem Afx:Av Tryz.prog 228 Xf (Au H7 G2 Mj):=by
 refine Ew (X:=ctx Tryz.prog plCl []) (An Am puCl A2) 7 228 (fun _=>none) (fun _ _ f h=>by simp at h) H7 G2 (fun e=>by cases e <;> exact Nat.le_refl _) Mj (fun g=>Ach g.1.2.1.2 g.1.1 g.1.2.2.1 g.1.2.2.2.1) (fun g=>by kernel_rfl) ?_
 rintro ⟨⟨l,⟨⟨⟩,k⟩,n,i,⟨⟩⟩,⟨⟩⟩ R hw hf
 obtain ⟨hf,h0⟩:=hf
 by_cases hc:n=(l.length:Int)∧i=0
 ·obtain ⟨rfl,rfl⟩:=hc
  have hf:=hf (decide_eq_true ⟨rfl,rfl⟩)
  refine Aei l (A5 (Dh)) (Ej hw.1.1) (fun n i _=>Xg k l n i) (fun x i (_:Unit)=>bif Cz k x then .inr (Nk i) else .inl ()) (fun _=>Nl) (fun _=>True) (fun x i _=>Hn k l l.length x i) (fun i _=>rfl) ?_ () trivial ?_
  ·intro i _ hi Q _ _ hw1 hQ
   show (Hn k l l.length l[i] i).sat Q
   unfold Hn
   rw [hw1]
   cases hp:Cz k l[i] with
   | true=>rw [hp] at hQ;exact hQ
   | false=>rw [hp] at hQ;exact hQ trivial
  ·rw [Jr (Cz k) (fun i=>Nk i) Nl l 0,Nat.zero_add]
   cases ha:l.any (Cz k) with
   | true=>exact hf.1 ha
   | false=>exact hf.2 ha
 ·exact (h0 (decide_eq_false hc)).elim
abbrev Afy:PureT:=Gl [.d (.sl (Dh)),.f 179 [] Fu] [cI] (fun _=>true) (fun x=>(bif x.1.any (Cz x.2.1.2) then (x.1.findIdx (Cz x.2.1.2):Int) else -1,()))
noncomputable def Afz:Ctx:=F8 Tryz.prog plCl [(228,Tryz.f228)] [((228,keyOf Xf),Au H7 G2 Mj)]
theorem A2e:CtxOk Afz:=Bt Am puCl (A0 is_ixCell A2) (C3 rfl (by kernel_rfl) Afx)
def A2f (k:SKTs Fu) (l:List (TCT (Dh))):Tree (Int×Unit):=bif Ge (l.length:Int) 0 l then bif l.any (Cz k) then .leaf ((l.findIdx (Cz k):Int),()) else .leaf (-1,()) else .fail
theorem A2g (k:SKTs Fu) (l:List (TCT (Dh))):(A2f k l).sat (fun y=>y=(bif l.any (Cz k) then (l.findIdx (Cz k):Int) else -1,())):=by
 refine Im (decide_eq_true ⟨rfl,rfl⟩) ?_
 cases l.any (Cz k) <;> exact rfl
theorem Ag0:A6 Tryz.prog 228 Afy:=K0 A2e 8 (fun x=>A2f x.2.1.2 x.1) (fun x=>by kernel_rfl) fun x _ _=>A2g _ _
abbrev A2h:PureT:=Gl [.d (.sl (Dh)),.f 179 [] Fu] [.b] (fun _=>true) (fun x=>(x.1.any (Cz x.2.1.2),()))
theorem A2i (k:SKTs Fu) (l:List (TCT (Dh))):(Tree.leaf (decide ((bif l.any (Cz k) then (l.findIdx (Cz k):Int) else -1)≥0),()):Tree (Bool×Unit)).sat (fun y=>y=(l.any (Cz k),())):=by
 rw [M1];exact rfl
theorem Ag1:A6 Tryz.prog 178 A2h:=K0 (An Am (puOk_cons is_ixCell.plain Ag0 puOk_nil) (A0 is_cfCell A2)) 8 (fun x=>.leaf (decide ((bif x.1.any (Cz x.2.1.2) then (x.1.findIdx (Cz x.2.1.2):Int) else -1)≥0),())) (fun x=>by kernel_rfl) fun x _ _=>A2i _ _
theorem is_ixBall:FnIs Tryz.prog (189,Tryz.f189):=⟨Tryz.func189,by kernel_rfl,by kernel_rfl⟩
theorem is_cfBall:FnIs Tryz.prog (121,Tryz.f121):=⟨Tryz.func121,by kernel_rfl,by kernel_rfl⟩
abbrev Fv:List SK:=[]
def D1 (k:SKTs Fv) (x:TCT (Bo)):Bool:=!I3 x
noncomputable def Xh:Code:=(Ah (bodyOf Tryz.f189)).getD 0 .skip
def H8:Lay:={ keys:=[0,1,7,8],ks:=[.d (.sl (Bo)),.f 122 [] Fv,.d cI,.d cI],bs:=[],n:=19,nx:=1000,marks:=[] }
def Aci:Lay:={ keys:=[4],ks:=[.d cI],bs:=[],n:=19,nx:=1000,marks:=[] }
def Acj:Lay:={ keys:=[],ks:=[],bs:=[],n:=19,nx:=1000,marks:=[] }
def G3:XE→Lay
 | .ret=>Aci
 | _=>Acj
def Xi (k:SKTs Fv) (l:List (TCT (Bo))) (n i:Int):H8.T:=((l,((),k),n,i,()),())
def Nm (i:Int):A4 G3:=⟨.ret,((i,()),())⟩
def Nn:A4 G3:=⟨.exit 0,((),())⟩
def Ho (k:SKTs Fv) (l:List (TCT (Bo))) (n:Int) (x:TCT (Bo)) (i:Int):Tree (H8.T⊕A4 G3):=bif D1 k x then .leaf (.inr (Nm i)) else .leaf (.inl (Xi k l n (W64 (i+1))))
def Ack (k:SKTs Fv) (l:List (TCT (Bo))) (n i:Int):Tree (H8.T⊕A4 G3) :=
 bif decide (i<n) then bif decide (0≤i∧i<(l.length:Int)) then Ho k l n (A7 l i.toNat (A5 (Bo))) i else .fail else .leaf (.inr Nn)
def Mk (g:H8.T):Tree (A4 G3) :=
 .br (Ge g.1.2.2.1 g.1.2.2.2.1 g.1.1) (.br (g.1.1.any (D1 g.1.2.1.2)) (.leaf (Nm (g.1.1.findIdx (D1 g.1.2.1.2)))) (.leaf Nn)) .fail
theorem Ag2:Av Tryz.prog 189 Xh (Au H8 G3 Mk):=by
 refine Ew (X:=ctx Tryz.prog plCl []) (An Am puCl A2) 7 189 (fun _=>none) (fun _ _ f h=>by simp at h) H8 G3 (fun e=>by cases e <;> exact Nat.le_refl _) Mk (fun g=>Ack g.1.2.1.2 g.1.1 g.1.2.2.1 g.1.2.2.2.1) (fun g=>by kernel_rfl) ?_
 rintro ⟨⟨l,⟨⟨⟩,k⟩,n,i,⟨⟩⟩,⟨⟩⟩ R hw hf
 obtain ⟨hf,h0⟩:=hf
 by_cases hc:n=(l.length:Int)∧i=0
 ·obtain ⟨rfl,rfl⟩:=hc
  have hf:=hf (decide_eq_true ⟨rfl,rfl⟩)
  refine Aei l (A5 (Bo)) (Ej hw.1.1) (fun n i _=>Xi k l n i) (fun x i (_:Unit)=>bif D1 k x then .inr (Nm i) else .inl ()) (fun _=>Nn) (fun _=>True) (fun x i _=>Ho k l l.length x i) (fun i _=>rfl) ?_ () trivial ?_
  ·intro i _ hi Q _ _ hw1 hQ
   show (Ho k l l.length l[i] i).sat Q
   unfold Ho
   rw [hw1]
   cases hp:D1 k l[i] with
   | true=>rw [hp] at hQ;exact hQ
   | false=>rw [hp] at hQ;exact hQ trivial
  ·rw [Jr (D1 k) (fun i=>Nm i) Nn l 0,Nat.zero_add]
   cases ha:l.any (D1 k) with
   | true=>exact hf.1 ha
   | false=>exact hf.2 ha
 ·exact (h0 (decide_eq_false hc)).elim
abbrev Ag3:PureT:=Gl [.d (.sl (Bo)),.f 122 [] Fv] [cI] (fun _=>true) (fun x=>(bif x.1.any (D1 x.2.1.2) then (x.1.findIdx (D1 x.2.1.2):Int) else -1,()))
noncomputable def Ag4:Ctx:=F8 Tryz.prog plCl [(189,Tryz.f189)] [((189,keyOf Xh),Au H8 G3 Mk)]
theorem A2j:CtxOk Ag4:=Bt Am puCl (A0 is_ixBall A2) (C3 rfl (by kernel_rfl) Ag2)
def A2k (k:SKTs Fv) (l:List (TCT (Bo))):Tree (Int×Unit):=bif Ge (l.length:Int) 0 l then bif l.any (D1 k) then .leaf ((l.findIdx (D1 k):Int),()) else .leaf (-1,()) else .fail
theorem A2l (k:SKTs Fv) (l:List (TCT (Bo))):(A2k k l).sat (fun y=>y=(bif l.any (D1 k) then (l.findIdx (D1 k):Int) else -1,())):=by
 refine Im (decide_eq_true ⟨rfl,rfl⟩) ?_
 cases l.any (D1 k) <;> exact rfl
theorem Ag5:A6 Tryz.prog 189 Ag3:=K0 A2j 8 (fun x=>A2k x.2.1.2 x.1) (fun x=>by kernel_rfl) fun x _ _=>A2l _ _
abbrev A2m:PureT:=Gl [.d (.sl (Bo)),.f 122 [] Fv] [.b] (fun _=>true) (fun x=>(x.1.any (D1 x.2.1.2),()))
theorem A2n (k:SKTs Fv) (l:List (TCT (Bo))):(Tree.leaf (decide ((bif l.any (D1 k) then (l.findIdx (D1 k):Int) else -1)≥0),()):Tree (Bool×Unit)).sat (fun y=>y=(l.any (D1 k),())):=by
 rw [M1];exact rfl
theorem Ag6:A6 Tryz.prog 121 A2m:=K0 (An Am (puOk_cons is_ixBall.plain Ag5 puOk_nil) (A0 is_cfBall A2)) 8 (fun x=>.leaf (decide ((bif x.1.any (D1 x.2.1.2) then (x.1.findIdx (D1 x.2.1.2):Int) else -1)≥0),())) (fun x=>by kernel_rfl) fun x _ _=>A2n _ _
theorem is_ixMot:FnIs Tryz.prog (196,Tryz.f196):=⟨Tryz.func196,by kernel_rfl,by kernel_rfl⟩
theorem is_cfMot:FnIs Tryz.prog (132,Tryz.f132):=⟨Tryz.func132,by kernel_rfl,by kernel_rfl⟩
abbrev I4:List SK:=[]
def Eq (k:SKTs I4) (x:TCT (Bz)):Bool:=!Afr x
noncomputable def A2o:Code:=(Ah (bodyOf Tryz.f196)).getD 0 .skip
def J0:Lay:={ keys:=[0,1,7,8],ks:=[.d (.sl (Bz)),.f 133 [] I4,.d cI,.d cI],bs:=[],n:=19,nx:=1000,marks:=[] }
def Ag7:Lay:={ keys:=[4],ks:=[.d cI],bs:=[],n:=19,nx:=1000,marks:=[] }
def Ag8:Lay:={ keys:=[],ks:=[],bs:=[],n:=19,nx:=1000,marks:=[] }
def Hp:XE→Lay
 | .ret=>Ag7
 | _=>Ag8
def A2p (k:SKTs I4) (l:List (TCT (Bz))) (n i:Int):J0.T:=((l,((),k),n,i,()),())
def S4 (i:Int):A4 Hp:=⟨.ret,((i,()),())⟩
def S5:A4 Hp:=⟨.exit 0,((),())⟩
def J1 (k:SKTs I4) (l:List (TCT (Bz))) (n:Int) (x:TCT (Bz)) (i:Int):Tree (J0.T⊕A4 Hp):=bif Eq k x then .leaf (.inr (S4 i)) else .leaf (.inl (A2p k l n (W64 (i+1))))
def Ag9 (k:SKTs I4) (l:List (TCT (Bz))) (n i:Int):Tree (J0.T⊕A4 Hp) :=
 bif decide (i<n) then bif decide (0≤i∧i<(l.length:Int)) then J1 k l n (A7 l i.toNat (A5 (Bz))) i else .fail else .leaf (.inr S5)
def P9 (g:J0.T):Tree (A4 Hp) :=
 .br (Ge g.1.2.2.1 g.1.2.2.2.1 g.1.1) (.br (g.1.1.any (Eq g.1.2.1.2)) (.leaf (S4 (g.1.1.findIdx (Eq g.1.2.1.2)))) (.leaf S5)) .fail
theorem Amg:Av Tryz.prog 196 A2o (Au J0 Hp P9):=by
 refine Ew (X:=ctx Tryz.prog plCl []) (An Am puCl A2) 7 196 (fun _=>none) (fun _ _ f h=>by simp at h) J0 Hp (fun e=>by cases e <;> exact Nat.le_refl _) P9 (fun g=>Ag9 g.1.2.1.2 g.1.1 g.1.2.2.1 g.1.2.2.2.1) (fun g=>by kernel_rfl) ?_
 rintro ⟨⟨l,⟨⟨⟩,k⟩,n,i,⟨⟩⟩,⟨⟩⟩ R hw hf
 obtain ⟨hf,h0⟩:=hf
 by_cases hc:n=(l.length:Int)∧i=0
 ·obtain ⟨rfl,rfl⟩:=hc
  have hf:=hf (decide_eq_true ⟨rfl,rfl⟩)
  refine Aei l (A5 (Bz)) (Ej hw.1.1) (fun n i _=>A2p k l n i) (fun x i (_:Unit)=>bif Eq k x then .inr (S4 i) else .inl ()) (fun _=>S5) (fun _=>True) (fun x i _=>J1 k l l.length x i) (fun i _=>rfl) ?_ () trivial ?_
  ·intro i _ hi Q _ _ hw1 hQ
   show (J1 k l l.length l[i] i).sat Q
   unfold J1
   rw [hw1]
   cases hp:Eq k l[i] with
   | true=>rw [hp] at hQ;exact hQ
   | false=>rw [hp] at hQ;exact hQ trivial
  ·rw [Jr (Eq k) (fun i=>S4 i) S5 l 0,Nat.zero_add]
   cases ha:l.any (Eq k) with
   | true=>exact hf.1 ha
   | false=>exact hf.2 ha
 ·exact (h0 (decide_eq_false hc)).elim
abbrev Amh:PureT:=Gl [.d (.sl (Bz)),.f 133 [] I4] [cI] (fun _=>true) (fun x=>(bif x.1.any (Eq x.2.1.2) then (x.1.findIdx (Eq x.2.1.2):Int) else -1,()))
noncomputable def Ami:Ctx:=F8 Tryz.prog plCl [(196,Tryz.f196)] [((196,keyOf A2o),Au J0 Hp P9)]
theorem A6h:CtxOk Ami:=Bt Am puCl (A0 is_ixMot A2) (C3 rfl (by kernel_rfl) Amg)
def A9a (k:SKTs I4) (l:List (TCT (Bz))):Tree (Int×Unit):=bif Ge (l.length:Int) 0 l then bif l.any (Eq k) then .leaf ((l.findIdx (Eq k):Int),()) else .leaf (-1,()) else .fail
theorem A6i (k:SKTs I4) (l:List (TCT (Bz))):(A9a k l).sat (fun y=>y=(bif l.any (Eq k) then (l.findIdx (Eq k):Int) else -1,())):=by
 refine Im (decide_eq_true ⟨rfl,rfl⟩) ?_
 cases l.any (Eq k) <;> exact rfl
theorem Amj:A6 Tryz.prog 196 Amh:=K0 A6h 8 (fun x=>A9a x.2.1.2 x.1) (fun x=>by kernel_rfl) fun x _ _=>A6i _ _
abbrev A9b:PureT:=Gl [.d (.sl (Bz)),.f 133 [] I4] [.b] (fun _=>true) (fun x=>(x.1.any (Eq x.2.1.2),()))
theorem A6j (k:SKTs I4) (l:List (TCT (Bz))):(Tree.leaf (decide ((bif l.any (Eq k) then (l.findIdx (Eq k):Int) else -1)≥0),()):Tree (Bool×Unit)).sat (fun y=>y=(l.any (Eq k),())):=by
 rw [M1];exact rfl
theorem Amk:A6 Tryz.prog 132 A9b:=K0 (An Am (puOk_cons is_ixMot.plain Amj puOk_nil) (A0 is_cfMot A2)) 8 (fun x=>.leaf (decide ((bif x.1.any (Eq x.2.1.2) then (x.1.findIdx (Eq x.2.1.2):Int) else -1)≥0),())) (fun x=>by kernel_rfl) fun x _ _=>A6j _ _
end St
end V
end Go.Proofs.YtlangijnealfjaaGreat
namespace Go.Proofs.YtlangijnealfjaaGreat
open Go.RowKit
namespace V
namespace St
theorem is_lposts:FnIs Tryz.prog (52,Tryz.f52):=⟨Tryz.func52,by kernel_rfl,by kernel_rfl⟩
theorem is_lwires:FnIs Tryz.prog (110,Tryz.f110):=⟨Tryz.func110,by kernel_rfl,by kernel_rfl⟩
theorem is_turned:FnIs Tryz.prog (182,Tryz.f182):=⟨Tryz.func182,by kernel_rfl,by kernel_rfl⟩
abbrev kLw:List SK:=[.d .s,.d cI,.d cI,.d cI,.d (.sl Bg),.d cI,.d cI,.d cI,.d cI,.d cI,.d (.sl Dh)]
def Ey (x:SKTs kLw):TCT Aq:=(x.1,x.2.1,x.2.2.1,x.2.2.2.1,x.2.2.2.2.1,((x.2.2.2.2.2.1,x.2.2.2.2.2.2.1,()),x.2.2.2.2.2.2.2.1,()),x.2.2.2.2.2.2.2.2.1,x.2.2.2.2.2.2.2.2.2.1,x.2.2.2.2.2.2.2.2.2.2.1,())
def C0 (l:TCT Aq):SKTs kLw:=(l.1,l.2.1,l.2.2.1,l.2.2.2.1,l.2.2.2.2.1,l.2.2.2.2.2.1.1.1,l.2.2.2.2.2.1.1.2.1,l.2.2.2.2.2.1.2.1,l.2.2.2.2.2.2.1,l.2.2.2.2.2.2.2.1,l.2.2.2.2.2.2.2.2.1,())
def As (l:TCT Aq):List (TCT Bg):=l.2.2.2.2.1
def Ib (l:TCT Aq):TCT A1:=l.2.2.2.2.2.1
def dW (h:TCT Bg):Int:=W64 (W64 (Int.tdiv h.2.2.1 2)+h.2.2.2.1)
def M4 (x y r:Int):TCT A1:=((x,y,()),r,())
def w2 (h:TCT Bg):List (TCT A1):=bif h.2.2.2.2.1 then [M4 h.1 (W64 (h.2.1-dW h)) h.2.2.2.1,M4 h.1 (W64 (h.2.1+dW h)) h.2.2.2.1] else [M4 (W64 (h.1-dW h)) h.2.1 h.2.2.2.1,M4 (W64 (h.1+dW h)) h.2.1 h.2.2.2.1]
def B7 (l:TCT Aq):List (TCT A1):=(As l).flatMap w2++[Ib l]
noncomputable def Avp:Code:=(Ah (bodyOf Tryz.f52)).getD 0 .skip
def Wl:Lay:={ keys:=[1,2,7,8,9],ks:=[.p 0 0 0 0,.o 30 A1,.d (.sl Bg),.d cI,.d cI],bs:=[(0,33,kLw)],n:=24,nx:=1000,marks:=[] }
def Avq:Lay:={ keys:=[1,2],ks:=[.p 0 0 0 0,.o 30 A1],bs:=[(0,33,kLw)],n:=24,nx:=1000,marks:=[] }
def A04:XE→Lay:=fun _=>Avq
def Aga (x:SKTs kLw) (hs:List (TCT Bg)) (n:Int) (i:Int) (o:List (TCT A1)):Wl.T:=(((),o,hs,n,i,()),(x,()))
def Xj (x:SKTs kLw) (o:List (TCT A1)):A4 A04:=⟨.exit 0,(((),o,()),(x,()))⟩
def A6k (x:SKTs kLw) (hs:List (TCT Bg)) (n i:Int) (o w:List (TCT A1)):Tree (Wl.T⊕A4 A04):=bif Dy o w 24 then .leaf (.inl (Aga x hs n (W64 (i+1)) (o++w))) else .fail
def A05 (x:SKTs kLw) (hs:List (TCT Bg)) (n i:Int) (o:List (TCT A1)) (h:TCT Bg):Tree (Wl.T⊕A4 A04) :=
 bif h.2.2.2.2.1 then A6k x hs n i o [M4 (W64 (h.1-0)) (W64 (h.2.1-dW h)) h.2.2.2.1,M4 (W64 (h.1+0)) (W64 (h.2.1+dW h)) h.2.2.2.1]
 else A6k x hs n i o [M4 (W64 (h.1-dW h)) (W64 (h.2.1-0)) h.2.2.2.1,M4 (W64 (h.1+dW h)) (W64 (h.2.1+0)) h.2.2.2.1]
def A2q (g:Wl.T):Tree (Wl.T⊕A4 A04) :=
 bif decide (g.1.2.2.2.2.1<g.1.2.2.2.1) then bif decide (0≤g.1.2.2.2.2.1∧g.1.2.2.2.2.1<((g.1.2.2.1:List (TCT Bg)).length:Int)) then A05 g.2.1 g.1.2.2.1 g.1.2.2.2.1 g.1.2.2.2.2.1 g.1.2.1 (A7 g.1.2.2.1 (Int.toNat g.1.2.2.2.2.1) (A5 Bg)) else .fail else .leaf (.inr (Xj g.2.1 g.1.2.1))
def Agb (g:Wl.T):Nat:=(g.1.2.2.1:List (TCT Bg)).length+1
noncomputable def Avr:Ctx:=ctx Tryz.prog [] [(110,Tryz.f110),(182,Tryz.f182)]
theorem Agc:CtxOk Avr:=An Am puOk_nil (A0 is_lwires (A0 is_turned A2))
theorem Aym:Av Tryz.prog 52 Avp (Au Wl A04 (D5 [.exit 0] A2q Agb)):=Bu Agc 7 _ Wl A04 (fun _=>Nat.le_refl _) [.exit 0] A2q Agb (fun g=>by kernel_rfl)
noncomputable def Ayn:Ctx:=F8 Tryz.prog [] [(52,Tryz.f52)] [((52,2),Au Wl A04 (D5 [.exit 0] A2q Agb))]
theorem Aml:CtxOk Ayn:=Bt Am puOk_nil (A0 is_lposts A2) (C3 (by kernel_rfl) (by kernel_rfl) Aym)
def Amm (l:TCT Aq):Option (A4 A04):=iter A2q ((As l).length+1) (Aga (C0 l) (As l) (As l).length 0 [])
abbrev TPo:=Tree (TCTs [.sl A1])
def A6l (r:Avq.T):TPo:=bif Dy r.1.2.1 [Ib (Ey r.2.1)] 24 then .leaf (r.1.2.1++[Ib (Ey r.2.1)],()) else .fail
def Ash (l:TCT Aq):TPo:=bif isE (.exit 0) (Amm l) then A6l (D4 (.exit 0) (Amm l)) else .fail
abbrev J2:PureT:=Bh [Aq] [.sl A1] (fun x=>decide ((As x.1).length≤1000)) (fun x=>(B7 x.1,()))
theorem Pa {α β E:Type} (w:α→List β) (ex:List β→E):∀ (l:List α) (i:Nat) (s:List β),N8 (fun _ x s=>some (.inl (s++w x))) (fun s=>some (ex s)) i l s=some (ex (s++l.flatMap w))
 | [],_,s=>by simp [N8]
 | x::l,i,s=>by simp only [N8];rw [Pa w ex l (i+1)];simp [List.append_assoc]
theorem A6m (h:TCT Bg):(w2 h).length=2:=by unfold w2;cases h.2.2.2.2.1 <;> rfl
theorem No (l:List (TCT Bg)):(l.flatMap w2).length=2*l.length:=by
 induction l with
 | nil=>rfl
 | cons h l ih =>
  have e:((h::l).flatMap w2).length=(w2 h).length+(l.flatMap w2).length:=by rw [List.flatMap_cons,List.length_append]
  rw [e,ih,A6m,List.length_cons];omega
theorem Xk {o w:List (TCT A1)} (h:o.length+w.length≤4000):Dy o w 24=true:=by
 rw [F2];exact decide_eq_true (by omega)
theorem Asi {h:TCT Bg} (hw:WFD Bg h):W64 (h.1-0)=h.1∧W64 (h.1+0)=h.1∧W64 (h.2.1-0)=h.2.1∧W64 (h.2.1+0)=h.2.1:=by
 obtain ⟨x,y,g,w,a,⟨⟩⟩:=h
 obtain ⟨h1,h2,_⟩:=hw
 have h1 : -9223372036854775808≤x∧x≤9223372036854775807:=h1
 have h2 : -9223372036854775808≤y∧y≤9223372036854775807:=h2
 exact ⟨by rw [Int.sub_zero];exact B6 h1.1 h1.2,by rw [Int.add_zero];exact B6 h1.1 h1.2,by rw [Int.sub_zero];exact B6 h2.1 h2.2,by rw [Int.add_zero];exact B6 h2.1 h2.2⟩
theorem Amn {l:TCT Aq} (hw:∀ h ∈ As l,WFD Bg h) (hl:(As l).length≤1000):Amm l=some (Xj (C0 l) ((As l).flatMap w2)):=by
 unfold Amm
 have key:=Dp (st:=A2q) (As l) (fun i o=>Aga (C0 l) (As l) (As l).length (i:Int) o) (fun _ h o=>some (.inl (o++w2 h))) (fun o=>some (Xj (C0 l) o)) (fun i o=>o.length=2*i)
  (fun i o hi hI=>by
   simp only
   refine ⟨?_,by rw [List.length_append,hI,A6m];omega⟩
   show (bif decide ((i:Int)<((As l).length:Int)) then bif decide (0≤(i:Int)∧(i:Int)<((As l).length:Int)) then A05 (C0 l) (As l) (As l).length (i:Int) o (A7 (As l) (Int.toNat (i:Int)) (A5 Bg)) else .fail else .leaf (.inr (Xj (C0 l) o))).run=_
   rw [decide_eq_true (show (i:Int)<((As l).length:Int) by omega),decide_eq_true (show 0≤(i:Int)∧(i:Int)<((As l).length:Int) by omega),show Int.toNat (i:Int)=i by omega,C7 hi]
   obtain ⟨e1,e2,e3,e4⟩:=Asi (hw _ (List.getElem_mem hi))
   simp only [cond_true]
   unfold A05 w2 A6k
   rw [e1,e2,e3,e4,B6 (n:=(i:Int)+1) (by omega) (by omega)]
   cases (As l)[i].2.2.2.2.1 with
   | true =>
    simp only [cond_true]
    rw [Xk (by simp only [List.length_cons,List.length_nil,hI];omega)]
    rfl
   | false =>
    simp only [cond_false]
    rw [Xk (by simp only [List.length_cons,List.length_nil,hI];omega)]
    rfl)
  (fun o e hI he=>by
   cases he
   show (bif decide (((As l).length:Int)<((As l).length:Int)) then _ else Tree.leaf (Sum.inr (Xj (C0 l) o)):Tree (Wl.T⊕A4 A04)).run=_
   rw [decide_eq_false (show ¬ ((As l).length:Int)<((As l).length:Int) by omega)]
   rfl)
  (As l).length 0 [] (Xj (C0 l) ((As l).flatMap w2)) ((As l).length+1) (by omega) (by omega) rfl (by rw [List.drop_zero,Pa,List.nil_append])
 exact key
theorem A06:A6 Tryz.prog 52 J2:=Bj Aml 7 (fun x=>Ash x.1) (fun x=>by kernel_rfl) fun x hok hw=>by
 have hl:(As x.1).length≤1000:=of_decide_eq_true hok
 show (Ash x.1).sat _
 unfold Ash
 rw [Amn (Aq4 hw.1.2.2.2.2.1) hl]
 show (A6l (((),(As x.1).flatMap w2,()),(C0 x.1,()))).sat _
 unfold A6l
 simp only
 rw [Xk (by rw [No];simp only [List.length_cons,List.length_nil];omega)]
 exact rfl
end St
end V
end Go.Proofs.YtlangijnealfjaaGreat
namespace Go.Proofs.YtlangijnealfjaaGreat
open Go.RowKit
namespace V
namespace St
def Wm:Lay:={ keys:=[1,3,4],ks:=[.p 0 0 0 0,.o 30 A1,.d cI],bs:=[(0,33,kLw)],n:=73,nx:=1000,marks:=[] }
def Avt:Lay:={ keys:=[1,3],ks:=[.p 0 0 0 0,.o 30 A1],bs:=[(0,33,kLw)],n:=73,nx:=1000,marks:=[] }
def A07:XE→Lay:=fun _=>Avt
def Hq (x:SKTs kLw) (i:Int) (o:List (TCT A1)):Wm.T:=(((),o,i,()),(x,()))
def Ic (x:SKTs kLw) (o:List (TCT A1)):A4 A07:=⟨.exit 0,(((),o,()),(x,()))⟩
def A6n (x:SKTs kLw) (i:Int) (o w:List (TCT A1)):Tree (Wm.T⊕A4 A07):=bif Dy o w 24 then .leaf (.inl (Hq x (W64 (i+1)) (o++w))) else .fail
def A08 (x:SKTs kLw) (i:Int) (o:List (TCT A1)) (h:TCT Bg):Tree (Wm.T⊕A4 A07) :=
 bif h.2.2.2.2.1 then A6n x i o [M4 h.1 (W64 (h.2.1-dW h)) h.2.2.2.1,M4 h.1 (W64 (h.2.1+dW h)) h.2.2.2.1]
 else A6n x i o [M4 (W64 (h.1-dW h)) h.2.1 h.2.2.2.1,M4 (W64 (h.1+dW h)) h.2.1 h.2.2.2.1]
def Ie (g:Wm.T):Tree (Wm.T⊕A4 A07) :=
 bif decide (g.1.2.2.1<((g.2.1.2.2.2.2.1:List (TCT Bg)).length:Int)) then bif decide (0≤g.1.2.2.1∧g.1.2.2.1<((g.2.1.2.2.2.2.1:List (TCT Bg)).length:Int)) then A08 g.2.1 g.1.2.2.1 g.1.2.1 (A7 g.2.1.2.2.2.2.1 (Int.toNat g.1.2.2.1) (A5 Bg)) else .fail else .leaf (.inr (Ic g.2.1 g.1.2.1))
def Sy (g:Wm.T):Nat:=(g.2.1.2.2.2.2.1:List (TCT Bg)).length+1
noncomputable def Agd:Ctx:=ctx Tryz.prog [] []
theorem Sz:CtxOk Agd:=An Am puOk_nil A2
def Amp (l:TCT Aq):Option (A4 A07):=iter Ie ((As l).length+1) (Hq (C0 l) 0 [])
def A6o (r:Avt.T):TPo:=bif Dy r.1.2.1 [Ib (Ey r.2.1)] 24 then .leaf (r.1.2.1++[Ib (Ey r.2.1)],()) else .fail
def Asj (l:TCT Aq):TPo:=bif isE (.exit 0) (Amp l) then A6o (D4 (.exit 0) (Amp l)) else .fail
theorem Amq {l:TCT Aq} (hl:(As l).length≤1000):Amp l=some (Ic (C0 l) ((As l).flatMap w2)):=by
 unfold Amp
 have key:=Dp (st:=Ie) (As l) (fun i o=>Hq (C0 l) (i:Int) o) (fun _ h o=>some (.inl (o++w2 h))) (fun o=>some (Ic (C0 l) o)) (fun i o=>o.length=2*i)
  (fun i o hi hI=>by
   simp only
   refine ⟨?_,by rw [List.length_append,hI,A6m];omega⟩
   show (bif decide ((i:Int)<((As l).length:Int)) then bif decide (0≤(i:Int)∧(i:Int)<((As l).length:Int)) then A08 (C0 l) (i:Int) o (A7 (As l) (Int.toNat (i:Int)) (A5 Bg)) else .fail else .leaf (.inr (Ic (C0 l) o))).run=_
   rw [decide_eq_true (show (i:Int)<((As l).length:Int) by omega),decide_eq_true (show 0≤(i:Int)∧(i:Int)<((As l).length:Int) by omega),show Int.toNat (i:Int)=i by omega,C7 hi]
   simp only [cond_true]
   unfold A08 w2 A6n
   rw [B6 (n:=(i:Int)+1) (by omega) (by omega)]
   cases (As l)[i].2.2.2.2.1 with
   | true =>
    simp only [cond_true]
    rw [Xk (by simp only [List.length_cons,List.length_nil,hI];omega)]
    rfl
   | false =>
    simp only [cond_false]
    rw [Xk (by simp only [List.length_cons,List.length_nil,hI];omega)]
    rfl)
  (fun o e hI he=>by
   cases he
   show (bif decide (((As l).length:Int)<((As l).length:Int)) then _ else Tree.leaf (Sum.inr (Ic (C0 l) o)):Tree (Wm.T⊕A4 A07)).run=_
   rw [decide_eq_false (show ¬ ((As l).length:Int)<((As l).length:Int) by omega)]
   rfl)
  (As l).length 0 [] (Ic (C0 l) ((As l).flatMap w2)) ((As l).length+1) (by omega) (by omega) rfl (by rw [List.drop_zero,Pa,List.nil_append])
 exact key
end St
end V
end Go.Proofs.YtlangijnealfjaaGreat
namespace Go.Proofs.YtlangijnealfjaaGreat
open Go.RowKit
namespace V
namespace St
theorem is_vname:FnIs Tryz.prog (174,Tryz.f174):=⟨Tryz.func174,by kernel_rfl,by kernel_rfl⟩
theorem is_vname1:FnIs Tryz.prog (226,Tryz.f226):=⟨Tryz.func226,by kernel_rfl,by kernel_rfl⟩
theorem is_sCont:FnIs Tryz.prog (157,Tryz.f157):=⟨Tryz.func157,by kernel_rfl,by kernel_rfl⟩
theorem is_sIdx:FnIs Tryz.prog (209,Tryz.f209):=⟨Tryz.func209,by kernel_rfl,by kernel_rfl⟩
theorem is_sidx:FnIs Tryz.prog (240,Tryz.f240):=⟨Tryz.func240,by kernel_rfl,by kernel_rfl⟩
def A2s (r:Int):Bool:=(decide (r<97)||decide (r>122))&&(decide (r<48)||decide (r>57))
def Age (r:Int):TBo:=bif decide (r<97) then bif decide (r<48) then .leaf (true,()) else .leaf (decide (r>57),()) else bif decide (r>122) then bif decide (r<48) then .leaf (true,()) else .leaf (decide (r>57),()) else .leaf (false,())
abbrev Agf:PureT:=Bh [.i .i32] [.b] (fun _=>true) (fun x=>(A2s x.1,()))
theorem Agg (r:Int):(Age r).sat (fun y=>y=(A2s r,())):=by
 unfold Age A2s
 cases decide (r<97) <;> cases decide (r>122) <;> cases decide (r<48) <;> exact rfl
theorem Agh:A6 Tryz.prog 226 Agf:=Bj (An Am puOk_nil (A0 is_vname1 A2)) 3 (fun x=>Age x.1) (fun x=>by kernel_rfl) fun x _ _=>Agg x.1
def plNm:List (Nat×PureT):=[(226,Agf)]
theorem puNm:Cd Tryz.prog plNm:=puOk_cons is_vname1.plain Agh puOk_nil
def nmT (t:ByteArray):Nat→Nat→TBo
 | 0,_=>.fail
 | n+1,pos=>bif Nat.ble (pos+1) t.size then
   bif Fe .i64 (pos:Int)&&Fe .i32 ((Utf8.decode t pos).1:Int) then
    bif A2s ((Utf8.decode t pos).1:Int)==true then .leaf (!decide ((pos:Int)≥0),()) else nmT t n (pos+(Utf8.decode t pos).2)
   else .fail
  else .leaf (!decide ((-1:Int)≥0),())
def A09 (t:ByteArray):TBo:=bif Fe .i64 (t.size:Int) then bif decide ((t.size:Int)≥1) then bif Fe .i64 (t.size:Int) then bif decide ((t.size:Int)≤20) then nmT t 21 0 else .leaf (false,()) else .fail else .leaf (false,()) else .fail
noncomputable def Avu:Ctx:=Aej 21 Tryz.prog plNm [(174,Tryz.f174),(157,Tryz.f157),(209,Tryz.f209),(240,Tryz.f240)]
theorem Amr:CtxOk Avu:=M3 Am puNm (A0 is_vname (A0 is_sCont (A0 is_sIdx (A0 is_sidx A2))))
theorem Acl (t:ByteArray):Ck Avu 12 (.fn 174) [.val (.string t)] Bs 0 (Fq Tryz.prog [.b])=A09 t:=by kernel_rfl
end St
end V
end Go.Proofs.YtlangijnealfjaaGreat
namespace Go.Proofs.YtlangijnealfjaaGreat
open Go.RowKit
namespace V
namespace St
def Cq (t:ByteArray):List UInt8:=t.data.toList
def Pb (b:UInt8):Bool:=A2s ((b.toNat:Nat):Int)
def H9 (t:ByteArray):Bool:=decide (1≤t.size∧t.size≤20)&&!(Cq t).any Pb
theorem Lf (t:ByteArray):(Cq t).length=t.size:=Array.length_toList
theorem Acm {n:Int} (h:0≤n) (h2:n≤9223372036854775807):Fe .i64 n=true:=by
 unfold Fe
 rw [decide_eq_true (show Gb .i64≤n by simp only [Gb];omega),decide_eq_true (show n≤Aw .i64 by simp only [Aw];omega)];rfl
theorem Avv {n:Int} (h:0≤n) (h2:n≤2147483647):Fe .i32 n=true:=by
 unfold Fe
 rw [decide_eq_true (show Gb .i32≤n by simp only [Gb];omega),decide_eq_true (show n≤Aw .i32 by simp only [Aw];omega)];rfl
theorem Asl {t:ByteArray} {i:Nat} (h:i<t.size):t.get! i=(Cq t)[i]'(by rw [Lf];exact h):=by
 have h':i<t.data.size:=h
 show t.data[i]! = _
 rw [getElem!_pos t.data i h']
 simp [Cq]
theorem Asm {t:ByteArray} {i:Nat} (h:(t.get! i).toNat<128):Utf8.decode t i=((t.get! i).toNat,1):=by
 unfold Utf8.decode
 simp only [Nat.add_zero]
 rw [if_pos h]
theorem Asn {t:ByteArray} {i:Nat} (h:¬ (t.get! i).toNat<128):128≤(Utf8.decode t i).1∧(Utf8.decode t i).1≤2100000:=by
 have hb:(t.get! i).toNat<256:=(t.get! i).toNat_lt
 unfold Utf8.decode
 simp only [Nat.add_zero]
 rw [if_neg h]
 have m1:=Nat.mod_lt (t.get! (i+1)).toNat (show 0<64 by omega)
 have m2:=Nat.mod_lt (t.get! (i+2)).toNat (show 0<64 by omega)
 have m3:=Nat.mod_lt (t.get! (i+3)).toNat (show 0<64 by omega)
 have r:128≤Utf8.runeError∧Utf8.runeError≤2100000:=by decide
 split
 ·split
  ·rename_i hc
   simp only
   omega
  ·exact r
 ·split
  ·split
   ·rename_i hc
    simp only [ge_iff_le,Bool.and_eq_true,decide_eq_true_eq] at hc
    simp only
    omega
   ·exact r
  ·split
   ·split
    ·rename_i hc
     simp only [ge_iff_le,Bool.and_eq_true,decide_eq_true_eq] at hc
     simp only
     omega
    ·exact r
   ·exact r
theorem Agi {r:Nat} (h:128≤r):A2s (r:Int)=true:=by
 unfold A2s
 rw [decide_eq_true (show (r:Int)>122 by omega),decide_eq_true (show (r:Int)>57 by omega)]
 simp
theorem Agj {t:ByteArray} (hs:t.size≤20):∀ (n pos:Nat),pos≤t.size→t.size-pos<n→nmT t n pos=.leaf (!((Cq t).drop pos).any Pb,())
 | 0,_,_,h=>absurd h (Nat.not_lt_zero _)
 | n+1,pos,hp,hn=>by
  unfold nmT
  by_cases hlt:pos<t.size
  ·have hb:Nat.ble (pos+1) t.size=true:=by rw [Nat.ble_eq];omega
   have hd:(Cq t).drop pos=(Cq t)[pos]'(by rw [Lf];exact hlt)::(Cq t).drop (pos+1):=List.drop_eq_getElem_cons _
   rw [hb,cond_true,hd,List.any_cons,← Asl hlt]
   by_cases h8:(t.get! pos).toNat<128
   ·rw [Asm h8]
    simp only
    have hk:(Fe .i64 (pos:Int)&&Fe .i32 (((t.get! pos).toNat:Nat):Int))=true:=by
     rw [Acm (by omega) (by omega),Avv (by omega) (by omega)];rfl
    rw [hk,cond_true]
    show (bif Pb (t.get! pos)==true then _ else _:TBo)=_
    cases hbd:Pb (t.get! pos) with
    | true =>
     rw [decide_eq_true (show (pos:Int)≥0 by omega)]
     rfl
    | false =>
     show nmT t n (pos+1)=_
     rw [Agj hs n (pos+1) (by omega) (by omega),Bool.false_or]
   ·obtain ⟨h1,h2⟩:=Asn h8
    have hk:(Fe .i64 (pos:Int)&&Fe .i32 (((Utf8.decode t pos).1:Nat):Int))=true:=by
     rw [Acm (by omega) (by omega),Avv (by omega) (by omega)];rfl
    have hbu:Pb (t.get! pos)=true:=Agi (by omega)
    rw [hk,cond_true,Agi h1,hbu,decide_eq_true (show (pos:Int)≥0 by omega)]
    rfl
  ·have hb:Nat.ble (pos+1) t.size=false:=by
    cases h:Nat.ble (pos+1) t.size with
    | false=>rfl
    | true=>rw [Nat.ble_eq] at h;omega
   rw [hb,cond_false,List.drop_eq_nil_of_le (by rw [Lf];omega)]
   rfl
theorem Acn {t:ByteArray} (h64:(t.size:Int)≤Aw .i64):(A09 t).sat (fun y=>y=(H9 t,())):=by
 unfold A09 H9
 have hk:Fe .i64 (t.size:Int)=true:=Acm (by omega) (by simp only [Aw] at h64;exact h64)
 rw [hk]
 simp only [cond_true]
 by_cases h1:1≤t.size
 ·rw [decide_eq_true (show (t.size:Int)≥1 by omega)]
  by_cases h2:t.size≤20
  ·rw [decide_eq_true (show (t.size:Int)≤20 by omega),decide_eq_true (show 1≤t.size∧t.size≤20 from ⟨h1,h2⟩),cond_true,cond_true,Agj h2 21 0 (by omega) (by omega)]
   exact rfl
  ·rw [decide_eq_false (show ¬ (t.size:Int)≤20 by omega),decide_eq_false (show ¬ (1≤t.size∧t.size≤20) from fun h=>h2 h.2)]
   exact rfl
 ·rw [decide_eq_false (show ¬ (t.size:Int)≥1 by omega),decide_eq_false (show ¬ (1≤t.size∧t.size≤20) from fun h=>h1 h.1)]
  exact rfl
end St
end V
end Go.Proofs.YtlangijnealfjaaGreat
namespace Go.Proofs.YtlangijnealfjaaGreat
open Go.RowKit
namespace V
namespace St
abbrev A0a:PureT:=Bh [.s] [.b] (fun x=>decide ((x.1.size:Int)≤Aw .i64)) (fun x=>(H9 x.1,()))
theorem Ams:A6 Tryz.prog 174 A0a:=Bj Amr 12 (fun x=>A09 x.1) (fun x=>Acl x.1) fun x hok _=>Acn (of_decide_eq_true hok)
def A6p:Lay:={ keys:=[0,3],ks:=[.d .s,.d cI],bs:=[],n:=41,nx:=1000,marks:=[] }
def Ayq:Lay:={ keys:=[],ks:=[],bs:=[],n:=41,nx:=1000,marks:=[] }
def Avx:Lay:={ keys:=[2],ks:=[.d .b],bs:=[],n:=41,nx:=1000,marks:=[] }
def A6q:XE→Lay:=fun e=>match e with | .ret=>Avx | _=>Ayq
def Xl (t:ByteArray) (i:Int):A6p.T:=((t,i,()),())
def T0:A4 A6q:=⟨.ret,((false,()),())⟩
def A2t:A4 A6q:=⟨.exit 0,((),())⟩
abbrev TNm:=Tree (A6p.T⊕A4 A6q)
def byI (t:ByteArray) (i:Int):Int:=((((t.data.toList.getD (Int.toNat i) 0).toNat:Nat)):Int)
def inI (t:ByteArray) (i:Int) (k:TNm):TNm:=bif decide (0≤i∧i<(t.size:Int)) then k else .fail
def A6r (t:ByteArray) (i:Int):TNm:=inI t i (bif decide (byI t i≥48) then inI t i (bif !decide (byI t i≤57) then .leaf (.inr T0) else .leaf (.inl (Xl t (W64 (i+1))))) else .leaf (.inr T0))
def T8 (t:ByteArray) (i:Int):TNm :=
 bif Fe .i64 (t.size:Int) then bif decide (i<(t.size:Int)) then
  inI t i (bif decide (byI t i≥97) then inI t i (bif decide (byI t i≤122) then .leaf (.inl (Xl t (W64 (i+1)))) else A6r t i) else A6r t i)
 else .leaf (.inr A2t) else .fail
def Xm (g:A6p.T):TNm:=T8 g.1.1 g.1.2.1
def Agk (g:A6p.T):Nat:=(Cq g.1.1).length+1
noncomputable def Avy:Ctx:=ctx Tryz.prog [] []
theorem Agl:CtxOk Avy:=An Am puOk_nil A2
def Agm (t:ByteArray):Option (A4 A6q):=iter Xm ((Cq t).length+1) (Xl t 0)
def Aso (t:ByteArray):TBo:=bif Fe .i64 (t.size:Int) then bif decide ((t.size:Int)<1) then .leaf (false,()) else bif Fe .i64 (t.size:Int) then bif decide ((t.size:Int)>20) then .leaf (false,()) else
 bif isE .ret (Agm t) then .leaf ((D4 .ret (Agm t)).1.1,()) else bif isE (.exit 0) (Agm t) then .leaf (true,()) else .fail else .fail else .fail
theorem Asp {t:ByteArray} {i:Nat} (h:i<(Cq t).length):byI t (i:Int)=((((Cq t)[i]).toNat:Nat):Int):=by
 unfold byI
 rw [show Int.toNat (i:Int)=i by omega]
 show ((((Cq t).getD i 0).toNat:Nat):Int)=_
 rw [List.getD_eq_getElem?_getD,List.getElem?_eq_getElem h]
 rfl
theorem Amu {t:ByteArray} (h64:(t.size:Int)≤Aw .i64):Agm t=some (bif (Cq t).any Pb then T0 else A2t):=by
 have h64':(t.size:Int)≤9223372036854775807:=h64
 have hlen:=Lf t
 unfold Agm
 have key:=Dp (st:=Xm) (Cq t) (fun i (_:Unit)=>Xl t (i:Int)) (fun _ b _=>bif Pb b then some (.inr T0) else some (.inl ())) (fun _=>some A2t) (fun _ _=>True)
  (fun i s hi _=>by
   have hI:decide (0≤(i:Int)∧(i:Int)<(t.size:Int))=true:=decide_eq_true (by omega)
   have hrun:(Xm (Xl t (i:Int))).run=some (bif Pb (Cq t)[i] then .inr T0 else .inl (Xl t ((i+1:Nat):Int))):=by
    show (T8 t (i:Int)).run=_
    unfold T8 A6r inI Pb A2s
    rw [Acm (by omega) h64',decide_eq_true (show (i:Int)<(t.size:Int) by omega),hI,Asp hi,B6 (n:=(i:Int)+1) (by omega) (by omega)]
    generalize ((((Cq t)[i]).toNat:Nat):Int)=b
    by_cases h1:b<97
    ·rw [decide_eq_true h1,decide_eq_false (show ¬ b≥97 by omega)]
     by_cases h2:b<48
     ·rw [decide_eq_true h2,decide_eq_false (show ¬ b≥48 by omega)];simp;rfl
     ·rw [decide_eq_false h2,decide_eq_true (show b≥48 by omega)]
      by_cases h3:b>57
      ·rw [decide_eq_true h3,decide_eq_false (show ¬ b≤57 by omega)];simp;rfl
      ·rw [decide_eq_false h3,decide_eq_true (show b≤57 by omega)];simp;rfl
    ·rw [decide_eq_false h1,decide_eq_true (show b≥97 by omega)]
     by_cases h2:b>122
     ·rw [decide_eq_true h2,decide_eq_false (show ¬ b≤122 by omega),decide_eq_false (show ¬ b<48 by omega),decide_eq_true (show b≥48 by omega),decide_eq_true (show b>57 by omega),decide_eq_false (show ¬ b≤57 by omega)];simp;rfl
     ·rw [decide_eq_false h2,decide_eq_true (show b≤122 by omega)];simp;rfl
   cases hb:Pb (Cq t)[i] with
   | true =>
    rw [hb] at hrun
    simp only [cond_true]
    exact hrun
   | false =>
    rw [hb] at hrun
    simp only [cond_false]
    exact ⟨hrun,trivial⟩)
  (fun s e _ he=>by
   cases he
   show (T8 t (((Cq t).length:Nat):Int)).run=_
   unfold T8
   rw [Acm (by omega) h64',decide_eq_false (show ¬ (((Cq t).length:Nat):Int)<(t.size:Int) by omega)]
   rfl)
  (Cq t).length 0 () (bif (Cq t).any Pb then T0 else A2t) ((Cq t).length+1) (by omega) (by omega) trivial (by rw [List.drop_zero];exact Oz Pb (fun _=>T0) A2t _ 0)
 exact key
theorem Amv {t:ByteArray} (h64:(t.size:Int)≤Aw .i64):(Aso t).sat (fun y=>y=(H9 t,())):=by
 unfold Aso H9
 rw [Acm (by omega) (show (t.size:Int)≤9223372036854775807 from h64),Amu h64]
 simp only [cond_true]
 by_cases h1:1≤t.size
 ·rw [decide_eq_false (show ¬ (t.size:Int)<1 by omega)]
  by_cases h2:t.size≤20
  ·rw [decide_eq_false (show ¬ (t.size:Int)>20 by omega),decide_eq_true (show 1≤t.size∧t.size≤20 from ⟨h1,h2⟩)]
   cases (Cq t).any Pb <;> exact rfl
  ·rw [decide_eq_true (show (t.size:Int)>20 by omega),decide_eq_false (show ¬ (1≤t.size∧t.size≤20) from fun h=>h2 h.2)]
   exact rfl
 ·rw [decide_eq_true (show (t.size:Int)<1 by omega),decide_eq_false (show ¬ (1≤t.size∧t.size≤20) from fun h=>h1 h.1)]
  exact rfl
end St
end V
end Go.Proofs.YtlangijnealfjaaGreat
namespace Go.Proofs.YtlangijnealfjaaGreat
open Go.RowKit
namespace V
namespace St
theorem is_Touch:FnIs Tryz.prog (15,Tryz.f15):=⟨Tryz.func15,by kernel_rfl,by kernel_rfl⟩
theorem is_tCD:FnIs Tryz.prog (43,Tryz.f43):=⟨Tryz.func43,by kernel_rfl,by kernel_rfl⟩
theorem is_tsq:FnIs Tryz.prog (54,Tryz.f54):=⟨Tryz.func54,by kernel_rfl,by kernel_rfl⟩
theorem is_cmp64:FnIs Tryz.prog (53,Tryz.f53):=⟨Tryz.func53,by kernel_rfl,by kernel_rfl⟩
theorem is_nan64:FnIs Tryz.prog (111,Tryz.f111):=⟨Tryz.func111,by kernel_rfl,by kernel_rfl⟩
theorem is_lapart:FnIs Tryz.prog (181,Tryz.f181):=⟨Tryz.func181,by kernel_rfl,by kernel_rfl⟩
def Amx (x y:Int):Int:=bif decide (x<y) then -1 else bif decide (x>y) then 1 else 0
def cdE (a:TCT A1):Int:=K1 a.1.1 a.1.2.1 a.2.1
def sqD (a b:TCT A1):Int:=W64 (W64 (W64 (b.1.1-a.1.1)*W64 (b.1.1-a.1.1))+W64 (W64 (b.1.2.1-a.1.2.1)*W64 (b.1.2.1-a.1.2.1)))
def srD (a b:TCT A1):Int:=W64 (W64 (a.2.1+b.2.1)*W64 (a.2.1+b.2.1))
def Ex (a b:TCT A1):Int:=bif cdE a==0&&cdE b==0 then Amx (sqD a b) (srD a b) else 0
def Amy (a b:TCT A1):Int:=bif cdE a==0&&cdE b==0 then 0 else 2
abbrev S6:PureT:=Bh [A1,A1] [cI,cI] (fun _=>true) (fun x=>(Ex x.1 x.2.1,Amy x.1 x.2.1,()))
abbrev TTo:=Tree (TCTs [cI,cI])
def Aqu (x y:Int):TTo:=bif x != x then bif y != y then .leaf (0,0,()) else .leaf (-1,0,()) else bif y != y then .leaf (1,0,()) else bif decide (x<y) then .leaf (-1,0,()) else bif decide (x>y) then .leaf (1,0,()) else .leaf (0,0,())
def A0b (a b:TCT A1):TTo:=bif cdE a != 0 then .leaf (0,2,()) else bif cdE b != 0 then .leaf (0,2,()) else Aqu (sqD a b) (srD a b)
theorem A6s (a b:TCT A1):(A0b a b).sat (fun y=>y=(Ex a b,Amy a b,())):=by
 unfold A0b Ex Amy Aqu Amx
 rw [bne_self_eq_false,bne_self_eq_false]
 have e:∀ n:Int,(n != 0)=!(n==0):=fun _=>rfl
 rw [e,e]
 cases cdE a==0 <;> cases cdE b==0 <;> try exact rfl
 cases decide (sqD a b<srD a b) <;> cases decide (sqD a b>srD a b) <;> exact rfl
theorem S7:A6 Tryz.prog 15 S6:=Bj (An Am (puOk_cons is_tCD.plain Kc puOk_nil) (A0 is_Touch (A0 is_tsq (A0 is_cmp64 (A0 is_nan64 A2))))) 5 (fun x=>A0b x.1 x.2.1) (fun x=>by kernel_rfl) fun x _ _=>A6s _ _
def plAp:List (Nat×PureT):=[(15,S6),(120,s_inR)]
theorem puAp:Cd Tryz.prog plAp:=puOk_cons is_Touch.plain S7 (puOk_cons is_between2.plain q_between2 puOk_nil)
noncomputable def A9c:Code:=(Ah (bodyOf Tryz.f181)).getD 0 .skip
noncomputable def A9d:Code:=(Ah (bodyOf Tryz.f181)).getD 1 .skip
abbrev kD3:List SK:=[.d cI,.d cI,.d cI]
def d3 (d:SKTs kD3):TCT A1:=((d.1,d.2.1,()),d.2.2.1,())
def Avz (d:TCT A1):TCT A1:=((d.1.1,d.1.2.1,()),d.2.1,())
def toD (d:TCT A1):SKTs kD3:=(d.1.1,d.1.2.1,d.2.1,())
def Wn:Lay:={ keys:=[1,2,6,11,12,13,46,47,48],ks:=[.d (.sl A1),.p 0 0 0 0,.p 1000 0 0 0,.d (.sl A1),.d cI,.d cI,.d (.sl A1),.d cI,.d cI],bs:=[(0,33,kLw),(1000,30,kD3)],n:=62,nx:=2000,marks:=[] }
def Aw0:Lay:={ keys:=[1,2,11,12,13],ks:=[.d (.sl A1),.p 0 0 0 0,.d (.sl A1),.d cI,.d cI],bs:=[(0,33,kLw)],n:=62,nx:=2000,marks:=[] }
def Aqv:Lay:={ keys:=[4],ks:=[.d .b],bs:=[],n:=62,nx:=2000,marks:=[] }
def T9:XE→Lay:=fun e=>match e with | .ret=>Aqv | _=>Aw0
def Ta:Lay:={ keys:=[1,2,11,12,13],ks:=[.d (.sl A1),.p 0 0 0 0,.d (.sl A1),.d cI,.d cI],bs:=[(0,33,kLw)],n:=62,nx:=1000,marks:=[] }
def Ayt:Lay:={ keys:=[],ks:=[],bs:=[],n:=62,nx:=2000,marks:=[] }
def A2u:XE→Lay:=fun e=>match e with | .ret=>Aqv | _=>Ayt
def Tb (x:SKTs kLw) (d:SKTs kD3) (p q:List (TCT A1)) (n i:Int) (r:List (TCT A1)) (m k:Int):Wn.T:=((p,(),(),q,n,i,r,m,k,()),(x,d,()))
def Qn:A4 T9:=⟨.ret,((false,()),())⟩
def Qo (x:SKTs kLw) (p q:List (TCT A1)) (n i:Int):A4 T9:=⟨.exit 2,((p,(),q,n,i,()),(x,()))⟩
def Tc (g:Wn.T):Tree (Wn.T⊕A4 T9) :=
 bif decide (g.1.2.2.2.2.2.2.2.2.1<g.1.2.2.2.2.2.2.2.1) then bif decide (0≤g.1.2.2.2.2.2.2.2.2.1∧g.1.2.2.2.2.2.2.2.2.1<((g.1.2.2.2.2.2.2.1:List (TCT A1)).length:Int)) then
  bif decide (Ex (d3 g.2.2.1) (Avz (A7 g.1.2.2.2.2.2.2.1 (Int.toNat g.1.2.2.2.2.2.2.2.2.1) (A5 A1)))<0) then .leaf (.inr Qn) else .leaf (.inl (Tb g.2.1 g.2.2.1 g.1.1 g.1.2.2.2.1 g.1.2.2.2.2.1 g.1.2.2.2.2.2.1 g.1.2.2.2.2.2.2.1 g.1.2.2.2.2.2.2.2.1 (W64 (g.1.2.2.2.2.2.2.2.2.1+1))))
 else .fail else .leaf (.inr (Qo g.2.1 g.1.1 g.1.2.2.2.1 g.1.2.2.2.2.1 g.1.2.2.2.2.2.1))
def Agn (g:Wn.T):Nat:=(g.1.2.2.2.2.2.2.1:List (TCT A1)).length+1
noncomputable def A2v:Ctx:=ctx Tryz.prog plAp []
theorem A2w:CtxOk A2v:=An Am puAp A2
theorem Ayu:Av Tryz.prog 181 A9d (Au Wn T9 (D5 [.ret,.exit 2] Tc Agn)):=Bu A2w 7 _ Wn T9 (fun e=>by cases e <;> exact Nat.le_refl _) [.ret,.exit 2] Tc Agn (fun g=>by kernel_rfl)
def J3 {α:Type} (ok:Nat→α→Bool):Nat→List α→Bool
 | _,[]=>true
 | i,x::l=>ok i x&&J3 ok (i+1) l
theorem Td {α E:Type} (ok:Nat→α→Bool) (r d:E):∀ (l:List α) (i:Nat),N8 (fun i x (_:Unit)=>bif ok i x then some (.inl ()) else some (.inr r)) (fun _=>some d) i l ()=some (bif J3 ok i l then d else r)
 | [],i=>rfl
 | x::l,i=>by
  simp only [N8,J3]
  cases ok i x with
  | true=>simp only [cond_true,Bool.true_and];exact Td ok r d l (i+1)
  | false=>rfl
def touB (d o:TCT A1):Bool:=decide (Ex d o<0)
theorem Amz (x:SKTs kLw) (d:TCT A1) (p q:List (TCT A1)) (n i:Int) (r:List (TCT A1)) (hr:(r.length:Int)≤Aw .i64) :
  iter Tc (r.length+1) (Tb x (toD d) p q n i r r.length 0)=some (bif r.any (touB d) then Qn else Qo x p q n i):=by
 have hr':(r.length:Int)≤9223372036854775807:=hr
 have key:=Dp (st:=Tc) r (fun k (_:Unit)=>Tb x (toD d) p q n i r r.length (k:Int)) (fun _ o _=>bif touB d o then some (.inr Qn) else some (.inl ())) (fun _=>some (Qo x p q n i)) (fun _ _=>True)
  (fun k s hk _=>by
   have hrun:(Tc (Tb x (toD d) p q n i r r.length (k:Int))).run=some (bif touB d r[k] then .inr Qn else .inl (Tb x (toD d) p q n i r r.length ((k+1:Nat):Int))):=by
    show (bif decide ((k:Int)<(r.length:Int)) then bif decide (0≤(k:Int)∧(k:Int)<(r.length:Int)) then bif touB d (Avz (A7 r (Int.toNat (k:Int)) (A5 A1))) then Tree.leaf (Sum.inr Qn) else .leaf (.inl (Tb x (toD d) p q n i r r.length (W64 ((k:Int)+1)))) else .fail else .leaf (.inr (Qo x p q n i)):Tree (Wn.T⊕A4 T9)).run=_
    rw [decide_eq_true (show (k:Int)<(r.length:Int) by omega),decide_eq_true (show 0≤(k:Int)∧(k:Int)<(r.length:Int) by omega),show Int.toNat (k:Int)=k by omega,C7 hk,B6 (n:=(k:Int)+1) (by omega) (by omega)]
    show (bif touB d r[k] then _ else _:Tree (Wn.T⊕A4 T9)).run=_
    cases touB d r[k] <;> rfl
   cases hb:touB d r[k] with
   | true=>rw [hb] at hrun;simp only [cond_true];exact hrun
   | false=>rw [hb] at hrun;simp only [cond_false];exact ⟨hrun,trivial⟩)
  (fun s e _ he=>by
   cases he
   show (bif decide ((r.length:Int)<(r.length:Int)) then _ else Tree.leaf (Sum.inr (Qo x p q n i)):Tree (Wn.T⊕A4 T9)).run=_
   rw [decide_eq_false (show ¬ (r.length:Int)<(r.length:Int) by omega)]
   rfl)
  r.length 0 () (bif r.any (touB d) then Qn else Qo x p q n i) (r.length+1) (by omega) (by omega) trivial (by rw [List.drop_zero];exact Oz (touB d) (fun _=>Qn) (Qo x p q n i) _ 0)
 exact key
end St
end V
end Go.Proofs.YtlangijnealfjaaGreat
namespace Go.Proofs.YtlangijnealfjaaGreat
open Go.RowKit
namespace V
namespace St
def Xn (x:SKTs kLw) (p q:List (TCT A1)) (n i:Int):Ta.T:=((p,(),q,n,i,()),(x,()))
def Np (b:Bool):A4 A2u:=⟨.ret,((b,()),())⟩
def Qp:A4 A2u:=⟨.exit 0,((),())⟩
abbrev TAo:=Tree (Ta.T⊕A4 A2u)
def Aw1 (x:SKTs kLw) (d:SKTs kD3) (p q:List (TCT A1)) (n i:Int) (r:List (TCT A1)):Option (A4 T9):=iter Tc (r.length+1) (Tb x d p q n i r r.length 0)
def Aw2 (r:Aw0.T):Ta.T:=Xn r.2.1 r.1.1 r.1.2.2.1 r.1.2.2.2.1 (W64 (r.1.2.2.2.2.1+1))
def Aw3 (y:Option (A4 T9)):TAo:=bif isE .ret y then .leaf (.inr (Np (D4 .ret y).1.1)) else bif isE (.exit 2) y then .leaf (.inl (Aw2 (D4 (.exit 2) y))) else .fail
def Ago (x:SKTs kLw) (p q:List (TCT A1)) (n i:Int) (d:TCT A1):TAo :=
 bif !inR d.1.1 d.2.1 (W64 (x.2.1-d.2.1)) then .leaf (.inr (Np false)) else bif !inR d.1.2.1 d.2.1 (W64 (x.2.2.1-d.2.1)) then .leaf (.inr (Np false)) else
 bif decide (0≤i∧i≤(p.length:Int)) then Aw3 (Aw1 x (toD d) p q n i (p.take (Int.toNat i))) else .fail
def Te (g:Ta.T):TAo :=
 bif decide (g.1.2.2.2.2.1<g.1.2.2.2.1) then bif decide (0≤g.1.2.2.2.2.1∧g.1.2.2.2.2.1<((g.1.2.2.1:List (TCT A1)).length:Int)) then
  Ago g.2.1 g.1.1 g.1.2.2.1 g.1.2.2.2.1 g.1.2.2.2.2.1 (A7 g.1.2.2.1 (Int.toNat g.1.2.2.2.2.1) (A5 A1)) else .fail else .leaf (.inr Qp)
def Agp (g:Ta.T):Nat:=(g.1.2.2.1:List (TCT A1)).length+1
def Aqw:Ht:=fun k=>bif Nat.beq k 7 then some (Au Wn T9 (D5 [.ret,.exit 2] Tc Agn)) else none
theorem Ayv (g:Ta.T):evC A2v.P (Ck A2v 7) A2v.pures 181 A2v.u Aqw A9c (Ta.of g) (E4 Ta A2u)=Te g:=by kernel_rfl
theorem Agq:Ah A9c=[A9d]:=by kernel_rfl
theorem Agr:keyOf A9d=7:=by kernel_rfl
theorem Ayw:Av Tryz.prog 181 A9c (Au Ta A2u (D5 [.ret,.exit 0] Te Agp)) :=
 Oy A2w 7 _ Aqw (fun d hd f hf=>by
  rw [Agq,List.mem_singleton] at hd
  subst hd
  rw [Agr] at hf
  cases hf
  exact Ayu) Ta A2u (fun e=>by cases e <;> exact (by decide:(1000:Nat)≤2000)) [.ret,.exit 0] Te Agp Ayv
theorem Nq {P:Program} {f:Nat} {fn:Func} {la:Code} {sum:St→Tree (XE×St)} {k:Nat} (h1:∀ d ∈ Ah (bodyOf fn),keyOf d=k→d=la) (h2:Av P f la sum) :
  ∀ p ∈ [(f,fn)],∀ d ∈ Ah (bodyOf p.2),∀ g,C4 [((f,k),sum)] p.1 (keyOf d)=some g→Av P p.1 d g:=by
 intro p hp d hd g hg
 simp only [List.mem_singleton] at hp
 subst hp
 simp only at hd hg
 by_cases hk:keyOf d=k
 ·rw [h1 d hd hk]
  rw [hk] at hg
  simp [C4] at hg
  subst hg
  exact h2
 ·have:Nat.beq k (keyOf d)=false:=by
   cases h:Nat.beq k (keyOf d) with
   | false=>rfl
   | true=>exact absurd (Nat.eq_of_beq_eq_true h).symm hk
  simp only [C4,this,Bool.and_false,cond_false] at hg
  cases hg
theorem Ags:Ah (bodyOf Tryz.f181)=[A9c,A9d]:=by kernel_rfl
noncomputable def Ayx:Ctx:=F8 Tryz.prog plAp [(181,Tryz.f181)] [((181,2),Au Ta A2u (D5 [.ret,.exit 0] Te Agp))]
theorem An0:CtxOk Ayx:=Bt Am puAp (A0 is_lapart A2) (Nq (fun d hd hk=>by
 rw [Ags,List.mem_cons,List.mem_singleton] at hd
 rcases hd with rfl | rfl
 ·rfl
 ·rw [Agr] at hk;cases hk) Ayw)
def Ml (w l:Int) (d:TCT A1):Bool:=inR d.1.1 d.2.1 (W64 (w-d.2.1))&&inR d.1.2.1 d.2.1 (W64 (l-d.2.1))
def apF (w l:Int) (p:List (TCT A1)):Bool:=J3 (fun i d=>Ml w l d&&!(p.take i).any (touB d)) 0 p
def Agt (l:TCT Aq) (p:List (TCT A1)):Option (A4 A2u):=iter Te (p.length+1) (Xn (C0 l) p p p.length 0)
def Asq (l:TCT Aq) (p:List (TCT A1)):TBo:=bif isE .ret (Agt l p) then .leaf ((D4 .ret (Agt l p)).1.1,()) else bif isE (.exit 0) (Agt l p) then .leaf (true,()) else .fail
theorem An1 (l:TCT Aq) (p:List (TCT A1)) (hp:(p.length:Int)≤Aw .i64):Agt l p=some (bif apF l.2.1 l.2.2.1 p then Qp else Np false):=by
 have hp':(p.length:Int)≤9223372036854775807:=hp
 unfold Agt
 have key:=Dp (st:=Te) p (fun i (_:Unit)=>Xn (C0 l) p p p.length (i:Int)) (fun i d _=>bif Ml l.2.1 l.2.2.1 d&&!(p.take i).any (touB d) then some (.inl ()) else some (.inr (Np false))) (fun _=>some Qp) (fun _ _=>True)
  (fun i s hi _=>by
   have hrun:(Te (Xn (C0 l) p p p.length (i:Int))).run=some (bif Ml l.2.1 l.2.2.1 p[i]&&!(p.take i).any (touB p[i]) then .inl (Xn (C0 l) p p p.length ((i+1:Nat):Int)) else .inr (Np false)):=by
    show (bif decide ((i:Int)<(p.length:Int)) then bif decide (0≤(i:Int)∧(i:Int)<(p.length:Int)) then Ago (C0 l) p p p.length (i:Int) (A7 p (Int.toNat (i:Int)) (A5 A1)) else .fail else .leaf (.inr Qp):TAo).run=_
    rw [decide_eq_true (show (i:Int)<(p.length:Int) by omega),decide_eq_true (show 0≤(i:Int)∧(i:Int)<(p.length:Int) by omega),show Int.toNat (i:Int)=i by omega,C7 hi]
    simp only [cond_true]
    unfold Ago Ml
    have hw:(C0 l).2.1=l.2.1:=rfl
    have hl:(C0 l).2.2.1=l.2.2.1:=rfl
    rw [hw,hl]
    cases inR p[i].1.1 p[i].2.1 (W64 (l.2.1-p[i].2.1)) with
    | false=>rfl
    | true =>
     cases inR p[i].1.2.1 p[i].2.1 (W64 (l.2.2.1-p[i].2.1)) with
     | false=>rfl
     | true =>
      simp only [Bool.not_true,cond_false,Bool.true_and]
      have ht:(p.take i).length=i:=by rw [List.length_take];omega
      have hy:Aw1 (C0 l) (toD p[i]) p p p.length (i:Int) (p.take i)=some (bif (p.take i).any (touB p[i]) then Qn else Qo (C0 l) p p p.length (i:Int)) :=
       Amz (C0 l) p[i] p p p.length (i:Int) (p.take i) (by rw [ht];show (i:Int)≤9223372036854775807;omega)
      rw [decide_eq_true (show 0≤(i:Int)∧(i:Int)≤(p.length:Int) by omega),cond_true,show Int.toNat (i:Int)=i by omega,hy]
      cases (p.take i).any (touB p[i]) with
      | true=>rfl
      | false =>
       show (Tree.leaf (Sum.inl (Xn (C0 l) p p p.length (W64 ((i:Int)+1)))):TAo).run=_
       rw [B6 (n:=(i:Int)+1) (by omega) (by omega)]
       rfl
   cases hb:Ml l.2.1 l.2.2.1 p[i]&&!(p.take i).any (touB p[i]) with
   | true=>rw [hb] at hrun;simp only [cond_true];exact ⟨hrun,trivial⟩
   | false=>rw [hb] at hrun;simp only [cond_false];exact hrun)
  (fun s e _ he=>by
   cases he
   show (bif decide ((p.length:Int)<(p.length:Int)) then _ else Tree.leaf (Sum.inr Qp):TAo).run=_
   rw [decide_eq_false (show ¬ (p.length:Int)<(p.length:Int) by omega)]
   rfl)
  p.length 0 () (bif apF l.2.1 l.2.2.1 p then Qp else Np false) (p.length+1) (by omega) (by omega) trivial (by
   rw [List.drop_zero]
   exact Td (fun i d=>Ml l.2.1 l.2.2.1 d&&!(p.take i).any (touB d)) (Np false) Qp p 0)
 exact key
abbrev A9e:PureT:=Bh [Aq,.sl A1] [.b] (fun _=>true) (fun x=>(apF x.1.2.1 x.1.2.2.1 x.2.1,()))
theorem An2:A6 Tryz.prog 181 A9e:=Bj An0 7 (fun x=>Asq x.1 x.2.1) (fun x=>by kernel_rfl) fun x _ hw=>by
 show (Asq x.1 x.2.1).sat _
 unfold Asq
 rw [An1 x.1 x.2.1 (Ej hw.2.1)]
 show ((bif isE .ret (some (bif apF x.1.2.1 x.1.2.2.1 x.2.1 then Qp else Np false)) then _ else _:TBo)).sat (fun y=>y=(apF x.1.2.1 x.1.2.2.1 x.2.1,()))
 cases apF x.1.2.1 x.1.2.2.1 x.2.1 <;> exact rfl
end St
end V
end Go.Proofs.YtlangijnealfjaaGreat
namespace Go.Proofs.YtlangijnealfjaaGreat
open Go.RowKit
namespace V
namespace St
theorem is_lCheck:FnIs Tryz.prog (105,Tryz.f105):=⟨Tryz.func105,by kernel_rfl,by kernel_rfl⟩
def nxL (l:TCT Aq):Int:=l.2.2.2.2.2.2.1
def nyL (l:TCT Aq):Int:=l.2.2.2.2.2.2.2.1
def Dq (l:TCT Aq):List (TCT Dh):=l.2.2.2.2.2.2.2.2.1
def M6 (l:TCT Aq):Bool:=decide (((As l).length:Int)<1)||(decide (((As l).length:Int)>12)||decide (((Dq l).length:Int)>256))
def Aco (l:TCT Aq):Bool:=H9 l.1&&(inR l.2.1 65536 4194304&&(inR l.2.2.1 65536 4194304&&inR l.2.2.2.1 0 (W64 (Int.tdiv (min l.2.1 l.2.2.1) 4))))
def Acp (l:TCT Aq):Bool:=!decide (nxL l<1)&&(!decide (nxL l>16)&&(!decide (nyL l<1)&&(!decide (nyL l>16)&&!(((Dq l).length:Int)!=W64 (nxL l*nyL l)))))
def okL (l:TCT Aq):Bool:=Aco l&&(inR (Ib l).2.1 1 8192&&(Acp l&&((As l).all Ep&&((Dq l).all F9&&apF l.2.1 l.2.2.1 (B7 l)))))
def Di (l:TCT Aq):Int:=bif M6 l then 6 else bif okL l then 0 else 2
abbrev Qq:PureT:=Bh [Aq] [cI] (fun x=>decide ((x.1.1.size:Int)≤Aw .i64)) (fun x=>(Di x.1,()))
def plLc:List (Nat×PureT):=[(174,A0a),(120,s_inR),(52,J2),(181,A9e),(175,A2c),(178,A2h)]
theorem puLc:Cd Tryz.prog plLc:=puOk_cons is_vname.plain Ams (puOk_cons is_between2.plain q_between2 (puOk_cons is_lposts.plain A06 (puOk_cons is_lapart.plain An2 (puOk_cons is_cfHoop.plain Afw (puOk_cons is_cfCell.plain Ag1 puOk_nil)))))
abbrev TEr:=Tree (TCTs [cI])
def er (c:Bool) (e:Int) (k:TEr):TEr:=bif c then .leaf (e,()) else k
theorem Ju {a b:Bool} {e:Int} {k:TEr}:er (a||b) e k=er a e (er b e k):=by cases a <;> cases b <;> rfl
def Asr (l:TCT Aq):TEr :=
 er (decide (((As l).length:Int)<1)) 6 (er (decide (((As l).length:Int)>12)) 6 (er (decide (((Dq l).length:Int)>256)) 6 (
 bif decide ((l.1.size:Int)≤Aw .i64) then er (!H9 l.1) 2 (er (!inR l.2.1 65536 4194304) 2 (er (!inR l.2.2.1 65536 4194304) 2 (er (!inR l.2.2.2.1 0 (W64 (Int.tdiv (min l.2.1 l.2.2.1) 4))) 2 (er (!inR (Ib l).2.1 1 8192) 2 (
  er (decide (nxL l<1)) 2 (er (decide (nxL l>16)) 2 (er (decide (nyL l<1)) 2 (er (decide (nyL l>16)) 2 (er (((Dq l).length:Int)!=W64 (nxL l*nyL l)) 2 (
  er ((As l).any (Cy ())) 2 (er ((Dq l).any (Cz ())) 2 (
  bif decide ((As l).length≤1000) then er (!apF l.2.1 l.2.2.1 (B7 l)) 2 (.leaf (0,())) else .fail))))))))))))
 else .fail)))
theorem Lg {α:Type} (p:α→Bool) (l:List α):l.any (fun x=>!p x)=!l.all p:=by
 induction l with
 | nil=>rfl
 | cons x l ih=>simp only [List.any_cons,List.all_cons,ih,Bool.not_and]
theorem An3 {l:TCT Aq} (hs:(l.1.size:Int)≤Aw .i64):(Asr l).sat (fun y=>y=(Di l,())):=by
 unfold Asr Di
 rw [← Ju,← Ju,Bool.or_assoc]
 show (er (M6 l) 6 _).sat _
 cases hm:M6 l with
 | true=>exact rfl
 | false =>
  have h12:(As l).length≤1000:=by
   unfold M6 at hm
   simp only [Bool.or_eq_false_iff,decide_eq_false_iff_not] at hm
   omega
  rw [decide_eq_true hs,decide_eq_true h12]
  show (er (!H9 l.1) 2 _).sat (fun y=>y=((bif okL l then 0 else 2),()))
  have hh:(As l).any (Cy ())=!(As l).all Ep:=Lg Ep _
  have hc:(Dq l).any (Cz ())=!(Dq l).all F9:=Lg F9 _
  rw [hh,hc]
  unfold okL Aco Acp
  simp only [cond_true]
  generalize H9 l.1=b1
  generalize inR l.2.1 65536 4194304=b2
  generalize inR l.2.2.1 65536 4194304=b3
  generalize inR l.2.2.2.1 0 (W64 (Int.tdiv (min l.2.1 l.2.2.1) 4))=b4
  generalize inR (Ib l).2.1 1 8192=b5
  generalize decide (nxL l<1)=b6
  generalize decide (nxL l>16)=b7
  generalize decide (nyL l<1)=b8
  generalize decide (nyL l>16)=b9
  generalize (((Dq l).length:Int)!=W64 (nxL l*nyL l))=b10
  generalize (As l).all Ep=b11
  generalize (Dq l).all F9=b12
  generalize apF l.2.1 l.2.2.1 (B7 l)=b13
  cases b1 <;> try exact rfl
  cases b2 <;> try exact rfl
  cases b3 <;> try exact rfl
  cases b4 <;> try exact rfl
  cases b5 <;> try exact rfl
  cases b6 <;> try exact rfl
  cases b7 <;> try exact rfl
  cases b8 <;> try exact rfl
  cases b9 <;> try exact rfl
  cases b10 <;> try exact rfl
  cases b11 <;> try exact rfl
  cases b12 <;> try exact rfl
  cases b13 <;> exact rfl
theorem Nr:A6 Tryz.prog 105 Qq:=Bj (An Am puLc (A0 is_lCheck A2)) 7 (fun x=>Asr x.1) (fun x=>by kernel_rfl) fun x hok _=>An3 (of_decide_eq_true hok)
end St
end V
end Go.Proofs.YtlangijnealfjaaGreat
namespace Go.Proofs.YtlangijnealfjaaGreat
open Go.RowKit
namespace V
namespace St
theorem Ns {G E α:Type} {st:G→Tree (G⊕E)} (l:List α) (d:α) (hd:Int→G) (bad:α→Bool) (rt ex:E) (hl:(l.length:Int)≤Aw .i64)
  (h:∀ i:Int,st (hd i)=bif decide (i<(l.length:Int)) then bif decide (0≤i∧i<(l.length:Int)) then bif bad (A7 l (Int.toNat i) d) then .leaf (.inr rt) else .leaf (.inl (hd (W64 (i+1)))) else .fail else .leaf (.inr ex)) :
  iter st (l.length+1) (hd 0)=some (bif l.any bad then rt else ex):=by
 have hl':(l.length:Int)≤9223372036854775807:=hl
 have key:=Dp (st:=st) l (fun i (_:Unit)=>hd (i:Int)) (fun _ x _=>bif bad x then some (.inr rt) else some (.inl ())) (fun _=>some ex) (fun _ _=>True)
  (fun i s hi _=>by
   have hrun:(st (hd (i:Int))).run=some (bif bad l[i] then .inr rt else .inl (hd ((i+1:Nat):Int))):=by
    rw [h,decide_eq_true (show (i:Int)<(l.length:Int) by omega),decide_eq_true (show 0≤(i:Int)∧(i:Int)<(l.length:Int) by omega),show Int.toNat (i:Int)=i by omega,C7 hi,B6 (n:=(i:Int)+1) (by omega) (by omega)]
    cases bad l[i] <;> rfl
   cases hb:bad l[i] with
   | true=>rw [hb] at hrun;simp only [cond_true];exact hrun
   | false=>rw [hb] at hrun;simp only [cond_false];exact ⟨hrun,trivial⟩)
  (fun s e _ he=>by
   cases he
   rw [h,decide_eq_false (show ¬ (l.length:Int)<(l.length:Int) by omega)]
   rfl)
  l.length 0 () (bif l.any bad then rt else ex) (l.length+1) (by omega) (by omega) trivial (by rw [List.drop_zero];exact Oz bad (fun _=>rt) ex _ 0)
 exact key
theorem Tf {G E α:Type} {st:G→Tree (G⊕E)} (l:List α) (d:α) (hd:Int→G) (ok:Nat→α→Bool) (body:Int→α→Tree (G⊕E)) (rt ex:E) (hl:(l.length:Int)≤Aw .i64)
  (h:∀ i:Int,st (hd i)=bif decide (i<(l.length:Int)) then bif decide (0≤i∧i<(l.length:Int)) then body i (A7 l (Int.toNat i) d) else .fail else .leaf (.inr ex))
  (hb:∀ (i:Nat) (hi:i<l.length),(body (i:Int) l[i]).run=some (bif ok i l[i] then .inl (hd ((i+1:Nat):Int)) else .inr rt)) :
  iter st (l.length+1) (hd 0)=some (bif J3 ok 0 l then ex else rt):=by
 have hl':(l.length:Int)≤9223372036854775807:=hl
 have key:=Dp (st:=st) l (fun i (_:Unit)=>hd (i:Int)) (fun i x _=>bif ok i x then some (.inl ()) else some (.inr rt)) (fun _=>some ex) (fun _ _=>True)
  (fun i s hi _=>by
   have hrun:(st (hd (i:Int))).run=some (bif ok i l[i] then .inl (hd ((i+1:Nat):Int)) else .inr rt):=by
    rw [h,decide_eq_true (show (i:Int)<(l.length:Int) by omega),decide_eq_true (show 0≤(i:Int)∧(i:Int)<(l.length:Int) by omega),show Int.toNat (i:Int)=i by omega,C7 hi]
    exact hb i hi
   cases hk:ok i l[i] with
   | true=>rw [hk] at hrun;simp only [cond_true];exact ⟨hrun,trivial⟩
   | false=>rw [hk] at hrun;simp only [cond_false];exact hrun)
  (fun s e _ he=>by
   cases he
   rw [h,decide_eq_false (show ¬ (l.length:Int)<(l.length:Int) by omega)]
   rfl)
  l.length 0 () (bif J3 ok 0 l then ex else rt) (l.length+1) (by omega) (by omega) trivial (by rw [List.drop_zero];exact Td ok rt ex _ 0)
 exact key
def plRc:List (Nat×PureT):=[]
theorem puRc:Cd Tryz.prog plRc:=puOk_nil
abbrev bL:BK:=(0,33,kLw)
def A6t:Lay:={ keys:=[1,3],ks:=[.p 0 0 0 0,.d cI],bs:=[bL],n:=224,nx:=1000,marks:=[] }
def A2z:Lay:={ keys:=[1],ks:=[.p 0 0 0 0],bs:=[bL],n:=224,nx:=1000,marks:=[] }
def Ayy:Lay:={ keys:=[2],ks:=[.d cI],bs:=[],n:=224,nx:=1000,marks:=[] }
def Pd:XE→Lay:=fun e=>match e with | .ret=>Ayy | _=>A2z
def Agw (x:SKTs kLw) (i:Int):A6t.T:=(((),i,()),(x,()))
def Xo:A4 Pd:=⟨.ret,((2,()),())⟩
def Agx (x:SKTs kLw):A4 Pd:=⟨.exit 0,(((),()),(x,()))⟩
def Ayz (h:TCT Bg):TCT Bg:=(h.1,h.2.1,h.2.2.1,h.2.2.2.1,h.2.2.2.2.1,())
def hsX (x:SKTs kLw):List (TCT Bg):=x.2.2.2.2.1
def csX (x:SKTs kLw):List (TCT Dh):=x.2.2.2.2.2.2.2.2.2.2.1
def A9g (g:A6t.T):Tree (A6t.T⊕A4 Pd):=bif decide (g.1.2.1<((hsX g.2.1).length:Int)) then bif decide (0≤g.1.2.1∧g.1.2.1<((hsX g.2.1).length:Int)) then
 bif !Ep (Ayz (A7 (hsX g.2.1) (Int.toNat g.1.2.1) (A5 Bg))) then .leaf (.inr Xo) else .leaf (.inl (Agw g.2.1 (W64 (g.1.2.1+1)))) else .fail else .leaf (.inr (Agx g.2.1))
def Agy (g:A6t.T):Nat:=(hsX g.2.1).length+1
def A6u:Lay:={ keys:=[1,4],ks:=[.p 0 0 0 0,.d cI],bs:=[bL],n:=224,nx:=1000,marks:=[] }
def Agz (x:SKTs kLw) (i:Int):A6u.T:=(((),i,()),(x,()))
def Ah0 (x:SKTs kLw):A4 Pd:=⟨.exit 2,(((),()),(x,()))⟩
def A9h (g:A6u.T):Tree (A6u.T⊕A4 Pd):=bif decide (g.1.2.1<((csX g.2.1).length:Int)) then bif decide (0≤g.1.2.1∧g.1.2.1<((csX g.2.1).length:Int)) then
 bif !F9 (A7 (csX g.2.1) (Int.toNat g.1.2.1) (A5 Dh)) then .leaf (.inr Xo) else .leaf (.inl (Agz g.2.1 (W64 (g.1.2.1+1)))) else .fail else .leaf (.inr (Ah0 g.2.1))
def Ah1 (g:A6u.T):Nat:=(csX g.2.1).length+1
end St
end V
end Go.Proofs.YtlangijnealfjaaGreat
namespace Go.Proofs.YtlangijnealfjaaGreat
open Go.RowKit
namespace V
namespace St
def A30:Lay:={ keys:=[1,5,6,7],ks:=[.p 0 0 0 0,.d (.sl A1),.d cI,.d cI],bs:=[bL],n:=224,nx:=2000,marks:=[] }
def Aw4:Lay:={ keys:=[1,5,6],ks:=[.p 0 0 0 0,.d (.sl A1),.d cI],bs:=[bL],n:=224,nx:=2000,marks:=[] }
def Aqx:Lay:={ keys:=[2],ks:=[.d cI],bs:=[],n:=224,nx:=2000,marks:=[] }
def A0c:XE→Lay:=fun e=>match e with | .ret=>Aqx | _=>Aw4
def Tg:Lay:={ keys:=[1,5,6],ks:=[.p 0 0 0 0,.d (.sl A1),.d cI],bs:=[bL],n:=224,nx:=1000,marks:=[] }
def Az2:Lay:={ keys:=[],ks:=[],bs:=[],n:=224,nx:=2000,marks:=[] }
def A31:XE→Lay:=fun e=>match e with | .ret=>Aqx | _=>Az2
def sqR (a b:TCT A1):Int:=W64 (W64 (W64 (a.1.1-b.1.1)*W64 (a.1.1-b.1.1))+W64 (W64 (a.1.2.1-b.1.2.1)*W64 (a.1.2.1-b.1.2.1)))
def Wo (d o:TCT A1):Bool:=decide (sqR d o<srD d o)
def inP {β:Type} (p:List (TCT A1)) (i:Int) (k:Tree β):Tree β:=bif decide (0≤i∧i<(p.length:Int)) then k else .fail
theorem Ez {β:Type} {p:List (TCT A1)} {i:Int} {k:Tree β} (h:0≤i∧i<(p.length:Int)):inP p i k=k:=by unfold inP;rw [decide_eq_true h];rfl
def gD (p:List (TCT A1)) (i:Int):TCT A1:=A7 p (Int.toNat i) (A5 A1)
def A9i (x:SKTs kLw) (p:List (TCT A1)) (i k:Int):A30.T:=(((),p,i,k,()),(x,()))
def A9j:A4 A0c:=⟨.ret,((2,()),())⟩
def A9k (x:SKTs kLw) (p:List (TCT A1)) (i:Int):A4 A0c:=⟨.exit 6,(((),p,i,()),(x,()))⟩
def A6v (x:SKTs kLw) (p:List (TCT A1)) (i k:Int):Tree (A30.T⊕A4 A0c):=bif decide (k<i) then
 inP p i (inP p k (inP p i (inP p k (inP p i (inP p k (inP p i (inP p k (bif Wo (gD p i) (gD p k) then .leaf (.inr A9j) else .leaf (.inl (A9i x p i (W64 (k+1)))))))))))) else .leaf (.inr (A9k x p i))
def A32 (g:A30.T):Tree (A30.T⊕A4 A0c):=A6v g.2.1 g.1.2.1 g.1.2.2.1 g.1.2.2.2.1
def Ah2 (g:A30.T):Nat:=(List.take (Int.toNat g.1.2.2.1) (g.1.2.1:List (TCT A1))).length+1
theorem An4 (x:SKTs kLw) (p:List (TCT A1)) (i:Nat) (hi:i<p.length) (hp:(p.length:Int)≤Aw .i64) :
  iter A32 ((p.take i).length+1) (A9i x p i 0)=some (bif (p.take i).any (Wo p[i]) then A9j else A9k x p i):=by
 have ht:(p.take i).length=i:=by rw [List.length_take];omega
 have hp':(p.length:Int)≤9223372036854775807:=hp
 refine Ns (p.take i) (A5 A1) (fun k=>A9i x p i k) (Wo p[i]) A9j (A9k x p i) (by rw [ht];show (i:Int)≤9223372036854775807;omega) fun k=>?_
 show A6v x p i k=_
 unfold A6v
 rw [ht]
 by_cases hk:k<(i:Int)
 ·rw [decide_eq_true hk,cond_true,cond_true]
  by_cases h0:0≤k
  ·have hki:0≤k∧k<(p.length:Int):=by omega
   have hii:0≤(i:Int)∧(i:Int)<(p.length:Int):=by omega
   have e1:gD p (i:Int)=p[i]:=by unfold gD;rw [show Int.toNat (i:Int)=i by omega,C7 hi]
   have e2:gD p k=A7 (p.take i) (Int.toNat k) (A5 A1):=by
    unfold gD
    have h1:Int.toNat k<p.length:=by omega
    have h2:Int.toNat k<(p.take i).length:=by omega
    rw [C7 h1,C7 h2,List.getElem_take]
   rw [Ez hii,Ez hki,Ez hii,Ez hki,Ez hii,Ez hki,Ez hii,Ez hki,e1,e2,decide_eq_true (show 0≤k∧k<(i:Int) by omega)]
   rfl
  ·have hii:0≤(i:Int)∧(i:Int)<(p.length:Int):=by omega
   rw [Ez hii,decide_eq_false (show ¬ (0≤k∧k<(i:Int)) by omega)]
   unfold inP
   rw [decide_eq_false (show ¬ (0≤k∧k<(p.length:Int)) by omega)]
   rfl
 ·rw [decide_eq_false hk];rfl
def A9l (x:SKTs kLw) (p:List (TCT A1)) (i:Int):Tg.T:=(((),p,i,()),(x,()))
def Y0 (e:Int):A4 A31:=⟨.ret,((e,()),())⟩
def A9m:A4 A31:=⟨.exit 4,((),())⟩
abbrev TC3:=Tree (Tg.T⊕A4 A31)
def Ass (x:SKTs kLw) (p:List (TCT A1)) (i:Int):Option (A4 A0c):=iter A32 ((p.take (Int.toNat i)).length+1) (A9i x p i 0)
def Aw5 (r:Aw4.T):Tg.T:=A9l r.2.1 r.1.2.1 (W64 (r.1.2.2.1+1))
def Aw6 (y:Option (A4 A0c)):TC3:=bif isE .ret y then .leaf (.inr (Y0 (D4 .ret y).1.1)) else bif isE (.exit 6) y then .leaf (.inl (Aw5 (D4 (.exit 6) y))) else .fail
def Ah3 (x:SKTs kLw) (p:List (TCT A1)) (i:Int) (d:TCT A1):TC3 :=
 inP p i (inP p i (bif !inR d.1.1 d.2.1 (W64 (x.2.1-d.2.1)) then .leaf (.inr (Y0 2)) else inP p i (inP p i (inP p i (bif !inR d.1.2.1 d.2.1 (W64 (x.2.2.1-d.2.1)) then .leaf (.inr (Y0 2)) else Aw6 (Ass x p i))))))
def A33 (g:Tg.T):TC3:=bif decide (g.1.2.2.1<((g.1.2.1:List (TCT A1)).length:Int)) then bif decide (0≤g.1.2.2.1∧g.1.2.2.1<((g.1.2.1:List (TCT A1)).length:Int)) then Ah3 g.2.1 g.1.2.1 g.1.2.2.1 (gD g.1.2.1 g.1.2.2.1) else .fail else .leaf (.inr A9m)
def Ah4 (g:Tg.T):Nat:=(g.1.2.1:List (TCT A1)).length+1
def Aqy:Ht:=fun k=>bif Nat.beq k 24 then some (Au A30 A0c (D5 [.ret,.exit 6] A32 Ah2)) else none
end St
end V
end Go.Proofs.YtlangijnealfjaaGreat
namespace Go.Proofs.YtlangijnealfjaaGreat
open Go.RowKit
namespace V
namespace St
def Ah9 (x:SKTs kLw):Option (A4 Pd):=iter A9g ((hsX x).length+1) (Agw x 0)
def Aha (x:SKTs kLw):Option (A4 Pd):=iter A9h ((csX x).length+1) (Agz x 0)
def Ahb (x:SKTs kLw) (p:List (TCT A1)):Option (A4 A31):=iter A33 (p.length+1) (A9l x p 0)
def Ahc (r:A2z.T):TEr:=bif decide ((hsX r.2.1).length≤1000) then
 bif isE .ret (Ahb r.2.1 (B7 (Ey r.2.1))) then .leaf ((D4 .ret (Ahb r.2.1 (B7 (Ey r.2.1)))).1.1,()) else bif isE (.exit 4) (Ahb r.2.1 (B7 (Ey r.2.1))) then .leaf (0,()) else .fail else .fail
def Ahd (r:A2z.T):TEr:=er (!inR (Ib (Ey r.2.1)).2.1 1 8192) 2 (er (!inR (Ib (Ey r.2.1)).1.1 0 4194304) 2 (er (!inR (Ib (Ey r.2.1)).1.2.1 0 4194304) 2 (
 er (decide (nxL (Ey r.2.1)<1)) 2 (er (decide (nxL (Ey r.2.1)>16)) 2 (er (decide (nyL (Ey r.2.1)<1)) 2 (er (decide (nyL (Ey r.2.1)>16)) 2 (er (((csX r.2.1).length:Int)!=W64 (nxL (Ey r.2.1)*nyL (Ey r.2.1))) 2 (
 bif isE .ret (Aha r.2.1) then .leaf ((D4 .ret (Aha r.2.1)).1.1,()) else bif isE (.exit 2) (Aha r.2.1) then Ahc (D4 (.exit 2) (Aha r.2.1)) else .fail))))))))
def An6 (l:TCT Aq):TEr :=
 er (decide (((As l).length:Int)<1)) 6 (er (decide (((As l).length:Int)>12)) 6 (er (decide (((Dq l).length:Int)>256)) 6 (
 bif decide ((l.1.size:Int)≤Aw .i64) then er (!H9 l.1) 2 (er (!inR l.2.1 65536 4194304) 2 (er (!inR l.2.2.1 65536 4194304) 2 (er (!inR l.2.2.2.1 0 (W64 (Int.tdiv (min l.2.1 l.2.2.1) 4))) 2 (
  bif isE .ret (Ah9 (C0 l)) then .leaf ((D4 .ret (Ah9 (C0 l))).1.1,()) else bif isE (.exit 0) (Ah9 (C0 l)) then Ahd (D4 (.exit 0) (Ah9 (C0 l))) else .fail))))
 else .fail)))
end St
end V
end Go.Proofs.YtlangijnealfjaaGreat
namespace Go.Proofs.YtlangijnealfjaaGreat
open Go.RowKit
namespace V
namespace St
def apR (w l:Int) (p:List (TCT A1)):Bool:=J3 (fun i d=>Ml w l d&&!(p.take i).any (Wo d)) 0 p
theorem An8 (x:SKTs kLw) (hl:((hsX x).length:Int)≤Aw .i64):Ah9 x=some (bif (hsX x).any (fun h=>!Ep h) then Xo else Agx x) :=
 Ns (hsX x) (A5 Bg) (Agw x) (fun h=>!Ep h) Xo (Agx x) hl (fun _=>rfl)
theorem An9 (x:SKTs kLw) (hl:((csX x).length:Int)≤Aw .i64):Aha x=some (bif (csX x).any (fun h=>!F9 h) then Xo else Ah0 x) :=
 Ns (csX x) (A5 Dh) (Agz x) (fun h=>!F9 h) Xo (Ah0 x) hl (fun _=>rfl)
theorem Ana (x:SKTs kLw) (p:List (TCT A1)) (hp:(p.length:Int)≤Aw .i64):Ahb x p=some (bif apR x.2.1 x.2.2.1 p then A9m else Y0 2):=by
 have hp':(p.length:Int)≤9223372036854775807:=hp
 refine Tf p (A5 A1) (A9l x p) (fun i d=>Ml x.2.1 x.2.2.1 d&&!(p.take i).any (Wo d)) (Ah3 x p) (Y0 2) A9m hp (fun _=>rfl) fun i hi=>?_
 have hii:0≤(i:Int)∧(i:Int)<(p.length:Int):=by omega
 unfold Ah3 Ml
 rw [Ez hii,Ez hii,Ez hii,Ez hii,Ez hii]
 cases inR p[i].1.1 p[i].2.1 (W64 (x.2.1-p[i].2.1)) with
 | false=>rfl
 | true =>
  cases inR p[i].1.2.1 p[i].2.1 (W64 (x.2.2.1-p[i].2.1)) with
  | false=>rfl
  | true =>
   have hy:Ass x p (i:Int)=some (bif (p.take i).any (Wo p[i]) then A9j else A9k x p i):=by
    unfold Ass
    rw [show Int.toNat (i:Int)=i by omega]
    exact An4 x p i hi hp
   simp only [Bool.not_true,cond_false,Bool.true_and]
   rw [hy]
   cases (p.take i).any (Wo p[i]) with
   | true=>rfl
   | false =>
    show (Tree.leaf (Sum.inl (A9l x p (W64 ((i:Int)+1)))):TC3).run=_
    rw [B6 (n:=(i:Int)+1) (by omega) (by omega)]
    rfl
def Anb (l:TCT Aq):Bool:=inR (Ib l).2.1 1 8192&&(inR (Ib l).1.1 0 4194304&&inR (Ib l).1.2.1 0 4194304)
def okR (l:TCT Aq):Bool:=Aco l&&((As l).all Ep&&(Anb l&&(Acp l&&((Dq l).all F9&&apR l.2.1 l.2.2.1 (B7 l)))))
def Anc (l:TCT Aq):Int:=bif M6 l then 6 else bif okR l then 0 else 2
theorem Acr {l:TCT Aq}:(B7 l).length=2*(As l).length+1:=by
 unfold B7
 rw [List.length_append,No]
 rfl
theorem Aw8 {l:TCT Aq} (h12:(As l).length≤1000):(Ahc (((),()),(C0 l,()))).sat (fun y=>y=((bif apR l.2.1 l.2.2.1 (B7 l) then (0:Int) else 2),())):=by
 unfold Ahc
 have e:Ey (((((),()),(C0 l,())):A2z.T).2.1)=l:=rfl
 have e2:hsX (((((),()),(C0 l,())):A2z.T).2.1)=As l:=rfl
 have hy:Ahb (((((),()),(C0 l,())):A2z.T).2.1) (B7 l)=some (bif apR l.2.1 l.2.2.1 (B7 l) then A9m else Y0 2):=Ana (C0 l) (B7 l) (by rw [Acr];simp only [Aw];omega)
 rw [e,e2,decide_eq_true h12,hy]
 cases apR l.2.1 l.2.2.1 (B7 l) <;> exact rfl
theorem J4 {a b:Bool} {k:TEr} (h:k.sat (fun y=>y=((bif b then (0:Int) else 2),()))):(er (!a) 2 k).sat (fun y=>y=((bif a&&b then (0:Int) else 2),())):=by
 cases a with
 | true=>exact h
 | false=>exact rfl
theorem K9 {a b:Bool} {k:TEr} (h:k.sat (fun y=>y=((bif b then (0:Int) else 2),()))):(er a 2 k).sat (fun y=>y=((bif !a&&b then (0:Int) else 2),())):=by
 cases a with
 | true=>exact rfl
 | false=>exact h
theorem Aw9 {l:TCT Aq} (h12:(As l).length≤1000) (hc:((Dq l).length:Int)≤Aw .i64):(Ahd (((),()),(C0 l,()))).sat (fun y=>y=((bif Anb l&&(Acp l&&((Dq l).all F9&&apR l.2.1 l.2.2.1 (B7 l))) then (0:Int) else 2),())):=by
 unfold Ahd Anb Acp
 have e:Ey (((((),()),(C0 l,())):A2z.T).2.1)=l:=rfl
 have e2:csX (((((),()),(C0 l,())):A2z.T).2.1)=Dq l:=rfl
 rw [e,e2]
 simp only [Bool.and_assoc]
 refine J4 (J4 (J4 (K9 (K9 (K9 (K9 (K9 ?_)))))))
 rw [An9 (C0 l) hc]
 have hq:(csX (C0 l)).any (fun h=>!F9 h)=!(Dq l).all F9:=Lg F9 _
 rw [hq]
 cases (Dq l).all F9 with
 | false=>exact rfl
 | true=>exact Aw8 h12
theorem And {l:TCT Aq} (hs:(l.1.size:Int)≤Aw .i64) (hh:((As l).length:Int)≤Aw .i64) (hc:((Dq l).length:Int)≤Aw .i64):(An6 l).sat (fun y=>y=(Anc l,())):=by
 unfold An6 Anc
 rw [← Ju,← Ju,Bool.or_assoc]
 show (er (M6 l) 6 _).sat _
 cases hm:M6 l with
 | true=>exact rfl
 | false =>
  have h12:(As l).length≤1000:=by
   unfold M6 at hm
   simp only [Bool.or_eq_false_iff,decide_eq_false_iff_not] at hm
   omega
  rw [decide_eq_true hs]
  show (er (!H9 l.1) 2 _).sat (fun y=>y=((bif okR l then (0:Int) else 2),()))
  unfold okR Aco
  simp only [Bool.and_assoc]
  refine J4 (J4 (J4 (J4 ?_)))
  rw [An8 (C0 l) hh]
  have hq:(hsX (C0 l)).any (fun h=>!Ep h)=!(As l).all Ep:=Lg Ep _
  rw [hq]
  cases (As l).all Ep with
  | false=>exact rfl
  | true=>exact Aw9 h12 hc
end St
end V
end Go.Proofs.YtlangijnealfjaaGreat
namespace Go.Proofs.YtlangijnealfjaaGreat
open Go.RowKit
namespace V
namespace St
theorem J5 {x lo hi:Int}:inR x lo hi=true ↔ lo≤x∧x≤hi:=by unfold inR;simp only [Bool.and_eq_true,decide_eq_true_eq]
theorem A9n {α:Type} {p:List α} {ok1 ok2:Nat→α→Bool} (ins:α→Bool) (h:∀ (i:Nat) (hi:i<p.length),(∀ o ∈ p.take i,ins o=true)→ok1 i p[i]=ok2 i p[i]) (h1:∀ i x,ok1 i x=true→ins x=true) :
  ∀ (k i:Nat),i+k=p.length→(∀ o ∈ p.take i,ins o=true)→J3 ok1 i (p.drop i)=J3 ok2 i (p.drop i)
 | 0,i,hk,_=>by
  rw [List.drop_eq_nil_of_le (by omega)];rfl
 | k+1,i,hk,hp=>by
  have hi:i<p.length:=by omega
  rw [List.drop_eq_getElem_cons hi]
  simp only [J3]
  rw [← h i hi hp]
  cases ho:ok1 i p[i] with
  | false=>rfl
  | true =>
   rw [Bool.true_and,Bool.true_and]
   refine A9n ins h h1 k (i+1) (by omega) fun o hm=>?_
   rw [List.take_succ_eq_append_getElem hi,List.mem_append,List.mem_singleton] at hm
   rcases hm with hm | rfl
   ·exact hp o hm
   ·exact h1 i _ ho
theorem A34 {α:Type} {ok:Nat→α→Bool}:∀ (l:List α) (i:Nat),J3 ok i l=true→∀ x ∈ l,∃ j,ok j x=true
 | y::l,i,h,x,hx=>by
  simp only [J3,Bool.and_eq_true] at h
  rcases List.mem_cons.1 hx with rfl | hx
  ·exact ⟨i,h.1⟩
  ·exact A34 l (i+1) h.2 x hx
structure On (d:TCT A1):Prop where
 x:0≤d.1.1∧d.1.1≤4194304
 y:0≤d.1.2.1∧d.1.2.1≤4194304
 r:1≤d.2.1∧d.2.1≤8192
theorem Ane {x y r w l:Int} (hw:0≤w∧w≤4194304) (hl:0≤l∧l≤4194304) (hr:1≤r∧r≤8192) (h:(r≤x∧x≤W64 (w-r))∧r≤y∧y≤W64 (l-r)):(0≤x∧x≤4194304)∧0≤y∧y≤4194304:=by
 rw [B6 (n:=w-r) (by omega) (by omega),B6 (n:=l-r) (by omega) (by omega)] at h
 omega
theorem Ahe {w l:Int} (hw:0≤w∧w≤4194304) (hl:0≤l∧l≤4194304) {d:TCT A1} (hr:1≤d.2.1∧d.2.1≤8192) (h:Ml w l d=true):On d:=by
 unfold Ml at h
 simp only [Bool.and_eq_true,J5] at h
 obtain ⟨h1,h2⟩:=Ane hw hl hr h
 exact ⟨h1,h2,hr⟩
theorem Ahf {x y r:Int} (hx:0≤x∧x≤4194304) (hy:0≤y∧y≤4194304) (hr:1≤r∧r≤8192):K1 x y r=0:=by
 unfold K1 u_cdOk fpt Bd
 rw [decide_eq_true (show -4194304≤x∧x≤4194304 ∧ -4194304≤y∧y≤4194304 by omega),decide_eq_false (show ¬ r<1 by omega),decide_eq_false (show ¬ 65536<r by omega)]
 rfl
theorem Ahg {a b:Int} (ha:0≤a∧a≤4194304) (hb:0≤b∧b≤4194304):W64 (b-a)*W64 (b-a)=W64 (a-b)*W64 (a-b):=by
 rw [B6 (n:=b-a) (by omega) (by omega),B6 (n:=a-b) (by omega) (by omega)]
 grind
theorem Asw {d o:TCT A1} (hd:On d) (ho:On o):touB d o=Wo d o:=by
 have e:sqD d o=sqR d o:=by
  unfold sqD sqR
  rw [Ahg hd.x ho.x,Ahg hd.y ho.y]
 have c1:cdE d=0:=Ahf hd.x hd.y hd.r
 have c2:cdE o=0:=Ahf ho.x ho.y ho.r
 unfold touB Wo Ex
 rw [c1,c2,e]
 show decide (Amx (sqR d o) (srD d o)<0)=_
 unfold Amx
 by_cases h:sqR d o<srD d o
 ·rw [decide_eq_true h];rfl
 ·rw [decide_eq_false h,cond_false]
  cases decide (sqR d o>srD d o) <;> rfl
theorem Pe {α:Type} {p q:α→Bool}:∀ {l:List α},(∀ x ∈ l,p x=q x)→l.any p=l.any q
 | [],_=>rfl
 | x::l,h=>by rw [List.any_cons,List.any_cons,h x (List.mem_cons_self ..),Pe fun y hy=>h y (List.mem_cons_of_mem _ hy)]
theorem Awa {w l:Int} (hw:0≤w∧w≤4194304) (hl:0≤l∧l≤4194304) {p:List (TCT A1)} (hr:∀ d ∈ p,1≤d.2.1∧d.2.1≤8192):apF w l p=apR w l p:=by
 have key:=A9n (p:=p) (ok1:=fun i d=>Ml w l d&&!(p.take i).any (touB d)) (ok2:=fun i d=>Ml w l d&&!(p.take i).any (Wo d)) (Ml w l)
  (fun i hi hp=>by
   cases hi':Ml w l p[i] with
   | false=>rfl
   | true =>
    have hd:=Ahe hw hl (hr _ (List.getElem_mem hi)) hi'
    rw [Pe fun o ho=>Asw hd (Ahe hw hl (hr o (List.mem_of_mem_take ho)) (hp o ho))])
  (fun i x h=>by simp only [Bool.and_eq_true] at h;exact h.1) p.length 0 (by omega) (fun o ho=>by rw [List.take_zero] at ho;cases ho)
 rw [List.drop_zero] at key
 exact key
theorem Az6 {h:TCT Bg} {d:TCT A1} (hd:d ∈ w2 h):d.2.1=h.2.2.2.1:=by
 unfold w2 at hd
 cases hb:h.2.2.2.2.1 with
 | true =>
  rw [hb] at hd
  have hd:d ∈ [M4 h.1 (W64 (h.2.1-dW h)) h.2.2.2.1,M4 h.1 (W64 (h.2.1+dW h)) h.2.2.2.1]:=hd
  rcases List.mem_cons.1 hd with rfl | hd
  ·rfl
  ·rw [List.mem_singleton] at hd;subst hd;rfl
 | false =>
  rw [hb] at hd
  have hd:d ∈ [M4 (W64 (h.1-dW h)) h.2.1 h.2.2.2.1,M4 (W64 (h.1+dW h)) h.2.1 h.2.2.2.1]:=hd
  rcases List.mem_cons.1 hd with rfl | hd
  ·rfl
  ·rw [List.mem_singleton] at hd;subst hd;rfl
theorem Anf {l:TCT Aq} (hh:(As l).all Ep=true) (hp:inR (Ib l).2.1 1 8192=true):∀ d ∈ B7 l,1≤d.2.1∧d.2.1≤8192:=by
 intro d hd
 unfold B7 at hd
 rw [List.mem_append,List.mem_singleton,List.mem_flatMap] at hd
 rcases hd with ⟨h,hm,hd⟩ | rfl
 ·have:=List.all_eq_true.1 hh h hm
  unfold Ep at this
  simp only [Bool.and_eq_true,J5] at this
  rw [Az6 hd]
  exact this.2.2.2.2
 ·exact J5.1 hp
theorem Ahh (l:TCT Aq):Anc l=Di l:=by
 unfold Anc Di
 congr 2
 unfold okR okL
 cases hd:Aco l with
 | false=>rfl
 | true =>
  have hd':=hd
  unfold Aco at hd'
  simp only [Bool.and_eq_true,J5] at hd'
  obtain ⟨_,⟨w1,w2'⟩,⟨l1,l2⟩,_⟩:=hd'
  have hw:0≤l.2.1∧l.2.1≤4194304:=⟨Int.le_trans (by decide) w1,w2'⟩
  have hl:0≤l.2.2.1∧l.2.2.1≤4194304:=⟨Int.le_trans (by decide) l1,l2⟩
  unfold Anb
  cases hh:(As l).all Ep with
  | false=>cases inR (Ib l).2.1 1 8192 <;> cases Acp l <;> rfl
  | true =>
   cases hp:inR (Ib l).2.1 1 8192 with
   | false=>rfl
   | true =>
    have hr:=Anf hh hp
    rw [← Awa hw hl hr]
    cases ha:apF l.2.1 l.2.2.1 (B7 l) with
    | false=>simp
    | true =>
     obtain ⟨j,hj⟩:=A34 (B7 l) 0 ha (Ib l) (by unfold B7;simp)
     simp only [Bool.and_eq_true] at hj
     have on:=Ahe hw hl (J5.1 hp) hj.1
     have e1:inR (Ib l).1.1 0 4194304=true:=J5.2 on.x
     have e2:inR (Ib l).1.2.1 0 4194304=true:=J5.2 on.y
     rw [e1,e2]
     simp
end St
end V
end Go.Proofs.YtlangijnealfjaaGreat
namespace Go.Proofs.YtlangijnealfjaaGreat
open Go.RowKit
namespace V
namespace St
theorem is_Posts:FnIs Tryz.prog (101,Tryz.f101):=⟨Tryz.func101,by kernel_rfl,by kernel_rfl⟩
def plPs:List (Nat×PureT):=[(105,Qq),(52,J2)]
theorem puPs:Cd Tryz.prog plPs:=puOk_cons is_lCheck.plain Nr (puOk_cons is_lposts.plain A06 (puOk_nil))
def Fc (l:TCT Aq):List (TCT A1):=bif Di l==0 then B7 l else []
abbrev Ang:PureT:=Bh [Aq] [.sl A1,cI] (fun x=>decide ((x.1.1.size:Int)≤Aw .i64)) (fun x=>(Fc x.1,Di x.1,()))
abbrev TPs:=Tree (TCTs [.sl A1,cI])
def szT {β:Type} (l:TCT Aq) (k:Tree β):Tree β:=bif decide ((l.1.size:Int)≤Aw .i64) then k else .fail
theorem Dw {β:Type} {l:TCT Aq} {k:Tree β} (h:(l.1.size:Int)≤Aw .i64):szT l k=k:=by unfold szT;rw [decide_eq_true h];rfl
def A9o (l:TCT Aq):TPs:=bif decide ((As l).length≤1000) then .leaf (B7 l,0,()) else .fail
def A6w (l:TCT Aq):TPs:=szT l (bif Di l != 0 then .leaf ([],Di l,()) else A9o l)
theorem Ti {l:TCT Aq} (h:Di l=0):(As l).length≤12∧1≤(As l).length:=by
 unfold Di at h
 cases hm:M6 l with
 | true=>rw [hm] at h;cases h
 | false =>
  unfold M6 at hm
  simp only [Bool.or_eq_false_iff,decide_eq_false_iff_not] at hm
  omega
theorem Ahj {l:TCT Aq} (h:Di l=0):(A9o l).sat (fun y=>y=(Fc l,Di l,())):=by
 have:=Ti h
 unfold A9o Fc
 rw [decide_eq_true (show (As l).length≤1000 by omega),h]
 exact rfl
theorem Awb {l:TCT Aq}:(bif Di l != 0 then .leaf ([],Di l,()) else A9o l:TPs).sat (fun y=>y=(Fc l,Di l,())):=by
 cases h:Di l==0 with
 | true =>
  have h':Di l=0:=by simpa using h
  rw [show (Di l != 0)=false by simp [h']]
  exact Ahj h'
 | false =>
  rw [show (Di l != 0)=true by simpa using h]
  unfold Fc
  rw [h]
  exact rfl
theorem Anh:A6 Tryz.prog 101 Ang:=Bj (An Am puPs (A0 is_Posts A2)) 7 (fun x=>A6w x.1) (fun x=>by kernel_rfl) fun x hok _=>by
 show (A6w x.1).sat _
 unfold A6w
 rw [Dw (of_decide_eq_true hok)]
 exact Awb
end St
end V
end Go.Proofs.YtlangijnealfjaaGreat
namespace Go.Proofs.YtlangijnealfjaaGreat
open Go.RowKit
namespace V
namespace St
theorem is_lchk:FnIs Tryz.prog (47,Tryz.f47):=⟨Tryz.func47,by kernel_rfl,by kernel_rfl⟩
theorem is_lon:FnIs Tryz.prog (61,Tryz.f61):=⟨Tryz.func61,by kernel_rfl,by kernel_rfl⟩
def onB (l:TCT Aq) (p:TCT cPt):Bool:=inR p.1 0 l.2.1&&inR p.2.1 0 l.2.2.1
theorem A9p (x y:Int):(u_ck x y != 0)=!fpt x y:=by unfold u_ck;cases fpt x y <;> rfl
end St
end V
end Go.Proofs.YtlangijnealfjaaGreat
namespace Go.Proofs.YtlangijnealfjaaGreat
open Go.RowKit
namespace V
namespace St
theorem is_cGround:FnIs Tryz.prog (62,Tryz.f62):=⟨Tryz.func62,by kernel_rfl,by kernel_rfl⟩
def Az (g:TCT cGr):List (TCT Bo):=g.2.1
def okG (g:TCT cGr):Bool:=(Az g).all I3&&Wq g.2.2.1.1 g.2.2.1.2.1
def groE (g:TCT cGr):Int:=bif Di g.1 != 0 then Di g.1 else bif decide (((Az g).length:Int)<1)||decide (((Az g).length:Int)>8) then 6 else bif okG g then 0 else 2
abbrev Ani:PureT:=Bh [cGr] [cI] (fun x=>decide ((x.1.1.1.size:Int)≤Aw .i64)) (fun x=>(groE x.1,()))
def plG:List (Nat×PureT):=[(105,Qq),(124,Fy),(121,A2m)]
theorem puG:Cd Tryz.prog plG:=puOk_cons is_lCheck.plain Nr (puOk_cons is_CheckBounce.plain Wr (puOk_cons is_cfBall.plain Ag6 (puOk_nil)))
def Ahk (g:TCT cGr):TEr:=bif okE (Wq g.2.2.1.1 g.2.2.1.2.1)!=0 then .leaf (2,()) else .leaf (0,())
def T_G (g:TCT cGr):TEr:=szT g.1 (bif Di g.1 != 0 then .leaf (Di g.1,()) else er (decide (((Az g).length:Int)<1)) 6 (er (decide (((Az g).length:Int)>8)) 6 (er ((Az g).any (D1 ())) 2 (Ahk g))))
theorem Asx (x:TCTs [cGr]):Ck (ctx Tryz.prog plG [(62,Tryz.f62)]) 7 (.fn 62) (Cs [cGr] x) Bs 0 (Fq Tryz.prog [cI])=T_G x.1:=by kernel_rfl
theorem Asy {g:TCT cGr} (hs:(g.1.1.size:Int)≤Aw .i64):(T_G g).sat (fun y=>y=(groE g,())):=by
 unfold T_G groE okG Ahk
 have hq:(Az g).any (D1 ())=!(Az g).all I3:=Lg I3 _
 rw [Dw hs,hq,Sx,← Ju]
 cases Di g.1 != 0 with
 | true=>exact rfl
 | false =>
  simp only [cond_false]
  cases decide (((Az g).length:Int)<1)||decide (((Az g).length:Int)>8) with
  | true=>exact rfl
  | false=>cases (Az g).all I3 <;> cases Wq g.2.2.1.1 g.2.2.1.2.1 <;> exact rfl
theorem Az7:A6 Tryz.prog 62 Ani:=Bj (An Am puG (A0 is_cGround A2)) 7 (fun x=>T_G x.1) Asx fun x hok _=>Asy (of_decide_eq_true hok)
abbrev kGr:List SK:=[.d .s,.d cI,.d cI,.d cI,.d (.sl Bg),.d cI,.d cI,.d cI,.d cI,.d cI,.d (.sl Dh),.d (.sl Bo),.d cI,.d cI]
def Awc (x:SKTs kGr):TCT cGr:=((x.1,x.2.1,x.2.2.1,x.2.2.2.1,x.2.2.2.2.1,((x.2.2.2.2.2.1,x.2.2.2.2.2.2.1,()),x.2.2.2.2.2.2.2.1,()),x.2.2.2.2.2.2.2.2.1,x.2.2.2.2.2.2.2.2.2.1,x.2.2.2.2.2.2.2.2.2.2.1,()),x.2.2.2.2.2.2.2.2.2.2.2.1,(x.2.2.2.2.2.2.2.2.2.2.2.2.1,x.2.2.2.2.2.2.2.2.2.2.2.2.2.1,()),())
def Gm (g:TCT cGr):SKTs kGr:=(g.1.1,g.1.2.1,g.1.2.2.1,g.1.2.2.2.1,g.1.2.2.2.2.1,g.1.2.2.2.2.2.1.1.1,g.1.2.2.2.2.2.1.1.2.1,g.1.2.2.2.2.2.1.2.1,g.1.2.2.2.2.2.2.1,g.1.2.2.2.2.2.2.2.1,g.1.2.2.2.2.2.2.2.2.1,g.2.1,g.2.2.1.1,g.2.2.1.2.1,())
def A6x:Lay:={ keys:=[1,3],ks:=[.p 0 0 0 0,.d cI],bs:=[(0,64,kGr)],n:=39,nx:=1000,marks:=[] }
def Az8:Lay:={ keys:=[1],ks:=[.p 0 0 0 0],bs:=[(0,64,kGr)],n:=39,nx:=1000,marks:=[] }
def Awe:Lay:={ keys:=[2],ks:=[.d cI],bs:=[],n:=39,nx:=1000,marks:=[] }
def A6y:XE→Lay:=fun e=>match e with | .ret=>Awe | _=>Az8
def Ahl (x:SKTs kGr) (i:Int):A6x.T:=(((),i,()),(x,()))
def Ahm:A4 A6y:=⟨.ret,((2,()),())⟩
def Ahn (x:SKTs kGr):A4 A6y:=⟨.exit 0,(((),()),(x,()))⟩
def blX (x:SKTs kGr):List (TCT Bo):=x.2.2.2.2.2.2.2.2.2.2.2.1
def A9q (b:TCT Bo):Bool:=okE (Jv b.1 b.2.1)!=0
def A9r (g:A6x.T):Tree (A6x.T⊕A4 A6y):=bif decide (g.1.2.1<((blX g.2.1).length:Int)) then bif decide (0≤g.1.2.1∧g.1.2.1<((blX g.2.1).length:Int)) then
 bif A9q (A7 (blX g.2.1) (Int.toNat g.1.2.1) (A5 Bo)) then .leaf (.inr Ahm) else .leaf (.inl (Ahl g.2.1 (W64 (g.1.2.1+1)))) else .fail else .leaf (.inr (Ahn g.2.1))
def Aho (g:A6x.T):Nat:=(blX g.2.1).length+1
def Ahp (x:SKTs kGr):Option (A4 A6y):=iter A9r ((blX x).length+1) (Ahl x 0)
def Ank (g:TCT cGr):TEr:=szT g.1 (bif Di g.1 != 0 then szT g.1 (.leaf (Di g.1,())) else er (decide (((Az g).length:Int)<1)) 6 (er (decide (((Az g).length:Int)>8)) 6 (
 bif isE .ret (Ahp (Gm g)) then .leaf ((D4 .ret (Ahp (Gm g))).1.1,()) else bif isE (.exit 0) (Ahp (Gm g)) then Ahk (Awc (D4 (.exit 0) (Ahp (Gm g))).2.1) else .fail)))
theorem Anm {g:TCT cGr} (hs:(g.1.1.size:Int)≤Aw .i64) (hb:((Az g).length:Int)≤Aw .i64):(Ank g).sat (fun y=>y=(groE g,())):=by
 have hy:Ahp (Gm g)=some (bif (blX (Gm g)).any A9q then Ahm else Ahn (Gm g)):=Ns (blX (Gm g)) (A5 Bo) (Ahl (Gm g)) A9q Ahm (Ahn (Gm g)) hb (fun _=>rfl)
 have hq:(blX (Gm g)).any A9q=!(Az g).all I3:=by
  rw [← Lg I3]
  exact Pe fun b _=>Sx _
 rw [hq] at hy
 unfold Ank groE okG
 rw [Dw hs,Dw hs,hy,← Ju]
 cases Di g.1 != 0 with
 | true=>exact rfl
 | false =>
  simp only [cond_false]
  cases decide (((Az g).length:Int)<1)||decide (((Az g).length:Int)>8) with
  | true=>exact rfl
  | false =>
   cases (Az g).all I3 with
   | false=>exact rfl
   | true =>
    show (Ahk g).sat _
    unfold Ahk
    rw [Sx]
    cases Wq g.2.2.1.1 g.2.2.1.2.1 <;> exact rfl
end St
end V
end Go.Proofs.YtlangijnealfjaaGreat
namespace Go.Proofs.YtlangijnealfjaaGreat
open Go.RowKit
namespace V
namespace St
theorem is_sOn:FnIs Tryz.prog (63,Tryz.f63):=⟨Tryz.func63,by kernel_rfl,by kernel_rfl⟩
abbrev A9s:PureT:=Bh [Aq,cPt] [.b] (fun _=>true) (fun x=>(onB x.1 x.2.1,()))
def Awh (l:TCT Aq) (p:TCT cPt):TBo:=Nh (decide (0≤p.1)) (Nh (decide (p.1≤l.2.1)) (Nh (decide (0≤p.2.1)) (.leaf (decide (p.2.1≤l.2.2.1),()))))
theorem Asz (l:TCT Aq) (p:TCT cPt):onB l p=(decide (0≤p.1)&&(decide (p.1≤l.2.1)&&(decide (0≤p.2.1)&&decide (p.2.1≤l.2.2.1)))):=by
 unfold onB inR
 simp only [Bool.and_assoc]
theorem Awi:A6 Tryz.prog 63 A9s:=Bj (An Am puOk_nil (A0 is_sOn A2)) 4 (fun x=>Awh x.1 x.2.1) (fun x=>by kernel_rfl) fun x _ _=>by
 show (Awh x.1 x.2.1).sat (fun y=>y=(onB x.1 x.2.1,()))
 rw [Asz]
 exact Eh (Eh (Eh (X9 _)))
end St
end V
end Go.Proofs.YtlangijnealfjaaGreat
namespace Go.Proofs.YtlangijnealfjaaGreat
open Go.RowKit
namespace V
namespace St
theorem is_cState:FnIs Tryz.prog (64,Tryz.f64):=⟨Tryz.func64,by kernel_rfl,by kernel_rfl⟩
abbrev kSt:List SK:=[.d (.sl Bz),.d (.sl .b),.d cI,.d cI,.d cI]
abbrev bsS:List BK:=[(0,64,kGr),(1,76,kSt)]
def plS1:List (Nat×PureT):=[(62,Ani),(125,Fz),(63,A9s)]
theorem puS1:Cd Tryz.prog plS1:=puOk_cons is_cGround.plain Az7 (puOk_cons is_CheckMotion.plain Ws (puOk_cons is_sOn.plain Awi (puOk_nil)))
def inN {β:Type} (n:Nat) (i:Int) (k:Tree β):Tree β:=bif decide (0≤i∧i<(n:Int)) then k else .fail
theorem Ci {β:Type} {n:Nat} {i:Int} {k:Tree β} (h:0≤i∧i<(n:Int)):inN n i k=k:=by unfold inN;rw [decide_eq_true h];rfl
def At0 (b:TCT Bo) (m:TCT Bz):Bool:=A7b b.1 b.2.1 m.1.1 m.1.2.1 m.2.1.1 m.2.1.2.1 m.2.2.1.1 m.2.2.1.2.1
def atM (m:TCT Bz):TCT cPt:=(m.1.1,m.1.2.1,())
def A6z {β:Type} (no:Nat) (i:Int) (o:Bool) (m:TCT Bz) (rt nx:Tree β):Tree β:=inN no i (bif o then bif !(m.2.1.1==0&&(m.2.1.2.1==0&&true)) then rt else nx else nx)
def Tj {β:Type} (nb no:Nat) (i:Int) (l:TCT Aq) (b:TCT Bo) (o:Bool) (m:TCT Bz) (rt nx:Tree β):Tree β :=
 inN nb i (bif okE (At0 b m)!=0 then rt else inN no i (bif !o then bif !onB l (atM m) then rt else A6z no i o m rt nx else A6z no i o m rt nx))
def lwG (x:SKTs kGr):TCT Aq:=(Awc x).1
noncomputable def Awk:Code:=(Ah (bodyOf Tryz.f64)).getD 0 .skip
def A35:Lay:={ keys:=[2,3,30,31,32],ks:=[.p 0 0 0 0,.p 1 0 0 0,.d (.sl Bz),.d cI,.d cI],bs:=bsS,n:=106,nx:=1000,marks:=[] }
def Aza:Lay:={ keys:=[2,3],ks:=[.p 0 0 0 0,.p 1 0 0 0],bs:=bsS,n:=106,nx:=1000,marks:=[] }
def Awl:Lay:={ keys:=[4],ks:=[.d cI],bs:=[],n:=106,nx:=1000,marks:=[] }
def A0d:XE→Lay:=fun e=>match e with | .ret=>Awl | _=>Aza
def A9t (x:SKTs kGr) (s:SKTs kSt) (m:List (TCT Bz)) (n i:Int):A35.T:=(((),(),m,n,i,()),(x,s,()))
def A9u:A4 A0d:=⟨.ret,((2,()),())⟩
def Ahq (x:SKTs kGr) (s:SKTs kSt):A4 A0d:=⟨.exit 0,(((),(),()),(x,s,()))⟩
def otS (s:SKTs kSt):List Bool:=s.2.1
def A9v (g:A35.T):Tree (A35.T⊕A4 A0d):=bif decide (g.1.2.2.2.2.1<g.1.2.2.2.1) then bif decide (0≤g.1.2.2.2.2.1∧g.1.2.2.2.2.1<((g.1.2.2.1:List (TCT Bz)).length:Int)) then
 Tj (blX g.2.1).length (otS g.2.2.1).length g.1.2.2.2.2.1 (lwG g.2.1) (A7 (blX g.2.1) (Int.toNat g.1.2.2.2.2.1) (A5 Bo)) (A7 (otS g.2.2.1) (Int.toNat g.1.2.2.2.2.1) (A5 .b)) (A7 g.1.2.2.1 (Int.toNat g.1.2.2.2.2.1) (A5 Bz))
  (.leaf (.inr A9u)) (.leaf (.inl (A9t g.2.1 g.2.2.1 g.1.2.2.1 g.1.2.2.2.1 (W64 (g.1.2.2.2.2.1+1))))) else .fail else .leaf (.inr (Ahq g.2.1 g.2.2.1))
def Ahr (g:A35.T):Nat:=(g.1.2.2.1:List (TCT Bz)).length+1
theorem Azb:Av Tryz.prog 64 Awk (Au A35 A0d (D5 [.ret,.exit 0] A9v Ahr)):=Bu (An Am puS1 A2) 7 _ A35 A0d (fun e=>by cases e <;> exact Nat.le_refl _) [.ret,.exit 0] A9v Ahr (fun g=>by kernel_rfl)
end St
end V
end Go.Proofs.YtlangijnealfjaaGreat
namespace Go.Proofs.YtlangijnealfjaaGreat
open Go.RowKit
namespace V
namespace St
def A0e:Lay:={ keys:=[2,3,5],ks:=[.p 0 0 0 0,.p 1 0 0 0,.d cI],bs:=bsS,n:=103,nx:=1000,marks:=[] }
def Azc:Lay:={ keys:=[2,3],ks:=[.p 0 0 0 0,.p 1 0 0 0],bs:=bsS,n:=103,nx:=1000,marks:=[] }
def Awn:Lay:={ keys:=[4],ks:=[.d cI],bs:=[],n:=103,nx:=1000,marks:=[] }
def Wp:XE→Lay:=fun e=>match e with | .ret=>Awn | _=>Azc
def A36 (x:SKTs kGr) (s:SKTs kSt) (i:Int):A0e.T:=(((),(),i,()),(x,s,()))
def A37:A4 Wp:=⟨.ret,((2,()),())⟩
def A9w (x:SKTs kGr) (s:SKTs kSt):A4 Wp:=⟨.exit 0,(((),(),()),(x,s,()))⟩
def msS (s:SKTs kSt):List (TCT Bz):=s.1
def A9x (g:A0e.T):Tree (A0e.T⊕A4 Wp):=bif decide (g.1.2.2.1<((blX g.2.1).length:Int)) then inN (msS g.2.2.1).length g.1.2.2.1 (
 Tj (blX g.2.1).length (otS g.2.2.1).length g.1.2.2.1 (lwG g.2.1) (A7 (blX g.2.1) (Int.toNat g.1.2.2.1) (A5 Bo)) (A7 (otS g.2.2.1) (Int.toNat g.1.2.2.1) (A5 .b)) (A7 (msS g.2.2.1) (Int.toNat g.1.2.2.1) (A5 Bz))
  (.leaf (.inr A37)) (.leaf (.inl (A36 g.2.1 g.2.2.1 (W64 (g.1.2.2.1+1)))))) else .leaf (.inr (A9w g.2.1 g.2.2.1))
def Ahs (g:A0e.T):Nat:=(blX g.2.1).length+1
end St
end V
end Go.Proofs.YtlangijnealfjaaGreat
namespace Go.Proofs.YtlangijnealfjaaGreat
open Go.RowKit
namespace V
namespace St
def Rr (s:TCT cSt):SKTs kSt:=(s.1,s.2.1,s.2.2.1,s.2.2.2.1,s.2.2.2.2.1,())
def A38 (s:SKTs kSt):TCT cSt:=(s.1,s.2.1,s.2.2.1,s.2.2.2.1,s.2.2.2.2.1,())
def msT (s:TCT cSt):List (TCT Bz):=s.1
def osT (s:TCT cSt):List Bool:=s.2.1
def okO (l:TCT Aq) (b:TCT Bo) (o:Bool) (m:TCT Bz):Bool:=At0 b m&&(bif o then m.2.1.1==0&&(m.2.1.2.1==0&&true) else onB l (atM m))
def okS (g:TCT cGr) (os:List Bool) (i:Nat) (m:TCT Bz):Bool:=okO g.1 (A7 (Az g) i (A5 Bo)) (A7 os i (A5 .b)) m
theorem Y1 {G E:Type} {nb no:Nat} {i:Int} {l:TCT Aq} {b:TCT Bo} {o:Bool} {m:TCT Bz} {rt:E} {nx:G} (h1:0≤i∧i<(nb:Int)) (h2:0≤i∧i<(no:Int)) :
  (Tj nb no i l b o m (.leaf (.inr rt)) (.leaf (.inl nx)):Tree (G⊕E)).run=some (bif okO l b o m then .inl nx else .inr rt):=by
 unfold Tj A6z okO
 rw [Ci h1,Sx,Ci h2,Ci h2]
 cases At0 b m with
 | false=>rfl
 | true =>
  cases o with
  | false=>cases onB l (atM m) <;> rfl
  | true=>cases m.2.1.1==0&&(m.2.1.2.1==0&&true) <;> rfl
def Awo (g:TCT cGr) (s:TCT cSt):Option (A4 A0d):=iter A9v ((msT s).length+1) (A9t (Gm g) (Rr s) s.1 (msT s).length 0)
def At1 (g:TCT cGr) (s:TCT cSt):Option (A4 Wp):=iter A9x ((Az g).length+1) (A36 (Gm g) (Rr s) 0)
theorem Ann {g:TCT cGr} {s:TCT cSt} (h1:(msT s).length=(Az g).length) (h2:(osT s).length=(Az g).length) (hm:((msT s).length:Int)≤Aw .i64) :
  Awo g s=some (bif J3 (okS g (osT s)) 0 (msT s) then Ahq (Gm g) (Rr s) else A9u):=by
 refine Tf (msT s) (A5 Bz) (fun i=>A9t (Gm g) (Rr s) s.1 (msT s).length i) (okS g (osT s))
  (fun i m=>Tj (Az g).length (osT s).length i g.1 (A7 (Az g) (Int.toNat i) (A5 Bo)) (A7 (osT s) (Int.toNat i) (A5 .b)) m (.leaf (.inr A9u)) (.leaf (.inl (A9t (Gm g) (Rr s) s.1 (msT s).length (W64 (i+1))))):Int→TCT Bz→Tree (A35.T⊕A4 A0d)) A9u (Ahq (Gm g) (Rr s)) hm (fun i=>rfl) fun i hi=>?_
 rw [Y1 (by omega) (by omega),show Int.toNat (i:Int)=i from rfl,Ip hi hm]
 rfl
theorem Ano {g:TCT cGr} {s:TCT cSt} (h1:(msT s).length=(Az g).length) (h2:(osT s).length=(Az g).length) (hm:((msT s).length:Int)≤Aw .i64) :
  At1 g s=some (bif J3 (okS g (osT s)) 0 (msT s) then A9w (Gm g) (Rr s) else A37):=by
 unfold At1
 rw [← h1]
 refine Tf (msT s) (A5 Bz) (fun i=>A36 (Gm g) (Rr s) i) (okS g (osT s))
  (fun i m=>Tj (Az g).length (osT s).length i g.1 (A7 (Az g) (Int.toNat i) (A5 Bo)) (A7 (osT s) (Int.toNat i) (A5 .b)) m (.leaf (.inr A37)) (.leaf (.inl (A36 (Gm g) (Rr s) (W64 (i+1))))):Int→TCT Bz→Tree (A0e.T⊕A4 Wp)) A37 (A9w (Gm g) (Rr s)) hm (fun i=>?_) fun i hi=>?_
 ·show (bif decide (i<((Az g).length:Int)) then inN (msT s).length i (Tj (Az g).length (osT s).length i g.1 (A7 (Az g) (Int.toNat i) (A5 Bo)) (A7 (osT s) (Int.toNat i) (A5 .b)) (A7 (msT s) (Int.toNat i) (A5 Bz)) (.leaf (.inr A37)) (.leaf (.inl (A36 (Gm g) (Rr s) (W64 (i+1)))))) else .leaf (.inr (A9w (Gm g) (Rr s))):Tree (A0e.T⊕A4 Wp))=_
  rw [← h1]
  rfl
 ·rw [Y1 (by omega) (by omega),show Int.toNat (i:Int)=i from rfl,Ip hi hm]
  rfl
def Anp (n:Int) (s:TCT cSt):Bool:=decide (s.2.2.1<0)||(decide (s.2.2.1≥n)||(decide (s.2.2.2.1<0)||(decide (s.2.2.2.1>8)||(decide (s.2.2.2.2.1<0)||decide (s.2.2.2.2.1>4000)))))
def A70 (g:TCT cGr) (s:TCT cSt):Bool:=(((msT s).length:Int)==((Az g).length:Int))&&(((osT s).length:Int)==((Az g).length:Int))
def vaE (g:TCT cGr) (s:TCT cSt):Int:=bif A70 g s then bif J3 (okS g (osT s)) 0 (msT s) then bif Anp (Az g).length s then 2 else 0 else 2 else 17
def Aht (g:TCT cGr) (s:TCT cSt):Int:=bif groE g != 0 then groE g else vaE g s
abbrev Awp:PureT:=Bh [cGr,cSt] [cI] (fun _=>true) (fun x=>(vaE x.1 x.2.1,()))
abbrev A9y:PureT:=Bh [cGr,cSt] [cI] (fun x=>decide ((x.1.1.1.size:Int)≤Aw .i64)) (fun x=>(Aht x.1 x.2.1,()))
end St
end V
end Go.Proofs.YtlangijnealfjaaGreat
namespace Go.Proofs.YtlangijnealfjaaGreat
open Go.RowKit
namespace V
namespace St
def Ahu (n:Int) (s:TCT cSt):TEr:=er (decide (s.2.2.1<0)) 2 (er (decide (s.2.2.1≥n)) 2 (er (decide (s.2.2.2.1<0)) 2 (er (decide (s.2.2.2.1>8)) 2 (er (decide (s.2.2.2.2.1<0)) 2 (er (decide (s.2.2.2.2.1>4000)) 2 (.leaf (0,())))))))
theorem Anq (n:Int) (s:TCT cSt):Ahu n s=er (Anp n s) 2 (.leaf (0,())):=by
 unfold Ahu Anp
 rw [Ju,Ju,Ju,Ju,Ju]
def Ahv (g:TCT cGr) (s:TCT cSt) (k:TEr):TEr:=er (((msT s).length:Int)!=((Az g).length:Int)) 17 (er (((osT s).length:Int)!=((Az g).length:Int)) 17 k)
theorem Anr (g:TCT cGr) (s:TCT cSt) (k:TEr):Ahv g s k=er (!A70 g s) 17 k:=by
 unfold Ahv A70
 rw [← Ju]
 congr 1
 cases h1:((msT s).length:Int)==((Az g).length:Int) <;> cases h2:((osT s).length:Int)==((Az g).length:Int) <;> simp [bne,h1,h2]
theorem A39 {g:TCT cGr} {s:TCT cSt} (h:A70 g s=true):(msT s).length=(Az g).length∧(osT s).length=(Az g).length:=by
 unfold A70 at h
 simp only [Bool.and_eq_true,beq_iff_eq] at h
 omega
def Aze (g:TCT cGr) (y:Option (A4 A0d)):TEr:=bif isE .ret y then .leaf ((D4 .ret y).1.1,()) else bif isE (.exit 0) y then Ahu (blX (D4 (.exit 0) y).2.1).length (A38 (D4 (.exit 0) y).2.2.1) else .fail
def Azf (g:TCT cGr) (y:Option (A4 Wp)):TEr:=bif isE .ret y then .leaf ((D4 .ret y).1.1,()) else bif isE (.exit 0) y then Ahu (blX (D4 (.exit 0) y).2.1).length (A38 (D4 (.exit 0) y).2.2.1) else .fail
def At2 (g:TCT cGr) (s:TCT cSt):TEr:=szT g.1 (bif groE g != 0 then .leaf (groE g,()) else Ahv g s (Aze g (Awo g s)))
def At3 (g:TCT cGr) (s:TCT cSt):TEr:=Ahv g s (Azf g (At1 g s))
theorem Ahw {g:TCT cGr} {s:TCT cSt} {k:TEr} (h:A70 g s=true→k=bif J3 (okS g (osT s)) 0 (msT s) then Ahu (Az g).length s else .leaf (2,())):(Ahv g s k).sat (fun y=>y=(vaE g s,())):=by
 rw [Anr]
 unfold vaE
 cases he:A70 g s with
 | false=>exact rfl
 | true =>
  rw [h he]
  cases J3 (okS g (osT s)) 0 (msT s) with
  | false=>exact rfl
  | true =>
   simp only [Bool.not_true,cond_true]
   rw [Anq]
   cases Anp (Az g).length s <;> exact rfl
theorem Ans {g:TCT cGr} {s:TCT cSt} (hs:(g.1.1.size:Int)≤Aw .i64) (hm:((msT s).length:Int)≤Aw .i64):(At2 g s).sat (fun y=>y=(Aht g s,())):=by
 unfold At2 Aht
 rw [Dw hs]
 cases groE g != 0 with
 | true=>exact rfl
 | false =>
  simp only [cond_false]
  refine Ahw fun he=>?_
  obtain ⟨h1,h2⟩:=A39 he
  rw [Ann h1 h2 hm]
  cases J3 (okS g (osT s)) 0 (msT s) <;> rfl
theorem Ant {g:TCT cGr} {s:TCT cSt} (hm:((msT s).length:Int)≤Aw .i64):(At3 g s).sat (fun y=>y=(vaE g s,())):=by
 unfold At3
 refine Ahw fun he=>?_
 obtain ⟨h1,h2⟩:=A39 he
 rw [Ano h1 h2 hm]
 cases J3 (okS g (osT s)) 0 (msT s) <;> rfl
noncomputable def Azg:Ctx:=F8 Tryz.prog plS1 [(64,Tryz.f64)] [((64,7),Au A35 A0d (D5 [.ret,.exit 0] A9v Ahr))]
theorem Anu:CtxOk Azg:=Bt Am puS1 (A0 is_cState A2) (C3 (by kernel_rfl) (by kernel_rfl) Azb)
theorem Anv:A6 Tryz.prog 64 A9y:=Bj Anu 7 (fun x=>At2 x.1 x.2.1) (fun x=>by kernel_rfl) fun x hok hw=>Ans (of_decide_eq_true hok) (Ej hw.2.1.1)
def plS2:List (Nat×PureT):=plS1
theorem puS2:Cd Tryz.prog plS2:=puS1
end St
end V
end Go.Proofs.YtlangijnealfjaaGreat
namespace Go.Proofs.YtlangijnealfjaaGreat
open Go.RowKit
namespace V
def M7 {S B:Type} (f:Nat→S→S⊕B):Nat→Nat→S→S⊕B
 | _,0,s=>.inl s
 | i,k+1,s=>match f i s with
  | .inl s'=>M7 f (i+1) k s'
  | .inr b=>.inr b
def Ahz {G E S B:Type} (hd:Nat→S→G) (res:S⊕B→E) (i:Nat):S⊕B→G⊕E
 | .inl s=>.inl (hd (i+1) s)
 | .inr b=>.inr (res (.inr b))
theorem A71 {G E S B:Type} {st:G→Tree (G⊕E)} (n:Nat) (hd:Nat→S→G) (f:Nat→S→S⊕B) (res:S⊕B→E) (Inv:Nat→S→Prop)
  (h1:∀ i s,i<n→Inv i s→(st (hd i s)).run=some (Ahz hd res i (f i s)))
  (h2:∀ i s s',i<n→Inv i s→f i s=.inl s'→Inv (i+1) s')
  (h3:∀ s,Inv n s→(st (hd n s)).run=some (.inr (res (.inl s)))) :
  ∀ (k i:Nat) (s:S),i+k=n→Inv i s→iter st (k+1) (hd i s)=some (res (M7 f i k s))
 | 0,i,s,hk,hi=>by
  have e:i=n:=by omega
  subst e
  exact F7 (h3 s hi)
 | k+1,i,s,hk,hi=>by
  have hlt:i<n:=by omega
  have hr:=h1 i s hlt hi
  unfold M7
  cases hf:f i s with
  | inl s' =>
   rw [hf] at hr
   rw [Js hr]
   exact A71 n hd f res Inv h1 h2 h3 k (i+1) s' (by omega) (h2 i s s' hlt hi hf)
  | inr b =>
   rw [hf] at hr
   exact F7 hr
theorem A72 {β:Type} {h w:List β} {b:Nat} (k:h.length+w.length≤1000000) (hb:b≤48):Dy h w b=true:=by
 rw [F2,decide_eq_true_iff]
 have h1:((h.length+w.length:Nat):Int)≤1000000:=by omega
 have h2:(b:Int)≤48:=by omega
 calc ((h.length+w.length:Nat):Int)*b≤1000000*48:=Int.mul_le_mul h1 h2 (by omega) (by decide)
  _≤140737488355328:=by decide
namespace St
theorem is_sLie:FnIs Tryz.prog (24,Tryz.f24):=⟨Tryz.func24,by kernel_rfl,by kernel_rfl⟩
abbrev kSo:List SK:=[.o 84 Bz,.o 4 .b,.d cI,.d cI,.d cI]
noncomputable def Awq:Code:=(Ah (bodyOf Tryz.f24)).getD 0 .skip
abbrev Aqz:List BK:=[(0,64,kGr),(1,76,kSt),(3,76,kSo)]
def A73:Lay:={ keys:=[2,4,7,27,28,29],ks:=[.p 0 0 0 0,.p 1 0 0 0,.p 3 0 0 0,.d (.sl cPt),.d cI,.d cI],bs:=Aqz,n:=48,nx:=1000,marks:=[] }
def Azi:Lay:={ keys:=[4,7],ks:=[.p 1 0 0 0,.p 3 0 0 0],bs:=[(1,76,kSt),(3,76,kSo)],n:=48,nx:=1000,marks:=[] }
def Awr:Lay:={ keys:=[4,5],ks:=[.p 1 0 0 0,.d cI],bs:=[(1,76,kSt)],n:=48,nx:=1000,marks:=[] }
def A0f:XE→Lay:=fun e=>match e with | .ret=>Awr | _=>Azi
def Azj:Lay:={ keys:=[1,2,4,6,7],ks:=[.d (.sl cPt),.p 0 0 0 0,.p 1 0 0 0,.p 3 0 0 0,.d cI],bs:=Aqz,n:=51,nx:=1000,marks:=[] }
def Azk:Lay:={ keys:=[4,6],ks:=[.p 1 0 0 0,.p 3 0 0 0],bs:=[(1,76,kSt),(3,76,kSo)],n:=51,nx:=1000,marks:=[] }
def Aws:Lay:={ keys:=[4,5],ks:=[.p 1 0 0 0,.d cI],bs:=[(1,76,kSt)],n:=51,nx:=1000,marks:=[] }
def Azl:XE→Lay:=fun e=>match e with | .ret=>Aws | _=>Azk
def At4 (p:TCT cPt):TCT Bz:=((p.1,p.2.1,()),(0,0,()),(0,0,()),())
def At5 (p:TCT cPt):TCT cPt:=(p.1,p.2.1,())
def Ar0 {β:Type} (p:TCT cPt) (ms:List (TCT Bz)) (nx:List (TCT Bz)→Tree β):Tree β:=bif Dy ms [At4 p] 48 then nx (ms++[At4 p]) else .fail
def A9z (x:SKTs kGr) (r q:SKTs kSt) (p:List (TCT cPt)) (n i:Int) (ms:List (TCT Bz)):A73.T:=(((),(),(),p,n,i,()),(x,r,(ms,q.2),()))
def Ar1:A4 A0f:=⟨.ret,(((),2,()),(([],[],0,0,0,()),()))⟩
def Ar2 (r q:SKTs kSt) (ms:List (TCT Bz)):A4 A0f:=⟨.exit 0,(((),(),()),(r,(ms,q.2),()))⟩
abbrev TLi:=Tree (A73.T⊕A4 A0f)
def Tk (x:SKTs kGr) (r q:SKTs kSt) (p:List (TCT cPt)) (n i:Int) (ms:List (TCT Bz)):TLi:=bif decide (i<n) then inN p.length i (
 bif !onB (lwG x) (At5 (A7 p (Int.toNat i) (A5 cPt))) then .leaf (.inr Ar1) else Ar0 (A7 p (Int.toNat i) (A5 cPt)) ms fun ms'=>.leaf (.inl (A9z x r q p n (W64 (i+1)) ms'))) else .leaf (.inr (Ar2 r q ms))
def A3a (g:A73.T):TLi:=Tk g.2.1 g.2.2.1 g.2.2.2.1 g.1.2.2.2.1 g.1.2.2.2.2.1 g.1.2.2.2.2.2.1 g.2.2.2.1.1
def Ai0 (g:A73.T):Nat:=(g.1.2.2.2.1:List (TCT cPt)).length+1
theorem Azm:Av Tryz.prog 24 Awq (Au A73 A0f (D5 [.ret,.exit 0] A3a Ai0)):=Bu (An Am puS1 A2) 7 _ A73 A0f (fun e=>by cases e <;> exact Nat.le_refl _) [.ret,.exit 0] A3a Ai0 (fun g=>by kernel_rfl)
abbrev TRl:=Tree (Azj.T⊕A4 Azl)
def At6 (l:TCT Aq) (p:List (TCT cPt)) (i:Nat):Bool:=onB l (At5 (A7 p i (A5 cPt)))
def A0g (l:TCT Aq) (p:List (TCT cPt)) (i:Nat) (ms:List (TCT Bz)):List (TCT Bz)⊕Unit:=bif At6 l p i then .inl (ms++[At4 (A7 p i (A5 cPt))]) else .inr ()
def A74 (r q:SKTs kSt):List (TCT Bz)⊕Unit→A4 A0f
 | .inl ms=>Ar2 r q ms
 | .inr _=>Ar1
theorem At7 {l:TCT Aq} {p:List (TCT cPt)} (i:Nat) (s s':List (TCT Bz)) (_:i<p.length) (hi:s.length=i) (h:A0g l p i s=.inl s'):s'.length=i+1:=by
 unfold A0g at h
 cases ho:At6 l p i with
 | true=>rw [ho] at h;cases h;simp [hi]
 | false=>rw [ho] at h;cases h
theorem Awt {x:SKTs kGr} {r q:SKTs kSt} {p:List (TCT cPt)} (hp:p.length≤100):iter A3a (p.length+1) (A9z x r q p p.length 0 [])=some (A74 r q (M7 (A0g (lwG x) p) 0 p.length [])):=by
 have hp':(p.length:Int)≤Aw .i64:=by show (p.length:Int)≤9223372036854775807;omega
 refine A71 p.length (fun i ms=>A9z x r q p p.length i ms) (A0g (lwG x) p) (A74 r q) (fun i ms=>ms.length=i) (fun i ms hi hl=>?_) At7 (fun ms hl=>?_) p.length 0 [] (by omega) rfl
 ·show (Tk x r q p p.length (i:Int) ms).run=_
  unfold Tk A0g At6 Ar0
  rw [decide_eq_true (show (i:Int)<(p.length:Int) by omega),Ci (by omega),show Int.toNat (i:Int)=i from rfl,A72 (by simp;omega) (by decide),Ip hi hp']
  cases onB (lwG x) (At5 (A7 p i (A5 cPt))) <;> rfl
 ·show (Tk x r q p p.length (p.length:Int) ms).run=_
  unfold Tk
  rw [decide_eq_false (show ¬ (p.length:Int)<(p.length:Int) by omega)]
  rfl
end St
end V
end Go.Proofs.YtlangijnealfjaaGreat
namespace Go.Proofs.YtlangijnealfjaaGreat
open Go.RowKit
namespace V
namespace St
abbrev plS3:List (Nat×PureT):=(64,A9y)::(132,A9b)::plS2
theorem puS3:Cd Tryz.prog plS3:=puOk_cons is_cState.plain Anv (puOk_cons is_cfMot.plain Amk puS2)
def r0:SKTs kSt:=([],[],0,0,0,())
def q0 (p:List (TCT cPt)):SKTs kSt:=([],List.replicate (Int.toNat (p.length:Int)) false,0,0,0,())
def zS:TCT cSt:=([],[],0,0,0,())
abbrev TLs:=Tree (TCTs [cSt,cI])
def erS (c:Bool) (e:Int) (k:TLs):TLs:=bif c then .leaf (zS,e,()) else k
def Awu (g:TCT cGr) (p:List (TCT cPt)):Option (A4 A0f):=iter A3a (p.length+1) (A9z (Gm g) r0 (q0 p) p p.length 0 [])
def mkT {β:Type} (n:Int) (k:Tree β):Tree β:=bif decide (0≤n∧n≤n∧n≤65536∧((1:Nat):Int)*n≤281474976710656) then k else .fail
theorem At8 {β:Type} {n:Int} {k:Tree β} (h0:0≤n) (h:n≤65536):mkT n k=k:=by
 unfold mkT
 rw [decide_eq_true (by omega)];rfl
def stO (s:SKTs kSo):TCT cSt:=(s.1,s.2.1,s.2.2.1,s.2.2.2.1,s.2.2.2.2.1,())
def Azn (y:Option (A4 A0f)):TLs:=bif isE .ret y then .leaf (A38 (D4 .ret y).2.1,(D4 .ret y).1.2.1,()) else bif isE (.exit 0) y then .leaf (stO (D4 (.exit 0) y).2.2.1,0,()) else .fail
def Acs (a b:Nat):Bool:=(a:Int)!=(b:Int)
def At9 (g:TCT cGr) (p:List (TCT cPt)):TLs:=szT g.1 (erS (groE g != 0) (groE g) (erS (Acs p.length (Az g).length) 17 (mkT p.length (Azn (Awu g p)))))
def Awv (p:List (TCT cPt)):List (TCT Bz)⊕Unit→TCTs [cSt,cI]
 | .inl ms=>((ms,List.replicate p.length false,0,0,0,()),0,())
 | .inr _=>(zS,2,())
def Hj (g:TCT cGr) (p:List (TCT cPt)):TCTs [cSt,cI]:=bif groE g != 0 then (zS,groE g,()) else bif Acs p.length (Az g).length then (zS,17,()) else Awv p (M7 (A0g g.1 p) 0 p.length [])
def etaS (s:TCT cSt):TCT cSt:=(s.1,s.2.1,s.2.2.1,s.2.2.2.1,s.2.2.2.2.1,())
abbrev Ar3:PureT:=Bh [cGr,.sl cPt] [cSt,cI] (fun x=>decide ((x.1.1.1.size:Int)≤Aw .i64)) (fun x=>(etaS (Hj x.1 x.2.1).1,(Hj x.1 x.2.1).2.1,()))
theorem Anx {g:TCT cGr} (h:groE g=0):1≤(Az g).length∧(Az g).length≤8:=by
 unfold groE at h
 cases h1:Di g.1 != 0 with
 | true=>rw [h1,cond_true] at h;rw [h] at h1;cases h1
 | false =>
  rw [h1,cond_false] at h
  cases h2:decide (((Az g).length:Int)<1)||decide (((Az g).length:Int)>8) with
  | true=>rw [h2] at h;cases h
  | false =>
   rw [Bool.or_eq_false_iff,decide_eq_false_iff_not,decide_eq_false_iff_not] at h2
   omega
theorem Ata {a b:Nat} (h:Acs a b=false):a=b:=by
 unfold Acs at h
 have:=bne_eq_false_iff_eq.1 h
 omega
theorem Any {g:TCT cGr} {p:List (TCT cPt)} {k:TLs} (h:groE g=0→p.length=(Az g).length→p.length≤8→k=.leaf (Awv p (M7 (A0g g.1 p) 0 p.length []))) :
  (bif groE g != 0 then .leaf (zS,groE g,()) else erS (Acs p.length (Az g).length) 17 k:TLs).sat (fun y=>y=(etaS (Hj g p).1,(Hj g p).2.1,())):=by
 show Tree.sat (fun y=>y=Hj g p) _
 unfold Hj
 cases h1:groE g != 0 with
 | true=>exact rfl
 | false =>
  simp only [cond_false]
  unfold erS
  cases h2:Acs p.length (Az g).length with
  | true=>exact rfl
  | false =>
   have e:=Ata h2
   have h0:groE g=0:=bne_eq_false_iff_eq.1 h1
   have:=Anx h0
   rw [h h0 e (by omega)]
   exact rfl
theorem Anz {g:TCT cGr} {p:List (TCT cPt)} (hs:(g.1.1.size:Int)≤Aw .i64):(At9 g p).sat (fun y=>y=(etaS (Hj g p).1,(Hj g p).2.1,())):=by
 unfold At9
 rw [Dw hs]
 refine Any fun _ e hp=>?_
 have hy:Awu g p=some (A74 r0 (q0 p) (M7 (A0g g.1 p) 0 p.length [])):=Awt (by omega)
 rw [At8 (by omega) (by omega),hy]
 cases M7 (A0g g.1 p) 0 p.length [] <;> rfl
noncomputable def Azo:Ctx:=F8 Tryz.prog plS3 [(24,Tryz.f24)] [((24,8),Au A73 A0f (D5 [.ret,.exit 0] A3a Ai0))]
theorem Ao0:CtxOk Azo:=Bt Am puS3 (A0 is_sLie A2) (C3 (by kernel_rfl) (by kernel_rfl) Azm)
theorem Aww:A6 Tryz.prog 24 Ar3:=Bj Ao0 7 (fun x=>At9 x.1 x.2.1) (fun x=>by kernel_rfl) fun x hok _=>Anz (of_decide_eq_true hok)
end St
end V
end Go.Proofs.YtlangijnealfjaaGreat
