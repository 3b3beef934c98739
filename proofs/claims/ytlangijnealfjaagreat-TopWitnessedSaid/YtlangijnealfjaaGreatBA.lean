import Derived.Test.YtlangijnealfjaaGreatSd
import Derived.Test.YtlangijnealfjaaGreatTV
import Derived.Test.YtlangijnealfjaaGreatUj
import Derived.Test.YtlangijnealfjaaGreatBa
import Derived.Test.YtlangijnealfjaaGreatZe
namespace Go.Proofs.YtlangijnealfjaaGreat
open Go.RowKit
namespace V
abbrev P2:PureT:=Bj [cPt,cPt,cI] [cPt,cI] (fun _=>true) (fun x=>(((TwR x.1.1 x.1.2.1 x.2.1.1 x.2.1.2.1 x.2.2.1).1.1,(TwR x.1.1 x.1.2.1 x.2.1.1 x.2.1.2.1 x.2.2.1).1.2,()),(TwR x.1.1 x.1.2.1 x.2.1.1 x.2.1.2.1 x.2.2.1).2,()))
theorem A2b:A6 Tryz.prog 59 P2:=Adw
end V
end Go.Proofs.YtlangijnealfjaaGreat
namespace Go.Proofs.YtlangijnealfjaaGreat
open Go.RowKit
namespace V
namespace St
abbrev Bv:TC:=.st [cI,cI,cI,cI,.b]
abbrev D8:TC:=.st [cI,cI,cI]
abbrev Am:TC:=.st [.s,cI,cI,cI,.sl Bv,A4,cI,cI,.sl D8]
abbrev cGr:TC:=.st [Am,.sl A3,Cj]
abbrev cSt:TC:=.st [.sl B0,.sl .b,cI,cI,cI]
abbrev cBl:TC:=.st [cI,cPt,cI,cI]
abbrev cKn:TC:=.st [cI,cI,cI,cI,cI]
theorem is_between2:FnIs Tryz.prog (120,Tryz.f120):=⟨Tryz.func120,by kernel_rfl,by kernel_rfl⟩
theorem is_validHoop:FnIs Tryz.prog (177,Tryz.f177):=⟨Tryz.func177,by kernel_rfl,by kernel_rfl⟩
theorem is_validCell:FnIs Tryz.prog (180,Tryz.f180):=⟨Tryz.func180,by kernel_rfl,by kernel_rfl⟩
theorem is_Check1:FnIs Tryz.prog (176,Tryz.f176):=⟨Tryz.func176,by kernel_rfl,by kernel_rfl⟩
theorem is_Check2:FnIs Tryz.prog (179,Tryz.f179):=⟨Tryz.func179,by kernel_rfl,by kernel_rfl⟩
theorem is_CG1:FnIs Tryz.prog (122,Tryz.f122):=⟨Tryz.func122,by kernel_rfl,by kernel_rfl⟩
theorem is_still1:FnIs Tryz.prog (133,Tryz.f133):=⟨Tryz.func133,by kernel_rfl,by kernel_rfl⟩
theorem is_tChk:FnIs Tryz.prog (70,Tryz.f70):=⟨Tryz.func70,by kernel_rfl,by kernel_rfl⟩
def inR (x lo hi:Int):Bool:=decide (lo≤x)&&decide (x≤hi)
abbrev s_inR:PureT:=Bj [cI,cI,cI] [.b] (fun _=>true) (fun x=>(inR x.1 x.2.1 x.2.2.1,()))
abbrev TBo:=Tree (TCTs [.b])
def Rl (a:Bool) (t:TBo):TBo:=bif a then t else .leaf (false,())
theorem Gr {a b:Bool} {t:TBo} (h:t.sat (fun y=>y=(b,()))):(Rl a t).sat (fun y=>y=(a&&b,())):=by
 unfold Rl
 cases a with
 | true=>rw [Bool.true_and];exact h
 | false=>exact rfl
theorem A2c (b:Bool):(Tree.leaf (b,()):TBo).sat (fun y=>y=(b,())):=rfl
theorem q_between2:A6 Tryz.prog 120 s_inR:=Bl (Ap Ak puOk_nil (fns_cons is_between2 A0)) 3 (fun x=>Rl (decide (x.2.1≤x.1)) (.leaf (decide (x.1≤x.2.2.1),()))) (fun x=>by kernel_rfl) fun _ _ _=>Gr (A2c _)
def plBt:List (Nat×PureT):=[(120,s_inR)]
theorem puBt:D3 Tryz.prog plBt:=puOk_cons is_between2.plain q_between2 (puOk_nil)
def Gj (h:TCT Bv):Bool:=inR h.1 0 4194304&&(inR h.2.1 0 4194304&&(inR h.2.2.1 2 32768&&((Int.tmod h.2.2.1 2==0)&&inR h.2.2.2.1 1 8192)))
def Hg (c:TCT D8):Bool:=inR c.1 0 65536&&(inR c.2.1 (-4096) 4096&&inR c.2.2.1 (-4096) 4096)
abbrev A4a:PureT:=Bj [Bv] [.b] (fun _=>true) (fun x=>(Gj x.1,()))
abbrev A4b:PureT:=Bj [D8] [.b] (fun _=>true) (fun x=>(Hg x.1,()))
def A4c (h:TCT Bv):TBo:=Rl (inR h.1 0 4194304) (Rl (inR h.2.1 0 4194304) (Rl (inR h.2.2.1 2 32768) (Rl (Int.tmod h.2.2.1 2==0) (.leaf (inR h.2.2.2.1 1 8192,())))))
def A4d (c:TCT D8):TBo:=Rl (inR c.1 0 65536) (Rl (inR c.2.1 (-4096) 4096) (.leaf (inR c.2.2.1 (-4096) 4096,())))
theorem Xj (h:TCT Bv):(A4c h).sat (fun y=>y=(Gj h,())):=Gr (Gr (Gr (Gr (A2c _))))
theorem Xk (c:TCT D8):(A4d c).sat (fun y=>y=(Hg c,())):=Gr (Gr (A2c _))
theorem A6r:A6 Tryz.prog 177 A4a:=Bl (Ap Ak puBt (fns_cons is_validHoop A0)) 3 (fun x=>A4c x.1) (fun x=>by kernel_rfl) fun x _ _=>Xj x.1
theorem A6s:A6 Tryz.prog 180 A4b:=Bl (Ap Ak puBt (fns_cons is_validCell A0)) 3 (fun x=>A4d x.1) (fun x=>by kernel_rfl) fun x _ _=>Xk x.1
def Fz (m:TCT B0):Bool:=m.2.1.1==0&&m.2.1.2.1==0
def I1 (b:TCT A3):Bool:=Jc b.1 b.2.1
abbrev Bc3:PureT:=Bj [Bv] [.b] (fun _=>true) (fun x=>(!Gj x.1,()))
abbrev Bc4:PureT:=Bj [D8] [.b] (fun _=>true) (fun x=>(!Hg x.1,()))
abbrev B4a:PureT:=Bj [A3] [.b] (fun _=>true) (fun x=>(!I1 x.1,()))
abbrev B4b:PureT:=Bj [B0] [.b] (fun _=>true) (fun x=>(!Fz x.1,()))
abbrev B4c:PureT:=Bj [cPt] [.b] (fun _=>true) (fun x=>(!fpt x.1.1 x.1.2.1,()))
theorem Bgx:A6 Tryz.prog 176 Bc3:=Bl (Ap Ak (puOk_cons is_validHoop.plain A6r puOk_nil) (fns_cons is_Check1 A0)) 3 (fun x=>.leaf (!Gj x.1,())) (fun x=>by kernel_rfl) fun _ _ _=>rfl
theorem Bgy:A6 Tryz.prog 179 Bc4:=Bl (Ap Ak (puOk_cons is_validCell.plain A6s puOk_nil) (fns_cons is_Check2 A0)) 3 (fun x=>.leaf (!Hg x.1,())) (fun x=>by kernel_rfl) fun _ _ _=>rfl
theorem Xl (b:Bool):(okE b != 0)=!b:=by unfold okE;cases b <;> rfl
theorem Bc5:A6 Tryz.prog 122 B4a:=Bl (Ap Ak (puOk_cons is_CheckBall.plain Vo puOk_nil) (fns_cons is_CG1 A0)) 3 (fun x=>.leaf (okE (Jc x.1.1 x.1.2.1)!=0,())) (fun x=>by kernel_rfl) fun x _ _=>by
 show (okE (Jc x.1.1 x.1.2.1)!=0,())=(!I1 x.1,())
 rw [Xl];rfl
theorem Bc6:A6 Tryz.prog 133 B4b:=Bl (Ap Ak puOk_nil (fns_cons is_still1 A0)) 3 (fun x=>.leaf (!(x.1.2.1.1==0&&(x.1.2.1.2.1==0&&true)),())) (fun x=>by kernel_rfl) fun x _ _=>by
 show (!(x.1.2.1.1==0&&(x.1.2.1.2.1==0&&true)),())=(!Fz x.1,())
 rw [Bool.and_true];rfl
def plCl:List (Nat×PureT):=[(176,Bc3),(179,Bc4),(122,B4a),(133,B4b)]
theorem puCl:D3 Tryz.prog plCl:=puOk_cons is_Check1.plain Bgx (puOk_cons is_Check2.plain Bgy (puOk_cons is_CG1.plain Bc5 (puOk_cons is_still1.plain Bc6 (puOk_nil))))
theorem is_ixHoop:FnIs Tryz.prog (227,Tryz.f227):=⟨Tryz.func227,by kernel_rfl,by kernel_rfl⟩
theorem is_cfHoop:FnIs Tryz.prog (175,Tryz.f175):=⟨Tryz.func175,by kernel_rfl,by kernel_rfl⟩
abbrev Ij:List SK:=[]
def Ef (k:SKTs Ij) (x:TCT (Bv)):Bool:=!Gj x
noncomputable def A2d:Code:=(Al (bodyOf Tryz.f227)).getD 0 .skip
def K1:Lay:={ keys:=[0,1,7,8],ks:=[.d (.sl (Bv)),.f 176 [] Ij,.d cI,.d cI],bs:=[],n:=19,nx:=1000,marks:=[] }
def Ajk:Lay:={ keys:=[4],ks:=[.d cI],bs:=[],n:=19,nx:=1000,marks:=[] }
def Ajl:Lay:={ keys:=[],ks:=[],bs:=[],n:=19,nx:=1000,marks:=[] }
def Iw:XE→Lay
 | .ret=>Ajk
 | _=>Ajl
def A2e (k:SKTs Ij) (l:List (TCT (Bv))) (n i:Int):K1.T:=((l,((),k),n,i,()),())
def Rm (i:Int):A1 Iw:=⟨.ret,((i,()),())⟩
def Rn:A1 Iw:=⟨.exit 0,((),())⟩
def Kj (k:SKTs Ij) (l:List (TCT (Bv))) (n:Int) (x:TCT (Bv)) (i:Int):Tree (K1.T⊕A1 Iw):=bif Ef k x then .leaf (.inr (Rm i)) else .leaf (.inl (A2e k l n (W64 (i+1))))
def Ajm (k:SKTs Ij) (l:List (TCT (Bv))) (n i:Int):Tree (K1.T⊕A1 Iw) :=
 bif decide (i<n) then bif decide (0≤i∧i<(l.length:Int)) then Kj k l n (As l i.toNat (Aq (Bv))) i else .fail else .leaf (.inr Rn)
def Qc (g:K1.T):Tree (A1 Iw) :=
 .br (Lm g.1.2.2.1 g.1.2.2.2.1 g.1.1) (.br (g.1.1.any (Ef g.1.2.1.2)) (.leaf (Rm (g.1.1.findIdx (Ef g.1.2.1.2)))) (.leaf Rn)) .fail
theorem Ano:Aw Tryz.prog 227 A2d (Ar K1 Iw Qc):=by
 refine G9 (X:=ctx Tryz.prog plCl []) (Ap Ak puCl A0) 7 227 (fun _=>none) (fun _ _ f h=>by simp at h) K1 Iw (fun e=>by cases e <;> exact Nat.le_refl _) Qc (fun g=>Ajm g.1.2.1.2 g.1.1 g.1.2.2.1 g.1.2.2.2.1) (fun g=>by kernel_rfl) ?_
 rintro ⟨⟨l,⟨⟨⟩,k⟩,n,i,⟨⟩⟩,⟨⟩⟩ R hw hf
 obtain ⟨hf,h0⟩:=hf
 by_cases hc:n=(l.length:Int)∧i=0
 ·obtain ⟨rfl,rfl⟩:=hc
  have hf:=hf (decide_eq_true ⟨rfl,rfl⟩)
  refine Avt l (Aq (Bv)) (Dl hw.1.1) (fun n i _=>A2e k l n i) (fun x i (_:Unit)=>bif Ef k x then .inr (Rm i) else .inl ()) (fun _=>Rn) (fun _=>True) (fun x i _=>Kj k l l.length x i) (fun i _=>rfl) ?_ () trivial ?_
  ·intro i _ hi Q _ _ hw1 hQ
   show (Kj k l l.length l[i] i).sat Q
   unfold Kj
   rw [hw1]
   cases hp:Ef k l[i] with
   | true=>rw [hp] at hQ;exact hQ
   | false=>rw [hp] at hQ;exact hQ trivial
  ·rw [Pp (Ef k) (fun i=>Rm i) Rn l 0,Nat.zero_add]
   cases ha:l.any (Ef k) with
   | true=>exact hf.1 ha
   | false=>exact hf.2 ha
 ·exact (h0 (decide_eq_false hc)).elim
abbrev Anp:PureT:=Ha [.d (.sl (Bv)),.f 176 [] Ij] [cI] (fun _=>true) (fun x=>(bif x.1.any (Ef x.2.1.2) then (x.1.findIdx (Ef x.2.1.2):Int) else -1,()))
noncomputable def Anq:Ctx:=G4 Tryz.prog plCl [(227,Tryz.f227)] [((227,keyOf A2d),Ar K1 Iw Qc)]
theorem A6t:CtxOk Anq:=Bs Ak puCl (fns_cons is_ixHoop A0) (Cc rfl (by kernel_rfl) Ano)
def A6u (k:SKTs Ij) (l:List (TCT (Bv))):Tree (Int×Unit):=bif Lm (l.length:Int) 0 l then bif l.any (Ef k) then .leaf ((l.findIdx (Ef k):Int),()) else .leaf (-1,()) else .fail
theorem A6v (k:SKTs Ij) (l:List (TCT (Bv))):(A6u k l).sat (fun y=>y=(bif l.any (Ef k) then (l.findIdx (Ef k):Int) else -1,())):=by
 refine Ow (decide_eq_true ⟨rfl,rfl⟩) ?_
 cases l.any (Ef k) <;> exact rfl
theorem Anr:A6 Tryz.prog 227 Anp:=Ji A6t 8 (fun x=>A6u x.2.1.2 x.1) (fun x=>by kernel_rfl) fun x _ _=>A6v _ _
abbrev A6w:PureT:=Ha [.d (.sl (Bv)),.f 176 [] Ij] [.b] (fun _=>true) (fun x=>(x.1.any (Ef x.2.1.2),()))
theorem A6x (k:SKTs Ij) (l:List (TCT (Bv))):(Tree.leaf (decide ((bif l.any (Ef k) then (l.findIdx (Ef k):Int) else -1)≥0),()):Tree (Bool×Unit)).sat (fun y=>y=(l.any (Ef k),())):=by
 rw [Tn];exact rfl
theorem Ans:A6 Tryz.prog 175 A6w:=Ji (Ap Ak (puOk_cons is_ixHoop.plain Anr puOk_nil) (fns_cons is_cfHoop A0)) 8 (fun x=>.leaf (decide ((bif x.1.any (Ef x.2.1.2) then (x.1.findIdx (Ef x.2.1.2):Int) else -1)≥0),())) (fun x=>by kernel_rfl) fun x _ _=>A6x _ _
theorem is_ixCell:FnIs Tryz.prog (228,Tryz.f228):=⟨Tryz.func228,by kernel_rfl,by kernel_rfl⟩
theorem is_cfCell:FnIs Tryz.prog (178,Tryz.f178):=⟨Tryz.func178,by kernel_rfl,by kernel_rfl⟩
abbrev Ik:List SK:=[]
def Eg (k:SKTs Ik) (x:TCT (D8)):Bool:=!Hg x
noncomputable def A2f:Code:=(Al (bodyOf Tryz.f228)).getD 0 .skip
def K2:Lay:={ keys:=[0,1,7,8],ks:=[.d (.sl (D8)),.f 179 [] Ik,.d cI,.d cI],bs:=[],n:=19,nx:=1000,marks:=[] }
def Ajn:Lay:={ keys:=[4],ks:=[.d cI],bs:=[],n:=19,nx:=1000,marks:=[] }
def Ajo:Lay:={ keys:=[],ks:=[],bs:=[],n:=19,nx:=1000,marks:=[] }
def Ix:XE→Lay
 | .ret=>Ajn
 | _=>Ajo
def A2g (k:SKTs Ik) (l:List (TCT (D8))) (n i:Int):K2.T:=((l,((),k),n,i,()),())
def Ro (i:Int):A1 Ix:=⟨.ret,((i,()),())⟩
def Rp:A1 Ix:=⟨.exit 0,((),())⟩
def Kk (k:SKTs Ik) (l:List (TCT (D8))) (n:Int) (x:TCT (D8)) (i:Int):Tree (K2.T⊕A1 Ix):=bif Eg k x then .leaf (.inr (Ro i)) else .leaf (.inl (A2g k l n (W64 (i+1))))
def Ajp (k:SKTs Ik) (l:List (TCT (D8))) (n i:Int):Tree (K2.T⊕A1 Ix) :=
 bif decide (i<n) then bif decide (0≤i∧i<(l.length:Int)) then Kk k l n (As l i.toNat (Aq (D8))) i else .fail else .leaf (.inr Rp)
def Qd (g:K2.T):Tree (A1 Ix) :=
 .br (Lm g.1.2.2.1 g.1.2.2.2.1 g.1.1) (.br (g.1.1.any (Eg g.1.2.1.2)) (.leaf (Ro (g.1.1.findIdx (Eg g.1.2.1.2)))) (.leaf Rp)) .fail
theorem Ant:Aw Tryz.prog 228 A2f (Ar K2 Ix Qd):=by
 refine G9 (X:=ctx Tryz.prog plCl []) (Ap Ak puCl A0) 7 228 (fun _=>none) (fun _ _ f h=>by simp at h) K2 Ix (fun e=>by cases e <;> exact Nat.le_refl _) Qd (fun g=>Ajp g.1.2.1.2 g.1.1 g.1.2.2.1 g.1.2.2.2.1) (fun g=>by kernel_rfl) ?_
 rintro ⟨⟨l,⟨⟨⟩,k⟩,n,i,⟨⟩⟩,⟨⟩⟩ R hw hf
 obtain ⟨hf,h0⟩:=hf
 by_cases hc:n=(l.length:Int)∧i=0
 ·obtain ⟨rfl,rfl⟩:=hc
  have hf:=hf (decide_eq_true ⟨rfl,rfl⟩)
  refine Avt l (Aq (D8)) (Dl hw.1.1) (fun n i _=>A2g k l n i) (fun x i (_:Unit)=>bif Eg k x then .inr (Ro i) else .inl ()) (fun _=>Rp) (fun _=>True) (fun x i _=>Kk k l l.length x i) (fun i _=>rfl) ?_ () trivial ?_
  ·intro i _ hi Q _ _ hw1 hQ
   show (Kk k l l.length l[i] i).sat Q
   unfold Kk
   rw [hw1]
   cases hp:Eg k l[i] with
   | true=>rw [hp] at hQ;exact hQ
   | false=>rw [hp] at hQ;exact hQ trivial
  ·rw [Pp (Eg k) (fun i=>Ro i) Rp l 0,Nat.zero_add]
   cases ha:l.any (Eg k) with
   | true=>exact hf.1 ha
   | false=>exact hf.2 ha
 ·exact (h0 (decide_eq_false hc)).elim
abbrev Anu:PureT:=Ha [.d (.sl (D8)),.f 179 [] Ik] [cI] (fun _=>true) (fun x=>(bif x.1.any (Eg x.2.1.2) then (x.1.findIdx (Eg x.2.1.2):Int) else -1,()))
noncomputable def Anv:Ctx:=G4 Tryz.prog plCl [(228,Tryz.f228)] [((228,keyOf A2f),Ar K2 Ix Qd)]
theorem A6y:CtxOk Anv:=Bs Ak puCl (fns_cons is_ixCell A0) (Cc rfl (by kernel_rfl) Ant)
def A6z (k:SKTs Ik) (l:List (TCT (D8))):Tree (Int×Unit):=bif Lm (l.length:Int) 0 l then bif l.any (Eg k) then .leaf ((l.findIdx (Eg k):Int),()) else .leaf (-1,()) else .fail
theorem A70 (k:SKTs Ik) (l:List (TCT (D8))):(A6z k l).sat (fun y=>y=(bif l.any (Eg k) then (l.findIdx (Eg k):Int) else -1,())):=by
 refine Ow (decide_eq_true ⟨rfl,rfl⟩) ?_
 cases l.any (Eg k) <;> exact rfl
theorem Anw:A6 Tryz.prog 228 Anu:=Ji A6y 8 (fun x=>A6z x.2.1.2 x.1) (fun x=>by kernel_rfl) fun x _ _=>A70 _ _
abbrev A71:PureT:=Ha [.d (.sl (D8)),.f 179 [] Ik] [.b] (fun _=>true) (fun x=>(x.1.any (Eg x.2.1.2),()))
theorem A72 (k:SKTs Ik) (l:List (TCT (D8))):(Tree.leaf (decide ((bif l.any (Eg k) then (l.findIdx (Eg k):Int) else -1)≥0),()):Tree (Bool×Unit)).sat (fun y=>y=(l.any (Eg k),())):=by
 rw [Tn];exact rfl
theorem Anx:A6 Tryz.prog 178 A71:=Ji (Ap Ak (puOk_cons is_ixCell.plain Anw puOk_nil) (fns_cons is_cfCell A0)) 8 (fun x=>.leaf (decide ((bif x.1.any (Eg x.2.1.2) then (x.1.findIdx (Eg x.2.1.2):Int) else -1)≥0),())) (fun x=>by kernel_rfl) fun x _ _=>A72 _ _
theorem is_ixBall:FnIs Tryz.prog (189,Tryz.f189):=⟨Tryz.func189,by kernel_rfl,by kernel_rfl⟩
theorem is_cfBall:FnIs Tryz.prog (121,Tryz.f121):=⟨Tryz.func121,by kernel_rfl,by kernel_rfl⟩
abbrev Il:List SK:=[]
def Eh (k:SKTs Il) (x:TCT (A3)):Bool:=!I1 x
noncomputable def A2h:Code:=(Al (bodyOf Tryz.f189)).getD 0 .skip
def K3:Lay:={ keys:=[0,1,7,8],ks:=[.d (.sl (A3)),.f 122 [] Il,.d cI,.d cI],bs:=[],n:=19,nx:=1000,marks:=[] }
def Ajq:Lay:={ keys:=[4],ks:=[.d cI],bs:=[],n:=19,nx:=1000,marks:=[] }
def Ajr:Lay:={ keys:=[],ks:=[],bs:=[],n:=19,nx:=1000,marks:=[] }
def Iy:XE→Lay
 | .ret=>Ajq
 | _=>Ajr
def A2i (k:SKTs Il) (l:List (TCT (A3))) (n i:Int):K3.T:=((l,((),k),n,i,()),())
def Rq (i:Int):A1 Iy:=⟨.ret,((i,()),())⟩
def Rr:A1 Iy:=⟨.exit 0,((),())⟩
def Kl (k:SKTs Il) (l:List (TCT (A3))) (n:Int) (x:TCT (A3)) (i:Int):Tree (K3.T⊕A1 Iy):=bif Eh k x then .leaf (.inr (Rq i)) else .leaf (.inl (A2i k l n (W64 (i+1))))
def Ajs (k:SKTs Il) (l:List (TCT (A3))) (n i:Int):Tree (K3.T⊕A1 Iy) :=
 bif decide (i<n) then bif decide (0≤i∧i<(l.length:Int)) then Kl k l n (As l i.toNat (Aq (A3))) i else .fail else .leaf (.inr Rr)
def Qe (g:K3.T):Tree (A1 Iy) :=
 .br (Lm g.1.2.2.1 g.1.2.2.2.1 g.1.1) (.br (g.1.1.any (Eh g.1.2.1.2)) (.leaf (Rq (g.1.1.findIdx (Eh g.1.2.1.2)))) (.leaf Rr)) .fail
theorem Any:Aw Tryz.prog 189 A2h (Ar K3 Iy Qe):=by
 refine G9 (X:=ctx Tryz.prog plCl []) (Ap Ak puCl A0) 7 189 (fun _=>none) (fun _ _ f h=>by simp at h) K3 Iy (fun e=>by cases e <;> exact Nat.le_refl _) Qe (fun g=>Ajs g.1.2.1.2 g.1.1 g.1.2.2.1 g.1.2.2.2.1) (fun g=>by kernel_rfl) ?_
 rintro ⟨⟨l,⟨⟨⟩,k⟩,n,i,⟨⟩⟩,⟨⟩⟩ R hw hf
 obtain ⟨hf,h0⟩:=hf
 by_cases hc:n=(l.length:Int)∧i=0
 ·obtain ⟨rfl,rfl⟩:=hc
  have hf:=hf (decide_eq_true ⟨rfl,rfl⟩)
  refine Avt l (Aq (A3)) (Dl hw.1.1) (fun n i _=>A2i k l n i) (fun x i (_:Unit)=>bif Eh k x then .inr (Rq i) else .inl ()) (fun _=>Rr) (fun _=>True) (fun x i _=>Kl k l l.length x i) (fun i _=>rfl) ?_ () trivial ?_
  ·intro i _ hi Q _ _ hw1 hQ
   show (Kl k l l.length l[i] i).sat Q
   unfold Kl
   rw [hw1]
   cases hp:Eh k l[i] with
   | true=>rw [hp] at hQ;exact hQ
   | false=>rw [hp] at hQ;exact hQ trivial
  ·rw [Pp (Eh k) (fun i=>Rq i) Rr l 0,Nat.zero_add]
   cases ha:l.any (Eh k) with
   | true=>exact hf.1 ha
   | false=>exact hf.2 ha
 ·exact (h0 (decide_eq_false hc)).elim
abbrev Anz:PureT:=Ha [.d (.sl (A3)),.f 122 [] Il] [cI] (fun _=>true) (fun x=>(bif x.1.any (Eh x.2.1.2) then (x.1.findIdx (Eh x.2.1.2):Int) else -1,()))
noncomputable def Ao0:Ctx:=G4 Tryz.prog plCl [(189,Tryz.f189)] [((189,keyOf A2h),Ar K3 Iy Qe)]
theorem A73:CtxOk Ao0:=Bs Ak puCl (fns_cons is_ixBall A0) (Cc rfl (by kernel_rfl) Any)
def A74 (k:SKTs Il) (l:List (TCT (A3))):Tree (Int×Unit):=bif Lm (l.length:Int) 0 l then bif l.any (Eh k) then .leaf ((l.findIdx (Eh k):Int),()) else .leaf (-1,()) else .fail
theorem A75 (k:SKTs Il) (l:List (TCT (A3))):(A74 k l).sat (fun y=>y=(bif l.any (Eh k) then (l.findIdx (Eh k):Int) else -1,())):=by
 refine Ow (decide_eq_true ⟨rfl,rfl⟩) ?_
 cases l.any (Eh k) <;> exact rfl
theorem Ao1:A6 Tryz.prog 189 Anz:=Ji A73 8 (fun x=>A74 x.2.1.2 x.1) (fun x=>by kernel_rfl) fun x _ _=>A75 _ _
abbrev A76:PureT:=Ha [.d (.sl (A3)),.f 122 [] Il] [.b] (fun _=>true) (fun x=>(x.1.any (Eh x.2.1.2),()))
theorem A77 (k:SKTs Il) (l:List (TCT (A3))):(Tree.leaf (decide ((bif l.any (Eh k) then (l.findIdx (Eh k):Int) else -1)≥0),()):Tree (Bool×Unit)).sat (fun y=>y=(l.any (Eh k),())):=by
 rw [Tn];exact rfl
theorem Ao2:A6 Tryz.prog 121 A76:=Ji (Ap Ak (puOk_cons is_ixBall.plain Ao1 puOk_nil) (fns_cons is_cfBall A0)) 8 (fun x=>.leaf (decide ((bif x.1.any (Eh x.2.1.2) then (x.1.findIdx (Eh x.2.1.2):Int) else -1)≥0),())) (fun x=>by kernel_rfl) fun x _ _=>A77 _ _
theorem is_ixMot:FnIs Tryz.prog (196,Tryz.f196):=⟨Tryz.func196,by kernel_rfl,by kernel_rfl⟩
theorem is_cfMot:FnIs Tryz.prog (132,Tryz.f132):=⟨Tryz.func132,by kernel_rfl,by kernel_rfl⟩
abbrev La:List SK:=[]
def G0 (k:SKTs La) (x:TCT (B0)):Bool:=!Fz x
noncomputable def A78:Code:=(Al (bodyOf Tryz.f196)).getD 0 .skip
def Mf:Lay:={ keys:=[0,1,7,8],ks:=[.d (.sl (B0)),.f 133 [] La,.d cI,.d cI],bs:=[],n:=19,nx:=1000,marks:=[] }
def Ao3:Lay:={ keys:=[4],ks:=[.d cI],bs:=[],n:=19,nx:=1000,marks:=[] }
def Ao4:Lay:={ keys:=[],ks:=[],bs:=[],n:=19,nx:=1000,marks:=[] }
def Km:XE→Lay
 | .ret=>Ao3
 | _=>Ao4
def A79 (k:SKTs La) (l:List (TCT (B0))) (n i:Int):Mf.T:=((l,((),k),n,i,()),())
def Wu (i:Int):A1 Km:=⟨.ret,((i,()),())⟩
def Wv:A1 Km:=⟨.exit 0,((),())⟩
def Mg (k:SKTs La) (l:List (TCT (B0))) (n:Int) (x:TCT (B0)) (i:Int):Tree (Mf.T⊕A1 Km):=bif G0 k x then .leaf (.inr (Wu i)) else .leaf (.inl (A79 k l n (W64 (i+1))))
def Ao5 (k:SKTs La) (l:List (TCT (B0))) (n i:Int):Tree (Mf.T⊕A1 Km) :=
 bif decide (i<n) then bif decide (0≤i∧i<(l.length:Int)) then Mg k l n (As l i.toNat (Aq (B0))) i else .fail else .leaf (.inr Wv)
def Ty (g:Mf.T):Tree (A1 Km) :=
 .br (Lm g.1.2.2.1 g.1.2.2.2.1 g.1.1) (.br (g.1.1.any (G0 g.1.2.1.2)) (.leaf (Wu (g.1.1.findIdx (G0 g.1.2.1.2)))) (.leaf Wv)) .fail
theorem Ax6:Aw Tryz.prog 196 A78 (Ar Mf Km Ty):=by
 refine G9 (X:=ctx Tryz.prog plCl []) (Ap Ak puCl A0) 7 196 (fun _=>none) (fun _ _ f h=>by simp at h) Mf Km (fun e=>by cases e <;> exact Nat.le_refl _) Ty (fun g=>Ao5 g.1.2.1.2 g.1.1 g.1.2.2.1 g.1.2.2.2.1) (fun g=>by kernel_rfl) ?_
 rintro ⟨⟨l,⟨⟨⟩,k⟩,n,i,⟨⟩⟩,⟨⟩⟩ R hw hf
 obtain ⟨hf,h0⟩:=hf
 by_cases hc:n=(l.length:Int)∧i=0
 ·obtain ⟨rfl,rfl⟩:=hc
  have hf:=hf (decide_eq_true ⟨rfl,rfl⟩)
  refine Avt l (Aq (B0)) (Dl hw.1.1) (fun n i _=>A79 k l n i) (fun x i (_:Unit)=>bif G0 k x then .inr (Wu i) else .inl ()) (fun _=>Wv) (fun _=>True) (fun x i _=>Mg k l l.length x i) (fun i _=>rfl) ?_ () trivial ?_
  ·intro i _ hi Q _ _ hw1 hQ
   show (Mg k l l.length l[i] i).sat Q
   unfold Mg
   rw [hw1]
   cases hp:G0 k l[i] with
   | true=>rw [hp] at hQ;exact hQ
   | false=>rw [hp] at hQ;exact hQ trivial
  ·rw [Pp (G0 k) (fun i=>Wu i) Wv l 0,Nat.zero_add]
   cases ha:l.any (G0 k) with
   | true=>exact hf.1 ha
   | false=>exact hf.2 ha
 ·exact (h0 (decide_eq_false hc)).elim
abbrev Ax7:PureT:=Ha [.d (.sl (B0)),.f 133 [] La] [cI] (fun _=>true) (fun x=>(bif x.1.any (G0 x.2.1.2) then (x.1.findIdx (G0 x.2.1.2):Int) else -1,()))
noncomputable def Ax8:Ctx:=G4 Tryz.prog plCl [(196,Tryz.f196)] [((196,keyOf A78),Ar Mf Km Ty)]
theorem Abw:CtxOk Ax8:=Bs Ak puCl (fns_cons is_ixMot A0) (Cc rfl (by kernel_rfl) Ax6)
def Afm (k:SKTs La) (l:List (TCT (B0))):Tree (Int×Unit):=bif Lm (l.length:Int) 0 l then bif l.any (G0 k) then .leaf ((l.findIdx (G0 k):Int),()) else .leaf (-1,()) else .fail
theorem Abx (k:SKTs La) (l:List (TCT (B0))):(Afm k l).sat (fun y=>y=(bif l.any (G0 k) then (l.findIdx (G0 k):Int) else -1,())):=by
 refine Ow (decide_eq_true ⟨rfl,rfl⟩) ?_
 cases l.any (G0 k) <;> exact rfl
theorem Ax9:A6 Tryz.prog 196 Ax7:=Ji Abw 8 (fun x=>Afm x.2.1.2 x.1) (fun x=>by kernel_rfl) fun x _ _=>Abx _ _
abbrev Afn:PureT:=Ha [.d (.sl (B0)),.f 133 [] La] [.b] (fun _=>true) (fun x=>(x.1.any (G0 x.2.1.2),()))
theorem Aby (k:SKTs La) (l:List (TCT (B0))):(Tree.leaf (decide ((bif l.any (G0 k) then (l.findIdx (G0 k):Int) else -1)≥0),()):Tree (Bool×Unit)).sat (fun y=>y=(l.any (G0 k),())):=by
 rw [Tn];exact rfl
theorem Axa:A6 Tryz.prog 132 Afn:=Ji (Ap Ak (puOk_cons is_ixMot.plain Ax9 puOk_nil) (fns_cons is_cfMot A0)) 8 (fun x=>.leaf (decide ((bif x.1.any (G0 x.2.1.2) then (x.1.findIdx (G0 x.2.1.2):Int) else -1)≥0),())) (fun x=>by kernel_rfl) fun x _ _=>Aby _ _
end St
end V
end Go.Proofs.YtlangijnealfjaaGreat
namespace Go.Proofs.YtlangijnealfjaaGreat
open Go.RowKit
namespace V
namespace St
theorem is_lposts:FnIs Tryz.prog (52,Tryz.f52):=⟨Tryz.func52,by kernel_rfl,by kernel_rfl⟩
theorem is_lwires:FnIs Tryz.prog (110,Tryz.f110):=⟨Tryz.func110,by kernel_rfl,by kernel_rfl⟩
theorem is_turned:FnIs Tryz.prog (182,Tryz.f182):=⟨Tryz.func182,by kernel_rfl,by kernel_rfl⟩
abbrev kLw:List SK:=[.d .s,.d cI,.d cI,.d cI,.d (.sl Bv),.d cI,.d cI,.d cI,.d cI,.d cI,.d (.sl D8)]
def Kh (x:SKTs kLw):TCT Am:=(x.1,x.2.1,x.2.2.1,x.2.2.2.1,x.2.2.2.2.1,((x.2.2.2.2.2.1,x.2.2.2.2.2.2.1,()),x.2.2.2.2.2.2.2.1,()),x.2.2.2.2.2.2.2.2.1,x.2.2.2.2.2.2.2.2.2.1,x.2.2.2.2.2.2.2.2.2.2.1,())
def Ec (l:TCT Am):SKTs kLw:=(l.1,l.2.1,l.2.2.1,l.2.2.2.1,l.2.2.2.2.1,l.2.2.2.2.2.1.1.1,l.2.2.2.2.2.1.1.2.1,l.2.2.2.2.2.1.2.1,l.2.2.2.2.2.2.1,l.2.2.2.2.2.2.2.1,l.2.2.2.2.2.2.2.2.1,())
def B2 (l:TCT Am):List (TCT Bv):=l.2.2.2.2.1
def Lq (l:TCT Am):TCT A4:=l.2.2.2.2.2.1
def dW (h:TCT Bv):Int:=W64 (W64 (Int.tdiv h.2.2.1 2)+h.2.2.2.1)
def Pv (x y r:Int):TCT A4:=((x,y,()),r,())
def w2 (h:TCT Bv):List (TCT A4):=bif h.2.2.2.2.1 then [Pv h.1 (W64 (h.2.1-dW h)) h.2.2.2.1,Pv h.1 (W64 (h.2.1+dW h)) h.2.2.2.1] else [Pv (W64 (h.1-dW h)) h.2.1 h.2.2.2.1,Pv (W64 (h.1+dW h)) h.2.1 h.2.2.2.1]
def By (l:TCT Am):List (TCT A4):=(B2 l).flatMap w2++[Lq l]
noncomputable def Bc8:Code:=(Al (bodyOf Tryz.f52)).getD 0 .skip
def A1l:Lay:={ keys:=[1,2,7,8,9],ks:=[.p 0 0 0 0,.o 30 A4,.d (.sl Bv),.d cI,.d cI],bs:=[(0,33,kLw)],n:=24,nx:=1000,marks:=[] }
def Bc9:Lay:={ keys:=[1,2],ks:=[.p 0 0 0 0,.o 30 A4],bs:=[(0,33,kLw)],n:=24,nx:=1000,marks:=[] }
def A4e:XE→Lay:=fun _=>Bc9
def Ao6 (x:SKTs kLw) (hs:List (TCT Bv)) (n:Int) (i:Int) (o:List (TCT A4)):A1l.T:=(((),o,hs,n,i,()),(x,()))
def A2j (x:SKTs kLw) (o:List (TCT A4)):A1 A4e:=⟨.exit 0,(((),o,()),(x,()))⟩
def Abz (x:SKTs kLw) (hs:List (TCT Bv)) (n i:Int) (o w:List (TCT A4)):Tree (A1l.T⊕A1 A4e):=bif Df o w 24 then .leaf (.inl (Ao6 x hs n (W64 (i+1)) (o++w))) else .fail
def A4f (x:SKTs kLw) (hs:List (TCT Bv)) (n i:Int) (o:List (TCT A4)) (h:TCT Bv):Tree (A1l.T⊕A1 A4e) :=
 bif h.2.2.2.2.1 then Abz x hs n i o [Pv (W64 (h.1-0)) (W64 (h.2.1-dW h)) h.2.2.2.1,Pv (W64 (h.1+0)) (W64 (h.2.1+dW h)) h.2.2.2.1]
 else Abz x hs n i o [Pv (W64 (h.1-dW h)) (W64 (h.2.1-0)) h.2.2.2.1,Pv (W64 (h.1+dW h)) (W64 (h.2.1+0)) h.2.2.2.1]
def A7a (g:A1l.T):Tree (A1l.T⊕A1 A4e) :=
 bif decide (g.1.2.2.2.2.1<g.1.2.2.2.1) then bif decide (0≤g.1.2.2.2.2.1∧g.1.2.2.2.2.1<((g.1.2.2.1:List (TCT Bv)).length:Int)) then A4f g.2.1 g.1.2.2.1 g.1.2.2.2.1 g.1.2.2.2.2.1 g.1.2.1 (As g.1.2.2.1 (Int.toNat g.1.2.2.2.2.1) (Aq Bv)) else .fail else .leaf (.inr (A2j g.2.1 g.1.2.1))
def Ao7 (g:A1l.T):Nat:=(g.1.2.2.1:List (TCT Bv)).length+1
noncomputable def Bca:Ctx:=ctx Tryz.prog [] [(110,Tryz.f110),(182,Tryz.f182)]
theorem Ao8:CtxOk Bca:=Ap Ak puOk_nil (fns_cons is_lwires (fns_cons is_turned A0))
theorem Bgz:Aw Tryz.prog 52 Bc8 (Ar A1l A4e (D7 [.exit 0] A7a Ao7)):=B8 Ao8 7 _ A1l A4e (fun _=>Nat.le_refl _) [.exit 0] A7a Ao7 (fun g=>by kernel_rfl)
noncomputable def Bh0:Ctx:=G4 Tryz.prog [] [(52,Tryz.f52)] [((52,2),Ar A1l A4e (D7 [.exit 0] A7a Ao7))]
theorem Axb:CtxOk Bh0:=Bs Ak puOk_nil (fns_cons is_lposts A0) (Cc (by kernel_rfl) (by kernel_rfl) Bgz)
def Axc (l:TCT Am):Option (A1 A4e):=iter A7a ((B2 l).length+1) (Ao6 (Ec l) (B2 l) (B2 l).length 0 [])
abbrev TPo:=Tree (TCTs [.sl A4])
def Ac0 (r:Bc9.T):TPo:=bif Df r.1.2.1 [Lq (Kh r.2.1)] 24 then .leaf (r.1.2.1++[Lq (Kh r.2.1)],()) else .fail
def B6v (l:TCT Am):TPo:=bif isE (.exit 0) (Axc l) then Ac0 (C2 (.exit 0) (Axc l)) else .fail
abbrev Mh:PureT:=Bj [Am] [.sl A4] (fun x=>decide ((B2 x.1).length≤1000)) (fun x=>(By x.1,()))
theorem Tz {α β E:Type} (w:α→List β) (ex:List β→E):∀ (l:List α) (i:Nat) (s:List β),Rh (fun _ x s=>some (.inl (s++w x))) (fun s=>some (ex s)) i l s=some (ex (s++l.flatMap w))
 | [],_,s=>by simp [Rh]
 | x::l,i,s=>by simp only [Rh];rw [Tz w ex l (i+1)];simp [List.append_assoc]
theorem Ac1 (h:TCT Bv):(w2 h).length=2:=by unfold w2;cases h.2.2.2.2.1 <;> rfl
theorem Rt (l:List (TCT Bv)):(l.flatMap w2).length=2*l.length:=by
 induction l with
 | nil=>rfl
 | cons h l ih =>
  have e:((h::l).flatMap w2).length=(w2 h).length+(l.flatMap w2).length:=by rw [List.flatMap_cons,List.length_append]
  rw [e,ih,Ac1,List.length_cons];omega
theorem A2k {o w:List (TCT A4)} (h:o.length+w.length≤4000):Df o w 24=true:=by
 rw [G2];exact decide_eq_true (by omega)
theorem B6w {h:TCT Bv} (hw:WFD Bv h):W64 (h.1-0)=h.1∧W64 (h.1+0)=h.1∧W64 (h.2.1-0)=h.2.1∧W64 (h.2.1+0)=h.2.1:=by
 obtain ⟨x,y,g,w,a,⟨⟩⟩:=h
 obtain ⟨h1,h2,_⟩:=hw
 have h1 : -9223372036854775808≤x∧x≤9223372036854775807:=h1
 have h2 : -9223372036854775808≤y∧y≤9223372036854775807:=h2
 exact ⟨by rw [Int.sub_zero];exact Be h1.1 h1.2,by rw [Int.add_zero];exact Be h1.1 h1.2,by rw [Int.sub_zero];exact Be h2.1 h2.2,by rw [Int.add_zero];exact Be h2.1 h2.2⟩
theorem Axd {l:TCT Am} (hw:∀ h ∈ B2 l,WFD Bv h) (hl:(B2 l).length≤1000):Axc l=some (A2j (Ec l) ((B2 l).flatMap w2)):=by
 unfold Axc
 have key:=Fv (st:=A7a) (B2 l) (fun i o=>Ao6 (Ec l) (B2 l) (B2 l).length (i:Int) o) (fun _ h o=>some (.inl (o++w2 h))) (fun o=>some (A2j (Ec l) o)) (fun i o=>o.length=2*i)
  (fun i o hi hI=>by
   simp only
   refine ⟨?_,by rw [List.length_append,hI,Ac1];omega⟩
   show (bif decide ((i:Int)<((B2 l).length:Int)) then bif decide (0≤(i:Int)∧(i:Int)<((B2 l).length:Int)) then A4f (Ec l) (B2 l) (B2 l).length (i:Int) o (As (B2 l) (Int.toNat (i:Int)) (Aq Bv)) else .fail else .leaf (.inr (A2j (Ec l) o))).run=_
   rw [decide_eq_true (show (i:Int)<((B2 l).length:Int) by omega),decide_eq_true (show 0≤(i:Int)∧(i:Int)<((B2 l).length:Int) by omega),show Int.toNat (i:Int)=i by omega,De hi]
   obtain ⟨e1,e2,e3,e4⟩:=B6w (hw _ (List.getElem_mem hi))
   simp only [cond_true]
   unfold A4f w2 Abz
   rw [e1,e2,e3,e4,Be (n:=(i:Int)+1) (by omega) (by omega)]
   cases (B2 l)[i].2.2.2.2.1 with
   | true =>
    simp only [cond_true]
    rw [A2k (by simp only [List.length_cons,List.length_nil,hI];omega)]
    rfl
   | false =>
    simp only [cond_false]
    rw [A2k (by simp only [List.length_cons,List.length_nil,hI];omega)]
    rfl)
  (fun o e hI he=>by
   cases he
   show (bif decide (((B2 l).length:Int)<((B2 l).length:Int)) then _ else Tree.leaf (Sum.inr (A2j (Ec l) o)):Tree (A1l.T⊕A1 A4e)).run=_
   rw [decide_eq_false (show ¬ ((B2 l).length:Int)<((B2 l).length:Int) by omega)]
   rfl)
  (B2 l).length 0 [] (A2j (Ec l) ((B2 l).flatMap w2)) ((B2 l).length+1) (by omega) (by omega) rfl (by rw [List.drop_zero,Tz,List.nil_append])
 exact key
theorem A4g:A6 Tryz.prog 52 Mh:=Bl Axb 7 (fun x=>B6v x.1) (fun x=>by kernel_rfl) fun x hok hw=>by
 have hl:(B2 x.1).length≤1000:=of_decide_eq_true hok
 show (B6v x.1).sat _
 unfold B6v
 rw [Axd (B3b hw.1.2.2.2.2.1) hl]
 show (Ac0 (((),(B2 x.1).flatMap w2,()),(Ec x.1,()))).sat _
 unfold Ac0
 simp only
 rw [A2k (by rw [Rt];simp only [List.length_cons,List.length_nil];omega)]
 exact rfl
end St
end V
end Go.Proofs.YtlangijnealfjaaGreat
namespace Go.Proofs.YtlangijnealfjaaGreat
open Go.RowKit
namespace V
namespace St
def A1m:Lay:={ keys:=[1,3,4],ks:=[.p 0 0 0 0,.o 30 A4,.d cI],bs:=[(0,33,kLw)],n:=73,nx:=1000,marks:=[] }
def Bcc:Lay:={ keys:=[1,3],ks:=[.p 0 0 0 0,.o 30 A4],bs:=[(0,33,kLw)],n:=73,nx:=1000,marks:=[] }
def A4h:XE→Lay:=fun _=>Bcc
def Kn (x:SKTs kLw) (i:Int) (o:List (TCT A4)):A1m.T:=(((),o,i,()),(x,()))
def Lr (x:SKTs kLw) (o:List (TCT A4)):A1 A4h:=⟨.exit 0,(((),o,()),(x,()))⟩
def Ac2 (x:SKTs kLw) (i:Int) (o w:List (TCT A4)):Tree (A1m.T⊕A1 A4h):=bif Df o w 24 then .leaf (.inl (Kn x (W64 (i+1)) (o++w))) else .fail
def A4i (x:SKTs kLw) (i:Int) (o:List (TCT A4)) (h:TCT Bv):Tree (A1m.T⊕A1 A4h) :=
 bif h.2.2.2.2.1 then Ac2 x i o [Pv h.1 (W64 (h.2.1-dW h)) h.2.2.2.1,Pv h.1 (W64 (h.2.1+dW h)) h.2.2.2.1]
 else Ac2 x i o [Pv (W64 (h.1-dW h)) h.2.1 h.2.2.2.1,Pv (W64 (h.1+dW h)) h.2.1 h.2.2.2.1]
def Ls (g:A1m.T):Tree (A1m.T⊕A1 A4h) :=
 bif decide (g.1.2.2.1<((g.2.1.2.2.2.2.1:List (TCT Bv)).length:Int)) then bif decide (0≤g.1.2.2.1∧g.1.2.2.1<((g.2.1.2.2.2.2.1:List (TCT Bv)).length:Int)) then A4i g.2.1 g.1.2.2.1 g.1.2.1 (As g.2.1.2.2.2.2.1 (Int.toNat g.1.2.2.1) (Aq Bv)) else .fail else .leaf (.inr (Lr g.2.1 g.1.2.1))
def Xm (g:A1m.T):Nat:=(g.2.1.2.2.2.2.1:List (TCT Bv)).length+1
noncomputable def Ao9:Ctx:=ctx Tryz.prog [] []
theorem Xn:CtxOk Ao9:=Ap Ak puOk_nil A0
def Axf (l:TCT Am):Option (A1 A4h):=iter Ls ((B2 l).length+1) (Kn (Ec l) 0 [])
def Ac3 (r:Bcc.T):TPo:=bif Df r.1.2.1 [Lq (Kh r.2.1)] 24 then .leaf (r.1.2.1++[Lq (Kh r.2.1)],()) else .fail
def B6x (l:TCT Am):TPo:=bif isE (.exit 0) (Axf l) then Ac3 (C2 (.exit 0) (Axf l)) else .fail
theorem Axg {l:TCT Am} (hl:(B2 l).length≤1000):Axf l=some (Lr (Ec l) ((B2 l).flatMap w2)):=by
 unfold Axf
 have key:=Fv (st:=Ls) (B2 l) (fun i o=>Kn (Ec l) (i:Int) o) (fun _ h o=>some (.inl (o++w2 h))) (fun o=>some (Lr (Ec l) o)) (fun i o=>o.length=2*i)
  (fun i o hi hI=>by
   simp only
   refine ⟨?_,by rw [List.length_append,hI,Ac1];omega⟩
   show (bif decide ((i:Int)<((B2 l).length:Int)) then bif decide (0≤(i:Int)∧(i:Int)<((B2 l).length:Int)) then A4i (Ec l) (i:Int) o (As (B2 l) (Int.toNat (i:Int)) (Aq Bv)) else .fail else .leaf (.inr (Lr (Ec l) o))).run=_
   rw [decide_eq_true (show (i:Int)<((B2 l).length:Int) by omega),decide_eq_true (show 0≤(i:Int)∧(i:Int)<((B2 l).length:Int) by omega),show Int.toNat (i:Int)=i by omega,De hi]
   simp only [cond_true]
   unfold A4i w2 Ac2
   rw [Be (n:=(i:Int)+1) (by omega) (by omega)]
   cases (B2 l)[i].2.2.2.2.1 with
   | true =>
    simp only [cond_true]
    rw [A2k (by simp only [List.length_cons,List.length_nil,hI];omega)]
    rfl
   | false =>
    simp only [cond_false]
    rw [A2k (by simp only [List.length_cons,List.length_nil,hI];omega)]
    rfl)
  (fun o e hI he=>by
   cases he
   show (bif decide (((B2 l).length:Int)<((B2 l).length:Int)) then _ else Tree.leaf (Sum.inr (Lr (Ec l) o)):Tree (A1m.T⊕A1 A4h)).run=_
   rw [decide_eq_false (show ¬ ((B2 l).length:Int)<((B2 l).length:Int) by omega)]
   rfl)
  (B2 l).length 0 [] (Lr (Ec l) ((B2 l).flatMap w2)) ((B2 l).length+1) (by omega) (by omega) rfl (by rw [List.drop_zero,Tz,List.nil_append])
 exact key
end St
end V
end Go.Proofs.YtlangijnealfjaaGreat
namespace Go.Proofs.YtlangijnealfjaaGreat
open Go.RowKit
namespace V
namespace St
theorem is_vname:FnIs Tryz.prog (174,Tryz.f174):=⟨Tryz.func174,by kernel_rfl,by kernel_rfl⟩
theorem is_vname1:FnIs Tryz.prog (226,Tryz.f226):=⟨Tryz.func226,by kernel_rfl,by kernel_rfl⟩
theorem is_sCont:FnIs Tryz.prog (157,Tryz.f157):=⟨Tryz.func157,by kernel_rfl,by kernel_rfl⟩
theorem is_sIdx:FnIs Tryz.prog (209,Tryz.f209):=⟨Tryz.func209,by kernel_rfl,by kernel_rfl⟩
theorem is_sidx:FnIs Tryz.prog (240,Tryz.f240):=⟨Tryz.func240,by kernel_rfl,by kernel_rfl⟩
def A7c (r:Int):Bool:=(decide (r<97)||decide (r>122))&&(decide (r<48)||decide (r>57))
def Aoa (r:Int):TBo:=bif decide (r<97) then bif decide (r<48) then .leaf (true,()) else .leaf (decide (r>57),()) else bif decide (r>122) then bif decide (r<48) then .leaf (true,()) else .leaf (decide (r>57),()) else .leaf (false,())
abbrev Aob:PureT:=Bj [.i .i32] [.b] (fun _=>true) (fun x=>(A7c x.1,()))
theorem Aoc (r:Int):(Aoa r).sat (fun y=>y=(A7c r,())):=by
 unfold Aoa A7c
 cases decide (r<97) <;> cases decide (r>122) <;> cases decide (r<48) <;> exact rfl
theorem Aod:A6 Tryz.prog 226 Aob:=Bl (Ap Ak puOk_nil (fns_cons is_vname1 A0)) 3 (fun x=>Aoa x.1) (fun x=>by kernel_rfl) fun x _ _=>Aoc x.1
def plNm:List (Nat×PureT):=[(226,Aob)]
theorem puNm:D3 Tryz.prog plNm:=puOk_cons is_vname1.plain Aod puOk_nil
def nmT (t:ByteArray):Nat→Nat→TBo
 | 0,_=>.fail
 | n+1,pos=>bif Nat.ble (pos+1) t.size then
   bif I6 .i64 (pos:Int)&&I6 .i32 ((Utf8.decode t pos).1:Int) then
    bif A7c ((Utf8.decode t pos).1:Int)==true then .leaf (!decide ((pos:Int)≥0),()) else nmT t n (pos+(Utf8.decode t pos).2)
   else .fail
  else .leaf (!decide ((-1:Int)≥0),())
def A4j (t:ByteArray):TBo:=bif I6 .i64 (t.size:Int) then bif decide ((t.size:Int)≥1) then bif I6 .i64 (t.size:Int) then bif decide ((t.size:Int)≤20) then nmT t 21 0 else .leaf (false,()) else .fail else .leaf (false,()) else .fail
noncomputable def Bcd:Ctx:=Ab9 21 Tryz.prog plNm [(174,Tryz.f174),(157,Tryz.f157),(209,Tryz.f209),(240,Tryz.f240)]
theorem Axh:CtxOk Bcd:=L6 Ak puNm (fns_cons is_vname (fns_cons is_sCont (fns_cons is_sIdx (fns_cons is_sidx A0))))
theorem Ajt (t:ByteArray):D1 Bcd 12 (.fn 174) [.val (.string t)] Ce 0 (Hx Tryz.prog [.b])=A4j t:=by kernel_rfl
end St
end V
end Go.Proofs.YtlangijnealfjaaGreat
namespace Go.Proofs.YtlangijnealfjaaGreat
open Go.RowKit
namespace V
namespace St
def E3 (t:ByteArray):List UInt8:=t.data.toList
def U0 (b:UInt8):Bool:=A7c ((b.toNat:Nat):Int)
def K4 (t:ByteArray):Bool:=decide (1≤t.size∧t.size≤20)&&!(E3 t).any U0
theorem P3 (t:ByteArray):(E3 t).length=t.size:=Array.length_toList
theorem Aju {n:Int} (h:0≤n) (h2:n≤9223372036854775807):I6 .i64 n=true:=by
 unfold I6
 rw [decide_eq_true (show Iz .i64≤n by simp only [Iz];omega),decide_eq_true (show n≤B7 .i64 by simp only [B7];omega)];rfl
theorem Bce {n:Int} (h:0≤n) (h2:n≤2147483647):I6 .i32 n=true:=by
 unfold I6
 rw [decide_eq_true (show Iz .i32≤n by simp only [Iz];omega),decide_eq_true (show n≤B7 .i32 by simp only [B7];omega)];rfl
theorem B6y {t:ByteArray} {i:Nat} (h:i<t.size):t.get! i=(E3 t)[i]'(by rw [P3];exact h):=by
 have h':i<t.data.size:=h
 show t.data[i]! = _
 rw [getElem!_pos t.data i h']
 simp [E3]
theorem B6z {t:ByteArray} {i:Nat} (h:(t.get! i).toNat<128):Utf8.decode t i=((t.get! i).toNat,1):=by
 unfold Utf8.decode
 simp only [Nat.add_zero]
 rw [if_pos h]
theorem B70 {t:ByteArray} {i:Nat} (h:¬ (t.get! i).toNat<128):128≤(Utf8.decode t i).1∧(Utf8.decode t i).1≤2100000:=by
 have hb:(t.get! i).toNat<256:=(t.get! i).toNat_lt
 unfold Utf8.decode
 simp only [Nat.add_zero]
 rw [if_neg h]
 have m1:=Nat.mod_lt (t.get! (i+1)).toNat (show 0<64 by omega)
 have m2:=Nat.mod_lt (t.get! (i+2)).toNat (show 0<64 by omega)
 have m3:=Nat.mod_lt (t.get! (i+3)).toNat (show 0<64 by omega)
 have r:128≤Utf8.runeError∧Utf8.runeError≤2100000:=by decide
 split
 ·split
  ·rename_i hc
   simp only
   omega
  ·exact r
 ·split
  ·split
   ·rename_i hc
    simp only [ge_iff_le,Bool.and_eq_true,decide_eq_true_eq] at hc
    simp only
    omega
   ·exact r
  ·split
   ·split
    ·rename_i hc
     simp only [ge_iff_le,Bool.and_eq_true,decide_eq_true_eq] at hc
     simp only
     omega
    ·exact r
   ·exact r
theorem Aoe {r:Nat} (h:128≤r):A7c (r:Int)=true:=by
 unfold A7c
 rw [decide_eq_true (show (r:Int)>122 by omega),decide_eq_true (show (r:Int)>57 by omega)]
 simp
theorem Aof {t:ByteArray} (hs:t.size≤20):∀ (n pos:Nat),pos≤t.size→t.size-pos<n→nmT t n pos=.leaf (!((E3 t).drop pos).any U0,())
 | 0,_,_,h=>absurd h (Nat.not_lt_zero _)
 | n+1,pos,hp,hn=>by
  unfold nmT
  by_cases hlt:pos<t.size
  ·have hb:Nat.ble (pos+1) t.size=true:=by rw [Nat.ble_eq];omega
   have hd:(E3 t).drop pos=(E3 t)[pos]'(by rw [P3];exact hlt)::(E3 t).drop (pos+1):=List.drop_eq_getElem_cons _
   rw [hb,cond_true,hd,List.any_cons,← B6y hlt]
   by_cases h8:(t.get! pos).toNat<128
   ·rw [B6z h8]
    simp only
    have hk:(I6 .i64 (pos:Int)&&I6 .i32 (((t.get! pos).toNat:Nat):Int))=true:=by
     rw [Aju (by omega) (by omega),Bce (by omega) (by omega)];rfl
    rw [hk,cond_true]
    show (bif U0 (t.get! pos)==true then _ else _:TBo)=_
    cases hbd:U0 (t.get! pos) with
    | true =>
     rw [decide_eq_true (show (pos:Int)≥0 by omega)]
     rfl
    | false =>
     show nmT t n (pos+1)=_
     rw [Aof hs n (pos+1) (by omega) (by omega),Bool.false_or]
   ·obtain ⟨h1,h2⟩:=B70 h8
    have hk:(I6 .i64 (pos:Int)&&I6 .i32 (((Utf8.decode t pos).1:Nat):Int))=true:=by
     rw [Aju (by omega) (by omega),Bce (by omega) (by omega)];rfl
    have hbu:U0 (t.get! pos)=true:=Aoe (by omega)
    rw [hk,cond_true,Aoe h1,hbu,decide_eq_true (show (pos:Int)≥0 by omega)]
    rfl
  ·have hb:Nat.ble (pos+1) t.size=false:=by
    cases h:Nat.ble (pos+1) t.size with
    | false=>rfl
    | true=>rw [Nat.ble_eq] at h;omega
   rw [hb,cond_false,List.drop_eq_nil_of_le (by rw [P3];omega)]
   rfl
theorem Ajv {t:ByteArray} (h64:(t.size:Int)≤B7 .i64):(A4j t).sat (fun y=>y=(K4 t,())):=by
 unfold A4j K4
 have hk:I6 .i64 (t.size:Int)=true:=Aju (by omega) (by simp only [B7] at h64;exact h64)
 rw [hk]
 simp only [cond_true]
 by_cases h1:1≤t.size
 ·rw [decide_eq_true (show (t.size:Int)≥1 by omega)]
  by_cases h2:t.size≤20
  ·rw [decide_eq_true (show (t.size:Int)≤20 by omega),decide_eq_true (show 1≤t.size∧t.size≤20 from ⟨h1,h2⟩),cond_true,cond_true,Aof h2 21 0 (by omega) (by omega)]
   exact rfl
  ·rw [decide_eq_false (show ¬ (t.size:Int)≤20 by omega),decide_eq_false (show ¬ (1≤t.size∧t.size≤20) from fun h=>h2 h.2)]
   exact rfl
 ·rw [decide_eq_false (show ¬ (t.size:Int)≥1 by omega),decide_eq_false (show ¬ (1≤t.size∧t.size≤20) from fun h=>h1 h.1)]
  exact rfl
end St
end V
end Go.Proofs.YtlangijnealfjaaGreat
namespace Go.Proofs.YtlangijnealfjaaGreat
open Go.RowKit
namespace V
namespace St
abbrev A4k:PureT:=Bj [.s] [.b] (fun x=>decide ((x.1.size:Int)≤B7 .i64)) (fun x=>(K4 x.1,()))
theorem Axi:A6 Tryz.prog 174 A4k:=Bl Axh 12 (fun x=>A4j x.1) (fun x=>Ajt x.1) fun x hok _=>Ajv (of_decide_eq_true hok)
def Ac4:Lay:={ keys:=[0,3],ks:=[.d .s,.d cI],bs:=[],n:=41,nx:=1000,marks:=[] }
def Bh3:Lay:={ keys:=[],ks:=[],bs:=[],n:=41,nx:=1000,marks:=[] }
def Bcg:Lay:={ keys:=[2],ks:=[.d .b],bs:=[],n:=41,nx:=1000,marks:=[] }
def Ac5:XE→Lay:=fun e=>match e with | .ret=>Bcg | _=>Bh3
def A2l (t:ByteArray) (i:Int):Ac4.T:=((t,i,()),())
def Xo:A1 Ac5:=⟨.ret,((false,()),())⟩
def A7d:A1 Ac5:=⟨.exit 0,((),())⟩
abbrev TNm:=Tree (Ac4.T⊕A1 Ac5)
def byI (t:ByteArray) (i:Int):Int:=((((t.data.toList.getD (Int.toNat i) 0).toNat:Nat)):Int)
def inI (t:ByteArray) (i:Int) (k:TNm):TNm:=bif decide (0≤i∧i<(t.size:Int)) then k else .fail
def Ac6 (t:ByteArray) (i:Int):TNm:=inI t i (bif decide (byI t i≥48) then inI t i (bif !decide (byI t i≤57) then .leaf (.inr Xo) else .leaf (.inl (A2l t (W64 (i+1))))) else .leaf (.inr Xo))
def Xp (t:ByteArray) (i:Int):TNm :=
 bif I6 .i64 (t.size:Int) then bif decide (i<(t.size:Int)) then
  inI t i (bif decide (byI t i≥97) then inI t i (bif decide (byI t i≤122) then .leaf (.inl (A2l t (W64 (i+1)))) else Ac6 t i) else Ac6 t i)
 else .leaf (.inr A7d) else .fail
def A2m (g:Ac4.T):TNm:=Xp g.1.1 g.1.2.1
def Aog (g:Ac4.T):Nat:=(E3 g.1.1).length+1
noncomputable def Bch:Ctx:=ctx Tryz.prog [] []
theorem Aoh:CtxOk Bch:=Ap Ak puOk_nil A0
def Aoi (t:ByteArray):Option (A1 Ac5):=iter A2m ((E3 t).length+1) (A2l t 0)
def B71 (t:ByteArray):TBo:=bif I6 .i64 (t.size:Int) then bif decide ((t.size:Int)<1) then .leaf (false,()) else bif I6 .i64 (t.size:Int) then bif decide ((t.size:Int)>20) then .leaf (false,()) else
 bif isE .ret (Aoi t) then .leaf ((C2 .ret (Aoi t)).1.1,()) else bif isE (.exit 0) (Aoi t) then .leaf (true,()) else .fail else .fail else .fail
theorem B72 {t:ByteArray} {i:Nat} (h:i<(E3 t).length):byI t (i:Int)=((((E3 t)[i]).toNat:Nat):Int):=by
 unfold byI
 rw [show Int.toNat (i:Int)=i by omega]
 show ((((E3 t).getD i 0).toNat:Nat):Int)=_
 rw [List.getD_eq_getElem?_getD,List.getElem?_eq_getElem h]
 rfl
theorem Axk {t:ByteArray} (h64:(t.size:Int)≤B7 .i64):Aoi t=some (bif (E3 t).any U0 then Xo else A7d):=by
 have h64':(t.size:Int)≤9223372036854775807:=h64
 have hlen:=P3 t
 unfold Aoi
 have key:=Fv (st:=A2m) (E3 t) (fun i (_:Unit)=>A2l t (i:Int)) (fun _ b _=>bif U0 b then some (.inr Xo) else some (.inl ())) (fun _=>some A7d) (fun _ _=>True)
  (fun i s hi _=>by
   have hI:decide (0≤(i:Int)∧(i:Int)<(t.size:Int))=true:=decide_eq_true (by omega)
   have hrun:(A2m (A2l t (i:Int))).run=some (bif U0 (E3 t)[i] then .inr Xo else .inl (A2l t ((i+1:Nat):Int))):=by
    show (Xp t (i:Int)).run=_
    unfold Xp Ac6 inI U0 A7c
    rw [Aju (by omega) h64',decide_eq_true (show (i:Int)<(t.size:Int) by omega),hI,B72 hi,Be (n:=(i:Int)+1) (by omega) (by omega)]
    generalize ((((E3 t)[i]).toNat:Nat):Int)=b
    by_cases h1:b<97
    ·rw [decide_eq_true h1,decide_eq_false (show ¬ b≥97 by omega)]
     by_cases h2:b<48
     ·rw [decide_eq_true h2,decide_eq_false (show ¬ b≥48 by omega)];simp;rfl
     ·rw [decide_eq_false h2,decide_eq_true (show b≥48 by omega)]
      by_cases h3:b>57
      ·rw [decide_eq_true h3,decide_eq_false (show ¬ b≤57 by omega)];simp;rfl
      ·rw [decide_eq_false h3,decide_eq_true (show b≤57 by omega)];simp;rfl
    ·rw [decide_eq_false h1,decide_eq_true (show b≥97 by omega)]
     by_cases h2:b>122
     ·rw [decide_eq_true h2,decide_eq_false (show ¬ b≤122 by omega),decide_eq_false (show ¬ b<48 by omega),decide_eq_true (show b≥48 by omega),decide_eq_true (show b>57 by omega),decide_eq_false (show ¬ b≤57 by omega)];simp;rfl
     ·rw [decide_eq_false h2,decide_eq_true (show b≤122 by omega)];simp;rfl
   cases hb:U0 (E3 t)[i] with
   | true =>
    rw [hb] at hrun
    simp only [cond_true]
    exact hrun
   | false =>
    rw [hb] at hrun
    simp only [cond_false]
    exact ⟨hrun,trivial⟩)
  (fun s e _ he=>by
   cases he
   show (Xp t (((E3 t).length:Nat):Int)).run=_
   unfold Xp
   rw [Aju (by omega) h64',decide_eq_false (show ¬ (((E3 t).length:Nat):Int)<(t.size:Int) by omega)]
   rfl)
  (E3 t).length 0 () (bif (E3 t).any U0 then Xo else A7d) ((E3 t).length+1) (by omega) (by omega) trivial (by rw [List.drop_zero];exact To U0 (fun _=>Xo) A7d _ 0)
 exact key
theorem Axl {t:ByteArray} (h64:(t.size:Int)≤B7 .i64):(B71 t).sat (fun y=>y=(K4 t,())):=by
 unfold B71 K4
 rw [Aju (by omega) (show (t.size:Int)≤9223372036854775807 from h64),Axk h64]
 simp only [cond_true]
 by_cases h1:1≤t.size
 ·rw [decide_eq_false (show ¬ (t.size:Int)<1 by omega)]
  by_cases h2:t.size≤20
  ·rw [decide_eq_false (show ¬ (t.size:Int)>20 by omega),decide_eq_true (show 1≤t.size∧t.size≤20 from ⟨h1,h2⟩)]
   cases (E3 t).any U0 <;> exact rfl
  ·rw [decide_eq_true (show (t.size:Int)>20 by omega),decide_eq_false (show ¬ (1≤t.size∧t.size≤20) from fun h=>h2 h.2)]
   exact rfl
 ·rw [decide_eq_true (show (t.size:Int)<1 by omega),decide_eq_false (show ¬ (1≤t.size∧t.size≤20) from fun h=>h1 h.1)]
  exact rfl
end St
end V
end Go.Proofs.YtlangijnealfjaaGreat
namespace Go.Proofs.YtlangijnealfjaaGreat
open Go.RowKit
namespace V
namespace St
theorem is_Touch:FnIs Tryz.prog (15,Tryz.f15):=⟨Tryz.func15,by kernel_rfl,by kernel_rfl⟩
theorem is_tCD:FnIs Tryz.prog (43,Tryz.f43):=⟨Tryz.func43,by kernel_rfl,by kernel_rfl⟩
theorem is_tsq:FnIs Tryz.prog (54,Tryz.f54):=⟨Tryz.func54,by kernel_rfl,by kernel_rfl⟩
theorem is_cmp64:FnIs Tryz.prog (53,Tryz.f53):=⟨Tryz.func53,by kernel_rfl,by kernel_rfl⟩
theorem is_nan64:FnIs Tryz.prog (111,Tryz.f111):=⟨Tryz.func111,by kernel_rfl,by kernel_rfl⟩
theorem is_lapart:FnIs Tryz.prog (181,Tryz.f181):=⟨Tryz.func181,by kernel_rfl,by kernel_rfl⟩
def Axn (x y:Int):Int:=bif decide (x<y) then -1 else bif decide (x>y) then 1 else 0
def cdE (a:TCT A4):Int:=Z0 a.1.1 a.1.2.1 a.2.1
def sqD (a b:TCT A4):Int:=W64 (W64 (W64 (b.1.1-a.1.1)*W64 (b.1.1-a.1.1))+W64 (W64 (b.1.2.1-a.1.2.1)*W64 (b.1.2.1-a.1.2.1)))
def srD (a b:TCT A4):Int:=W64 (W64 (a.2.1+b.2.1)*W64 (a.2.1+b.2.1))
def A1n (a b:TCT A4):Int:=bif cdE a==0&&cdE b==0 then Axn (sqD a b) (srD a b) else 0
def B73 (a b:TCT A4):Int:=bif cdE a==0&&cdE b==0 then 0 else 2
abbrev A4l:PureT:=Bj [A4,A4] [cI,cI] (fun _=>true) (fun x=>(A1n x.1 x.2.1,B73 x.1 x.2.1,()))
abbrev TTo:=Tree (TCTs [cI,cI])
def B4d (x y:Int):TTo:=bif x != x then bif y != y then .leaf (0,0,()) else .leaf (-1,0,()) else bif y != y then .leaf (1,0,()) else bif decide (x<y) then .leaf (-1,0,()) else bif decide (x>y) then .leaf (1,0,()) else .leaf (0,0,())
def A4m (a b:TCT A4):TTo:=bif cdE a != 0 then .leaf (0,2,()) else bif cdE b != 0 then .leaf (0,2,()) else B4d (sqD a b) (srD a b)
theorem Ac7 (a b:TCT A4):(A4m a b).sat (fun y=>y=(A1n a b,B73 a b,())):=by
 unfold A4m A1n B73 B4d Axn
 rw [bne_self_eq_false,bne_self_eq_false]
 have e:∀ n:Int,(n != 0)=!(n==0):=fun _=>rfl
 rw [e,e]
 cases cdE a==0 <;> cases cdE b==0 <;> try exact rfl
 cases decide (sqD a b<srD a b) <;> cases decide (sqD a b>srD a b) <;> exact rfl
theorem Afo:A6 Tryz.prog 15 A4l:=Bl (Ap Ak (puOk_cons is_tCD.plain Vm puOk_nil) (fns_cons is_Touch (fns_cons is_tsq (fns_cons is_cmp64 (fns_cons is_nan64 A0))))) 5 (fun x=>A4m x.1 x.2.1) (fun x=>by kernel_rfl) fun x _ _=>Ac7 _ _
def plAp:List (Nat×PureT):=[(15,A4l),(120,s_inR)]
theorem puAp:D3 Tryz.prog plAp:=puOk_cons is_Touch.plain Afo (puOk_cons is_between2.plain q_between2 puOk_nil)
noncomputable def Afp:Code:=(Al (bodyOf Tryz.f181)).getD 0 .skip
noncomputable def Afq:Code:=(Al (bodyOf Tryz.f181)).getD 1 .skip
abbrev kD3:List SK:=[.d cI,.d cI,.d cI]
def d3 (d:SKTs kD3):TCT A4:=((d.1,d.2.1,()),d.2.2.1,())
def Bci (d:TCT A4):TCT A4:=((d.1.1,d.1.2.1,()),d.2.1,())
def toD (d:TCT A4):SKTs kD3:=(d.1.1,d.1.2.1,d.2.1,())
def A1o:Lay:={ keys:=[1,2,6,11,12,13,46,47,48],ks:=[.d (.sl A4),.p 0 0 0 0,.p 1000 0 0 0,.d (.sl A4),.d cI,.d cI,.d (.sl A4),.d cI,.d cI],bs:=[(0,33,kLw),(1000,30,kD3)],n:=62,nx:=2000,marks:=[] }
def Bcj:Lay:={ keys:=[1,2,11,12,13],ks:=[.d (.sl A4),.p 0 0 0 0,.d (.sl A4),.d cI,.d cI],bs:=[(0,33,kLw)],n:=62,nx:=2000,marks:=[] }
def B4e:Lay:={ keys:=[4],ks:=[.d .b],bs:=[],n:=62,nx:=2000,marks:=[] }
def Xq:XE→Lay:=fun e=>match e with | .ret=>B4e | _=>Bcj
def Xr:Lay:={ keys:=[1,2,11,12,13],ks:=[.d (.sl A4),.p 0 0 0 0,.d (.sl A4),.d cI,.d cI],bs:=[(0,33,kLw)],n:=62,nx:=1000,marks:=[] }
def Bh6:Lay:={ keys:=[],ks:=[],bs:=[],n:=62,nx:=2000,marks:=[] }
def A7e:XE→Lay:=fun e=>match e with | .ret=>B4e | _=>Bh6
def Xs (x:SKTs kLw) (d:SKTs kD3) (p q:List (TCT A4)) (n i:Int) (r:List (TCT A4)) (m k:Int):A1o.T:=((p,(),(),q,n,i,r,m,k,()),(x,d,()))
def Vd:A1 Xq:=⟨.ret,((false,()),())⟩
def Ve (x:SKTs kLw) (p q:List (TCT A4)) (n i:Int):A1 Xq:=⟨.exit 2,((p,(),q,n,i,()),(x,()))⟩
def Xt (g:A1o.T):Tree (A1o.T⊕A1 Xq) :=
 bif decide (g.1.2.2.2.2.2.2.2.2.1<g.1.2.2.2.2.2.2.2.1) then bif decide (0≤g.1.2.2.2.2.2.2.2.2.1∧g.1.2.2.2.2.2.2.2.2.1<((g.1.2.2.2.2.2.2.1:List (TCT A4)).length:Int)) then
  bif decide (A1n (d3 g.2.2.1) (Bci (As g.1.2.2.2.2.2.2.1 (Int.toNat g.1.2.2.2.2.2.2.2.2.1) (Aq A4)))<0) then .leaf (.inr Vd) else .leaf (.inl (Xs g.2.1 g.2.2.1 g.1.1 g.1.2.2.2.1 g.1.2.2.2.2.1 g.1.2.2.2.2.2.1 g.1.2.2.2.2.2.2.1 g.1.2.2.2.2.2.2.2.1 (W64 (g.1.2.2.2.2.2.2.2.2.1+1))))
 else .fail else .leaf (.inr (Ve g.2.1 g.1.1 g.1.2.2.2.1 g.1.2.2.2.2.1 g.1.2.2.2.2.2.1))
def Aoj (g:A1o.T):Nat:=(g.1.2.2.2.2.2.2.1:List (TCT A4)).length+1
noncomputable def A7f:Ctx:=ctx Tryz.prog plAp []
theorem A7g:CtxOk A7f:=Ap Ak puAp A0
theorem Bh7:Aw Tryz.prog 181 Afq (Ar A1o Xq (D7 [.ret,.exit 2] Xt Aoj)):=B8 A7g 7 _ A1o Xq (fun e=>by cases e <;> exact Nat.le_refl _) [.ret,.exit 2] Xt Aoj (fun g=>by kernel_rfl)
def I2 {α:Type} (ok:Nat→α→Bool):Nat→List α→Bool
 | _,[]=>true
 | i,x::l=>ok i x&&I2 ok (i+1) l
theorem Xu {α E:Type} (ok:Nat→α→Bool) (r d:E):∀ (l:List α) (i:Nat),Rh (fun i x (_:Unit)=>bif ok i x then some (.inl ()) else some (.inr r)) (fun _=>some d) i l ()=some (bif I2 ok i l then d else r)
 | [],i=>rfl
 | x::l,i=>by
  simp only [Rh,I2]
  cases ok i x with
  | true=>simp only [cond_true,Bool.true_and];exact Xu ok r d l (i+1)
  | false=>rfl
def touB (d o:TCT A4):Bool:=decide (A1n d o<0)
theorem Axo (x:SKTs kLw) (d:TCT A4) (p q:List (TCT A4)) (n i:Int) (r:List (TCT A4)) (hr:(r.length:Int)≤B7 .i64) :
  iter Xt (r.length+1) (Xs x (toD d) p q n i r r.length 0)=some (bif r.any (touB d) then Vd else Ve x p q n i):=by
 have hr':(r.length:Int)≤9223372036854775807:=hr
 have key:=Fv (st:=Xt) r (fun k (_:Unit)=>Xs x (toD d) p q n i r r.length (k:Int)) (fun _ o _=>bif touB d o then some (.inr Vd) else some (.inl ())) (fun _=>some (Ve x p q n i)) (fun _ _=>True)
  (fun k s hk _=>by
   have hrun:(Xt (Xs x (toD d) p q n i r r.length (k:Int))).run=some (bif touB d r[k] then .inr Vd else .inl (Xs x (toD d) p q n i r r.length ((k+1:Nat):Int))):=by
    show (bif decide ((k:Int)<(r.length:Int)) then bif decide (0≤(k:Int)∧(k:Int)<(r.length:Int)) then bif touB d (Bci (As r (Int.toNat (k:Int)) (Aq A4))) then Tree.leaf (Sum.inr Vd) else .leaf (.inl (Xs x (toD d) p q n i r r.length (W64 ((k:Int)+1)))) else .fail else .leaf (.inr (Ve x p q n i)):Tree (A1o.T⊕A1 Xq)).run=_
    rw [decide_eq_true (show (k:Int)<(r.length:Int) by omega),decide_eq_true (show 0≤(k:Int)∧(k:Int)<(r.length:Int) by omega),show Int.toNat (k:Int)=k by omega,De hk,Be (n:=(k:Int)+1) (by omega) (by omega)]
    show (bif touB d r[k] then _ else _:Tree (A1o.T⊕A1 Xq)).run=_
    cases touB d r[k] <;> rfl
   cases hb:touB d r[k] with
   | true=>rw [hb] at hrun;simp only [cond_true];exact hrun
   | false=>rw [hb] at hrun;simp only [cond_false];exact ⟨hrun,trivial⟩)
  (fun s e _ he=>by
   cases he
   show (bif decide ((r.length:Int)<(r.length:Int)) then _ else Tree.leaf (Sum.inr (Ve x p q n i)):Tree (A1o.T⊕A1 Xq)).run=_
   rw [decide_eq_false (show ¬ (r.length:Int)<(r.length:Int) by omega)]
   rfl)
  r.length 0 () (bif r.any (touB d) then Vd else Ve x p q n i) (r.length+1) (by omega) (by omega) trivial (by rw [List.drop_zero];exact To (touB d) (fun _=>Vd) (Ve x p q n i) _ 0)
 exact key
end St
end V
end Go.Proofs.YtlangijnealfjaaGreat
namespace Go.Proofs.YtlangijnealfjaaGreat
open Go.RowKit
namespace V
namespace St
def A2n (x:SKTs kLw) (p q:List (TCT A4)) (n i:Int):Xr.T:=((p,(),q,n,i,()),(x,()))
def Ru (b:Bool):A1 A7e:=⟨.ret,((b,()),())⟩
def Vf:A1 A7e:=⟨.exit 0,((),())⟩
abbrev TAo:=Tree (Xr.T⊕A1 A7e)
def Bck (x:SKTs kLw) (d:SKTs kD3) (p q:List (TCT A4)) (n i:Int) (r:List (TCT A4)):Option (A1 Xq):=iter Xt (r.length+1) (Xs x d p q n i r r.length 0)
def Bcl (r:Bcj.T):Xr.T:=A2n r.2.1 r.1.1 r.1.2.2.1 r.1.2.2.2.1 (W64 (r.1.2.2.2.2.1+1))
def Bcm (y:Option (A1 Xq)):TAo:=bif isE .ret y then .leaf (.inr (Ru (C2 .ret y).1.1)) else bif isE (.exit 2) y then .leaf (.inl (Bcl (C2 (.exit 2) y))) else .fail
def Aok (x:SKTs kLw) (p q:List (TCT A4)) (n i:Int) (d:TCT A4):TAo :=
 bif !inR d.1.1 d.2.1 (W64 (x.2.1-d.2.1)) then .leaf (.inr (Ru false)) else bif !inR d.1.2.1 d.2.1 (W64 (x.2.2.1-d.2.1)) then .leaf (.inr (Ru false)) else
 bif decide (0≤i∧i≤(p.length:Int)) then Bcm (Bck x (toD d) p q n i (p.take (Int.toNat i))) else .fail
def Xv (g:Xr.T):TAo :=
 bif decide (g.1.2.2.2.2.1<g.1.2.2.2.1) then bif decide (0≤g.1.2.2.2.2.1∧g.1.2.2.2.2.1<((g.1.2.2.1:List (TCT A4)).length:Int)) then
  Aok g.2.1 g.1.1 g.1.2.2.1 g.1.2.2.2.1 g.1.2.2.2.2.1 (As g.1.2.2.1 (Int.toNat g.1.2.2.2.2.1) (Aq A4)) else .fail else .leaf (.inr Vf)
def Aol (g:Xr.T):Nat:=(g.1.2.2.1:List (TCT A4)).length+1
def B4f:M7:=fun k=>bif Nat.beq k 7 then some (Ar A1o Xq (D7 [.ret,.exit 2] Xt Aoj)) else none
theorem Bh8 (g:Xr.T):evC A7f.P (D1 A7f 7) A7f.pures 181 A7f.u B4f Afp (Xr.of g) (Db Xr A7e)=Xv g:=by kernel_rfl
theorem Aom:Al Afp=[Afq]:=by kernel_rfl
theorem Aon:keyOf Afq=7:=by kernel_rfl
theorem Bh9:Aw Tryz.prog 181 Afp (Ar Xr A7e (D7 [.ret,.exit 0] Xv Aol)) :=
 A1d A7g 7 _ B4f (fun d hd f hf=>by
  rw [Aom,List.mem_singleton] at hd
  subst hd
  rw [Aon] at hf
  cases hf
  exact Bh7) Xr A7e (fun e=>by cases e <;> exact (by decide:(1000:Nat)≤2000)) [.ret,.exit 0] Xv Aol Bh8
theorem Aoo {P:Program} {f:Nat} {fn:Func} {la:Code} {sum:St→Tree (XE×St)} {k:Nat} (h1:∀ d ∈ Al (bodyOf fn),keyOf d=k→d=la) (h2:Aw P f la sum) :
  ∀ p ∈ [(f,fn)],∀ d ∈ Al (bodyOf p.2),∀ g,Co [((f,k),sum)] p.1 (keyOf d)=some g→Aw P p.1 d g:=by
 intro p hp d hd g hg
 simp only [List.mem_singleton] at hp
 subst hp
 simp only at hd hg
 by_cases hk:keyOf d=k
 ·rw [h1 d hd hk]
  rw [hk] at hg
  simp [Co] at hg
  subst hg
  exact h2
 ·have:Nat.beq k (keyOf d)=false:=by
   cases h:Nat.beq k (keyOf d) with
   | false=>rfl
   | true=>exact absurd (Nat.eq_of_beq_eq_true h).symm hk
  simp only [Co,this,Bool.and_false,cond_false] at hg
  cases hg
theorem Aop:Al (bodyOf Tryz.f181)=[Afp,Afq]:=by kernel_rfl
noncomputable def Bha:Ctx:=G4 Tryz.prog plAp [(181,Tryz.f181)] [((181,2),Ar Xr A7e (D7 [.ret,.exit 0] Xv Aol))]
theorem Axp:CtxOk Bha:=Bs Ak puAp (fns_cons is_lapart A0) (Aoo (fun d hd hk=>by
 rw [Aop,List.mem_cons,List.mem_singleton] at hd
 rcases hd with rfl | rfl
 ·rfl
 ·rw [Aon] at hk;cases hk) Bh9)
def Qf (w l:Int) (d:TCT A4):Bool:=inR d.1.1 d.2.1 (W64 (w-d.2.1))&&inR d.1.2.1 d.2.1 (W64 (l-d.2.1))
def apF (w l:Int) (p:List (TCT A4)):Bool:=I2 (fun i d=>Qf w l d&&!(p.take i).any (touB d)) 0 p
def Aoq (l:TCT Am) (p:List (TCT A4)):Option (A1 A7e):=iter Xv (p.length+1) (A2n (Ec l) p p p.length 0)
def B74 (l:TCT Am) (p:List (TCT A4)):TBo:=bif isE .ret (Aoq l p) then .leaf ((C2 .ret (Aoq l p)).1.1,()) else bif isE (.exit 0) (Aoq l p) then .leaf (true,()) else .fail
theorem Axq (l:TCT Am) (p:List (TCT A4)) (hp:(p.length:Int)≤B7 .i64):Aoq l p=some (bif apF l.2.1 l.2.2.1 p then Vf else Ru false):=by
 have hp':(p.length:Int)≤9223372036854775807:=hp
 unfold Aoq
 have key:=Fv (st:=Xv) p (fun i (_:Unit)=>A2n (Ec l) p p p.length (i:Int)) (fun i d _=>bif Qf l.2.1 l.2.2.1 d&&!(p.take i).any (touB d) then some (.inl ()) else some (.inr (Ru false))) (fun _=>some Vf) (fun _ _=>True)
  (fun i s hi _=>by
   have hrun:(Xv (A2n (Ec l) p p p.length (i:Int))).run=some (bif Qf l.2.1 l.2.2.1 p[i]&&!(p.take i).any (touB p[i]) then .inl (A2n (Ec l) p p p.length ((i+1:Nat):Int)) else .inr (Ru false)):=by
    show (bif decide ((i:Int)<(p.length:Int)) then bif decide (0≤(i:Int)∧(i:Int)<(p.length:Int)) then Aok (Ec l) p p p.length (i:Int) (As p (Int.toNat (i:Int)) (Aq A4)) else .fail else .leaf (.inr Vf):TAo).run=_
    rw [decide_eq_true (show (i:Int)<(p.length:Int) by omega),decide_eq_true (show 0≤(i:Int)∧(i:Int)<(p.length:Int) by omega),show Int.toNat (i:Int)=i by omega,De hi]
    simp only [cond_true]
    unfold Aok Qf
    have hw:(Ec l).2.1=l.2.1:=rfl
    have hl:(Ec l).2.2.1=l.2.2.1:=rfl
    rw [hw,hl]
    cases inR p[i].1.1 p[i].2.1 (W64 (l.2.1-p[i].2.1)) with
    | false=>rfl
    | true =>
     cases inR p[i].1.2.1 p[i].2.1 (W64 (l.2.2.1-p[i].2.1)) with
     | false=>rfl
     | true =>
      simp only [Bool.not_true,cond_false,Bool.true_and]
      have ht:(p.take i).length=i:=by rw [List.length_take];omega
      have hy:Bck (Ec l) (toD p[i]) p p p.length (i:Int) (p.take i)=some (bif (p.take i).any (touB p[i]) then Vd else Ve (Ec l) p p p.length (i:Int)) :=
       Axo (Ec l) p[i] p p p.length (i:Int) (p.take i) (by rw [ht];show (i:Int)≤9223372036854775807;omega)
      rw [decide_eq_true (show 0≤(i:Int)∧(i:Int)≤(p.length:Int) by omega),cond_true,show Int.toNat (i:Int)=i by omega,hy]
      cases (p.take i).any (touB p[i]) with
      | true=>rfl
      | false =>
       show (Tree.leaf (Sum.inl (A2n (Ec l) p p p.length (W64 ((i:Int)+1)))):TAo).run=_
       rw [Be (n:=(i:Int)+1) (by omega) (by omega)]
       rfl
   cases hb:Qf l.2.1 l.2.2.1 p[i]&&!(p.take i).any (touB p[i]) with
   | true=>rw [hb] at hrun;simp only [cond_true];exact ⟨hrun,trivial⟩
   | false=>rw [hb] at hrun;simp only [cond_false];exact hrun)
  (fun s e _ he=>by
   cases he
   show (bif decide ((p.length:Int)<(p.length:Int)) then _ else Tree.leaf (Sum.inr Vf):TAo).run=_
   rw [decide_eq_false (show ¬ (p.length:Int)<(p.length:Int) by omega)]
   rfl)
  p.length 0 () (bif apF l.2.1 l.2.2.1 p then Vf else Ru false) (p.length+1) (by omega) (by omega) trivial (by
   rw [List.drop_zero]
   exact Xu (fun i d=>Qf l.2.1 l.2.2.1 d&&!(p.take i).any (touB d)) (Ru false) Vf p 0)
 exact key
abbrev Afr:PureT:=Bj [Am,.sl A4] [.b] (fun _=>true) (fun x=>(apF x.1.2.1 x.1.2.2.1 x.2.1,()))
theorem Axr:A6 Tryz.prog 181 Afr:=Bl Axp 7 (fun x=>B74 x.1 x.2.1) (fun x=>by kernel_rfl) fun x _ hw=>by
 show (B74 x.1 x.2.1).sat _
 unfold B74
 rw [Axq x.1 x.2.1 (Dl hw.2.1)]
 show ((bif isE .ret (some (bif apF x.1.2.1 x.1.2.2.1 x.2.1 then Vf else Ru false)) then _ else _:TBo)).sat (fun y=>y=(apF x.1.2.1 x.1.2.2.1 x.2.1,()))
 cases apF x.1.2.1 x.1.2.2.1 x.2.1 <;> exact rfl
end St
end V
end Go.Proofs.YtlangijnealfjaaGreat
namespace Go.Proofs.YtlangijnealfjaaGreat
open Go.RowKit
namespace V
namespace St
theorem is_lCheck:FnIs Tryz.prog (105,Tryz.f105):=⟨Tryz.func105,by kernel_rfl,by kernel_rfl⟩
def nxL (l:TCT Am):Int:=l.2.2.2.2.2.2.1
def nyL (l:TCT Am):Int:=l.2.2.2.2.2.2.2.1
def Dh (l:TCT Am):List (TCT D8):=l.2.2.2.2.2.2.2.2.1
def Nf (l:TCT Am):Bool:=decide (((B2 l).length:Int)<1)||(decide (((B2 l).length:Int)>12)||decide (((Dh l).length:Int)>256))
def Ac8 (l:TCT Am):Bool:=K4 l.1&&(inR l.2.1 65536 4194304&&(inR l.2.2.1 65536 4194304&&inR l.2.2.2.1 0 (W64 (Int.tdiv (min l.2.1 l.2.2.1) 4))))
def Ac9 (l:TCT Am):Bool:=!decide (nxL l<1)&&(!decide (nxL l>16)&&(!decide (nyL l<1)&&(!decide (nyL l>16)&&!(((Dh l).length:Int)!=W64 (nxL l*nyL l)))))
def okL (l:TCT Am):Bool:=Ac8 l&&(inR (Lq l).2.1 1 8192&&(Ac9 l&&((B2 l).all Gj&&((Dh l).all Hg&&apF l.2.1 l.2.2.1 (By l)))))
def Cp (l:TCT Am):Int:=bif Nf l then 6 else bif okL l then 0 else 2
abbrev Vg:PureT:=Bj [Am] [cI] (fun x=>decide ((x.1.1.size:Int)≤B7 .i64)) (fun x=>(Cp x.1,()))
def plLc:List (Nat×PureT):=[(174,A4k),(120,s_inR),(52,Mh),(181,Afr),(175,A6w),(178,A71)]
theorem puLc:D3 Tryz.prog plLc:=puOk_cons is_vname.plain Axi (puOk_cons is_between2.plain q_between2 (puOk_cons is_lposts.plain A4g (puOk_cons is_lapart.plain Axr (puOk_cons is_cfHoop.plain Ans (puOk_cons is_cfCell.plain Anx puOk_nil)))))
abbrev TEr:=Tree (TCTs [cI])
def er (c:Bool) (e:Int) (k:TEr):TEr:=bif c then .leaf (e,()) else k
theorem Ng {a b:Bool} {e:Int} {k:TEr}:er (a||b) e k=er a e (er b e k):=by cases a <;> cases b <;> rfl
def B75 (l:TCT Am):TEr :=
 er (decide (((B2 l).length:Int)<1)) 6 (er (decide (((B2 l).length:Int)>12)) 6 (er (decide (((Dh l).length:Int)>256)) 6 (
 bif decide ((l.1.size:Int)≤B7 .i64) then er (!K4 l.1) 2 (er (!inR l.2.1 65536 4194304) 2 (er (!inR l.2.2.1 65536 4194304) 2 (er (!inR l.2.2.2.1 0 (W64 (Int.tdiv (min l.2.1 l.2.2.1) 4))) 2 (er (!inR (Lq l).2.1 1 8192) 2 (
  er (decide (nxL l<1)) 2 (er (decide (nxL l>16)) 2 (er (decide (nyL l<1)) 2 (er (decide (nyL l>16)) 2 (er (((Dh l).length:Int)!=W64 (nxL l*nyL l)) 2 (
  er ((B2 l).any (Ef ())) 2 (er ((Dh l).any (Eg ())) 2 (
  bif decide ((B2 l).length≤1000) then er (!apF l.2.1 l.2.2.1 (By l)) 2 (.leaf (0,())) else .fail))))))))))))
 else .fail)))
theorem Ko {α:Type} (p:α→Bool) (l:List α):l.any (fun x=>!p x)=!l.all p:=by
 induction l with
 | nil=>rfl
 | cons x l ih=>simp only [List.any_cons,List.all_cons,ih,Bool.not_and]
theorem Axs {l:TCT Am} (hs:(l.1.size:Int)≤B7 .i64):(B75 l).sat (fun y=>y=(Cp l,())):=by
 unfold B75 Cp
 rw [← Ng,← Ng,Bool.or_assoc]
 show (er (Nf l) 6 _).sat _
 cases hm:Nf l with
 | true=>exact rfl
 | false =>
  have h12:(B2 l).length≤1000:=by
   unfold Nf at hm
   simp only [Bool.or_eq_false_iff,decide_eq_false_iff_not] at hm
   omega
  rw [decide_eq_true hs,decide_eq_true h12]
  show (er (!K4 l.1) 2 _).sat (fun y=>y=((bif okL l then 0 else 2),()))
  have hh:(B2 l).any (Ef ())=!(B2 l).all Gj:=Ko Gj _
  have hc:(Dh l).any (Eg ())=!(Dh l).all Hg:=Ko Hg _
  rw [hh,hc]
  unfold okL Ac8 Ac9
  simp only [cond_true]
  generalize K4 l.1=b1
  generalize inR l.2.1 65536 4194304=b2
  generalize inR l.2.2.1 65536 4194304=b3
  generalize inR l.2.2.2.1 0 (W64 (Int.tdiv (min l.2.1 l.2.2.1) 4))=b4
  generalize inR (Lq l).2.1 1 8192=b5
  generalize decide (nxL l<1)=b6
  generalize decide (nxL l>16)=b7
  generalize decide (nyL l<1)=b8
  generalize decide (nyL l>16)=b9
  generalize (((Dh l).length:Int)!=W64 (nxL l*nyL l))=b10
  generalize (B2 l).all Gj=b11
  generalize (Dh l).all Hg=b12
  generalize apF l.2.1 l.2.2.1 (By l)=b13
  cases b1 <;> try exact rfl
  cases b2 <;> try exact rfl
  cases b3 <;> try exact rfl
  cases b4 <;> try exact rfl
  cases b5 <;> try exact rfl
  cases b6 <;> try exact rfl
  cases b7 <;> try exact rfl
  cases b8 <;> try exact rfl
  cases b9 <;> try exact rfl
  cases b10 <;> try exact rfl
  cases b11 <;> try exact rfl
  cases b12 <;> try exact rfl
  cases b13 <;> exact rfl
theorem Rv:A6 Tryz.prog 105 Vg:=Bl (Ap Ak puLc (fns_cons is_lCheck A0)) 7 (fun x=>B75 x.1) (fun x=>by kernel_rfl) fun x hok _=>Axs (of_decide_eq_true hok)
end St
end V
end Go.Proofs.YtlangijnealfjaaGreat
namespace Go.Proofs.YtlangijnealfjaaGreat
open Go.RowKit
namespace V
namespace St
theorem Ny {G E α:Type} {st:G→Tree (G⊕E)} (l:List α) (d:α) (hd:Int→G) (bad:α→Bool) (rt ex:E) (hl:(l.length:Int)≤B7 .i64)
  (h:∀ i:Int,st (hd i)=bif decide (i<(l.length:Int)) then bif decide (0≤i∧i<(l.length:Int)) then bif bad (As l (Int.toNat i) d) then .leaf (.inr rt) else .leaf (.inl (hd (W64 (i+1)))) else .fail else .leaf (.inr ex)) :
  iter st (l.length+1) (hd 0)=some (bif l.any bad then rt else ex):=by
 have hl':(l.length:Int)≤9223372036854775807:=hl
 have key:=Fv (st:=st) l (fun i (_:Unit)=>hd (i:Int)) (fun _ x _=>bif bad x then some (.inr rt) else some (.inl ())) (fun _=>some ex) (fun _ _=>True)
  (fun i s hi _=>by
   have hrun:(st (hd (i:Int))).run=some (bif bad l[i] then .inr rt else .inl (hd ((i+1:Nat):Int))):=by
    rw [h,decide_eq_true (show (i:Int)<(l.length:Int) by omega),decide_eq_true (show 0≤(i:Int)∧(i:Int)<(l.length:Int) by omega),show Int.toNat (i:Int)=i by omega,De hi,Be (n:=(i:Int)+1) (by omega) (by omega)]
    cases bad l[i] <;> rfl
   cases hb:bad l[i] with
   | true=>rw [hb] at hrun;simp only [cond_true];exact hrun
   | false=>rw [hb] at hrun;simp only [cond_false];exact ⟨hrun,trivial⟩)
  (fun s e _ he=>by
   cases he
   rw [h,decide_eq_false (show ¬ (l.length:Int)<(l.length:Int) by omega)]
   rfl)
  l.length 0 () (bif l.any bad then rt else ex) (l.length+1) (by omega) (by omega) trivial (by rw [List.drop_zero];exact To bad (fun _=>rt) ex _ 0)
 exact key
theorem Xw {G E α:Type} {st:G→Tree (G⊕E)} (l:List α) (d:α) (hd:Int→G) (ok:Nat→α→Bool) (body:Int→α→Tree (G⊕E)) (rt ex:E) (hl:(l.length:Int)≤B7 .i64)
  (h:∀ i:Int,st (hd i)=bif decide (i<(l.length:Int)) then bif decide (0≤i∧i<(l.length:Int)) then body i (As l (Int.toNat i) d) else .fail else .leaf (.inr ex))
  (hb:∀ (i:Nat) (hi:i<l.length),(body (i:Int) l[i]).run=some (bif ok i l[i] then .inl (hd ((i+1:Nat):Int)) else .inr rt)) :
  iter st (l.length+1) (hd 0)=some (bif I2 ok 0 l then ex else rt):=by
 have hl':(l.length:Int)≤9223372036854775807:=hl
 have key:=Fv (st:=st) l (fun i (_:Unit)=>hd (i:Int)) (fun i x _=>bif ok i x then some (.inl ()) else some (.inr rt)) (fun _=>some ex) (fun _ _=>True)
  (fun i s hi _=>by
   have hrun:(st (hd (i:Int))).run=some (bif ok i l[i] then .inl (hd ((i+1:Nat):Int)) else .inr rt):=by
    rw [h,decide_eq_true (show (i:Int)<(l.length:Int) by omega),decide_eq_true (show 0≤(i:Int)∧(i:Int)<(l.length:Int) by omega),show Int.toNat (i:Int)=i by omega,De hi]
    exact hb i hi
   cases hk:ok i l[i] with
   | true=>rw [hk] at hrun;simp only [cond_true];exact ⟨hrun,trivial⟩
   | false=>rw [hk] at hrun;simp only [cond_false];exact hrun)
  (fun s e _ he=>by
   cases he
   rw [h,decide_eq_false (show ¬ (l.length:Int)<(l.length:Int) by omega)]
   rfl)
  l.length 0 () (bif I2 ok 0 l then ex else rt) (l.length+1) (by omega) (by omega) trivial (by rw [List.drop_zero];exact Xu ok rt ex _ 0)
 exact key
def plRc:List (Nat×PureT):=[]
theorem puRc:D3 Tryz.prog plRc:=puOk_nil
abbrev bL:BK:=(0,33,kLw)
def Aca:Lay:={ keys:=[1,3],ks:=[.p 0 0 0 0,.d cI],bs:=[bL],n:=224,nx:=1000,marks:=[] }
def A7j:Lay:={ keys:=[1],ks:=[.p 0 0 0 0],bs:=[bL],n:=224,nx:=1000,marks:=[] }
def Bhb:Lay:={ keys:=[2],ks:=[.d cI],bs:=[],n:=224,nx:=1000,marks:=[] }
def U1:XE→Lay:=fun e=>match e with | .ret=>Bhb | _=>A7j
def Aot (x:SKTs kLw) (i:Int):Aca.T:=(((),i,()),(x,()))
def A2o:A1 U1:=⟨.ret,((2,()),())⟩
def Aou (x:SKTs kLw):A1 U1:=⟨.exit 0,(((),()),(x,()))⟩
def Bhc (h:TCT Bv):TCT Bv:=(h.1,h.2.1,h.2.2.1,h.2.2.2.1,h.2.2.2.2.1,())
def hsX (x:SKTs kLw):List (TCT Bv):=x.2.2.2.2.1
def csX (x:SKTs kLw):List (TCT D8):=x.2.2.2.2.2.2.2.2.2.2.1
def Aft (g:Aca.T):Tree (Aca.T⊕A1 U1):=bif decide (g.1.2.1<((hsX g.2.1).length:Int)) then bif decide (0≤g.1.2.1∧g.1.2.1<((hsX g.2.1).length:Int)) then
 bif !Gj (Bhc (As (hsX g.2.1) (Int.toNat g.1.2.1) (Aq Bv))) then .leaf (.inr A2o) else .leaf (.inl (Aot g.2.1 (W64 (g.1.2.1+1)))) else .fail else .leaf (.inr (Aou g.2.1))
def Aov (g:Aca.T):Nat:=(hsX g.2.1).length+1
def Acb:Lay:={ keys:=[1,4],ks:=[.p 0 0 0 0,.d cI],bs:=[bL],n:=224,nx:=1000,marks:=[] }
def Aow (x:SKTs kLw) (i:Int):Acb.T:=(((),i,()),(x,()))
def Aox (x:SKTs kLw):A1 U1:=⟨.exit 2,(((),()),(x,()))⟩
def Afu (g:Acb.T):Tree (Acb.T⊕A1 U1):=bif decide (g.1.2.1<((csX g.2.1).length:Int)) then bif decide (0≤g.1.2.1∧g.1.2.1<((csX g.2.1).length:Int)) then
 bif !Hg (As (csX g.2.1) (Int.toNat g.1.2.1) (Aq D8)) then .leaf (.inr A2o) else .leaf (.inl (Aow g.2.1 (W64 (g.1.2.1+1)))) else .fail else .leaf (.inr (Aox g.2.1))
def Aoy (g:Acb.T):Nat:=(csX g.2.1).length+1
end St
end V
end Go.Proofs.YtlangijnealfjaaGreat
namespace Go.Proofs.YtlangijnealfjaaGreat
open Go.RowKit
namespace V
namespace St
def A7k:Lay:={ keys:=[1,5,6,7],ks:=[.p 0 0 0 0,.d (.sl A4),.d cI,.d cI],bs:=[bL],n:=224,nx:=2000,marks:=[] }
def Bcn:Lay:={ keys:=[1,5,6],ks:=[.p 0 0 0 0,.d (.sl A4),.d cI],bs:=[bL],n:=224,nx:=2000,marks:=[] }
def B4g:Lay:={ keys:=[2],ks:=[.d cI],bs:=[],n:=224,nx:=2000,marks:=[] }
def A4n:XE→Lay:=fun e=>match e with | .ret=>B4g | _=>Bcn
def Xx:Lay:={ keys:=[1,5,6],ks:=[.p 0 0 0 0,.d (.sl A4),.d cI],bs:=[bL],n:=224,nx:=1000,marks:=[] }
def Bhf:Lay:={ keys:=[],ks:=[],bs:=[],n:=224,nx:=2000,marks:=[] }
def A7l:XE→Lay:=fun e=>match e with | .ret=>B4g | _=>Bhf
def sqR (a b:TCT A4):Int:=W64 (W64 (W64 (a.1.1-b.1.1)*W64 (a.1.1-b.1.1))+W64 (W64 (a.1.2.1-b.1.2.1)*W64 (a.1.2.1-b.1.2.1)))
def A1p (d o:TCT A4):Bool:=decide (sqR d o<srD d o)
def inP {β:Type} (p:List (TCT A4)) (i:Int) (k:Tree β):Tree β:=bif decide (0≤i∧i<(p.length:Int)) then k else .fail
theorem Hh {β:Type} {p:List (TCT A4)} {i:Int} {k:Tree β} (h:0≤i∧i<(p.length:Int)):inP p i k=k:=by unfold inP;rw [decide_eq_true h];rfl
def gD (p:List (TCT A4)) (i:Int):TCT A4:=As p (Int.toNat i) (Aq A4)
def Afv (x:SKTs kLw) (p:List (TCT A4)) (i k:Int):A7k.T:=(((),p,i,k,()),(x,()))
def Afw:A1 A4n:=⟨.ret,((2,()),())⟩
def Afx (x:SKTs kLw) (p:List (TCT A4)) (i:Int):A1 A4n:=⟨.exit 6,(((),p,i,()),(x,()))⟩
def Acc (x:SKTs kLw) (p:List (TCT A4)) (i k:Int):Tree (A7k.T⊕A1 A4n):=bif decide (k<i) then
 inP p i (inP p k (inP p i (inP p k (inP p i (inP p k (inP p i (inP p k (bif A1p (gD p i) (gD p k) then .leaf (.inr Afw) else .leaf (.inl (Afv x p i (W64 (k+1)))))))))))) else .leaf (.inr (Afx x p i))
def A7m (g:A7k.T):Tree (A7k.T⊕A1 A4n):=Acc g.2.1 g.1.2.1 g.1.2.2.1 g.1.2.2.2.1
def Aoz (g:A7k.T):Nat:=(List.take (Int.toNat g.1.2.2.1) (g.1.2.1:List (TCT A4))).length+1
theorem Axt (x:SKTs kLw) (p:List (TCT A4)) (i:Nat) (hi:i<p.length) (hp:(p.length:Int)≤B7 .i64) :
  iter A7m ((p.take i).length+1) (Afv x p i 0)=some (bif (p.take i).any (A1p p[i]) then Afw else Afx x p i):=by
 have ht:(p.take i).length=i:=by rw [List.length_take];omega
 have hp':(p.length:Int)≤9223372036854775807:=hp
 refine Ny (p.take i) (Aq A4) (fun k=>Afv x p i k) (A1p p[i]) Afw (Afx x p i) (by rw [ht];show (i:Int)≤9223372036854775807;omega) fun k=>?_
 show Acc x p i k=_
 unfold Acc
 rw [ht]
 by_cases hk:k<(i:Int)
 ·rw [decide_eq_true hk,cond_true,cond_true]
  by_cases h0:0≤k
  ·have hki:0≤k∧k<(p.length:Int):=by omega
   have hii:0≤(i:Int)∧(i:Int)<(p.length:Int):=by omega
   have e1:gD p (i:Int)=p[i]:=by unfold gD;rw [show Int.toNat (i:Int)=i by omega,De hi]
   have e2:gD p k=As (p.take i) (Int.toNat k) (Aq A4):=by
    unfold gD
    have h1:Int.toNat k<p.length:=by omega
    have h2:Int.toNat k<(p.take i).length:=by omega
    rw [De h1,De h2,List.getElem_take]
   rw [Hh hii,Hh hki,Hh hii,Hh hki,Hh hii,Hh hki,Hh hii,Hh hki,e1,e2,decide_eq_true (show 0≤k∧k<(i:Int) by omega)]
   rfl
  ·have hii:0≤(i:Int)∧(i:Int)<(p.length:Int):=by omega
   rw [Hh hii,decide_eq_false (show ¬ (0≤k∧k<(i:Int)) by omega)]
   unfold inP
   rw [decide_eq_false (show ¬ (0≤k∧k<(p.length:Int)) by omega)]
   rfl
 ·rw [decide_eq_false hk];rfl
def Afy (x:SKTs kLw) (p:List (TCT A4)) (i:Int):Xx.T:=(((),p,i,()),(x,()))
def A2p (e:Int):A1 A7l:=⟨.ret,((e,()),())⟩
def Afz:A1 A7l:=⟨.exit 4,((),())⟩
abbrev TC3:=Tree (Xx.T⊕A1 A7l)
def B76 (x:SKTs kLw) (p:List (TCT A4)) (i:Int):Option (A1 A4n):=iter A7m ((p.take (Int.toNat i)).length+1) (Afv x p i 0)
def Bco (r:Bcn.T):Xx.T:=Afy r.2.1 r.1.2.1 (W64 (r.1.2.2.1+1))
def Bcp (y:Option (A1 A4n)):TC3:=bif isE .ret y then .leaf (.inr (A2p (C2 .ret y).1.1)) else bif isE (.exit 6) y then .leaf (.inl (Bco (C2 (.exit 6) y))) else .fail
def Ap0 (x:SKTs kLw) (p:List (TCT A4)) (i:Int) (d:TCT A4):TC3 :=
 inP p i (inP p i (bif !inR d.1.1 d.2.1 (W64 (x.2.1-d.2.1)) then .leaf (.inr (A2p 2)) else inP p i (inP p i (inP p i (bif !inR d.1.2.1 d.2.1 (W64 (x.2.2.1-d.2.1)) then .leaf (.inr (A2p 2)) else Bcp (B76 x p i))))))
def A7n (g:Xx.T):TC3:=bif decide (g.1.2.2.1<((g.1.2.1:List (TCT A4)).length:Int)) then bif decide (0≤g.1.2.2.1∧g.1.2.2.1<((g.1.2.1:List (TCT A4)).length:Int)) then Ap0 g.2.1 g.1.2.1 g.1.2.2.1 (gD g.1.2.1 g.1.2.2.1) else .fail else .leaf (.inr Afz)
def Ap1 (g:Xx.T):Nat:=(g.1.2.1:List (TCT A4)).length+1
def B4h:M7:=fun k=>bif Nat.beq k 24 then some (Ar A7k A4n (D7 [.ret,.exit 6] A7m Aoz)) else none
end St
end V
end Go.Proofs.YtlangijnealfjaaGreat
namespace Go.Proofs.YtlangijnealfjaaGreat
open Go.RowKit
namespace V
namespace St
def Ap6 (x:SKTs kLw):Option (A1 U1):=iter Aft ((hsX x).length+1) (Aot x 0)
def Ap7 (x:SKTs kLw):Option (A1 U1):=iter Afu ((csX x).length+1) (Aow x 0)
def Ap8 (x:SKTs kLw) (p:List (TCT A4)):Option (A1 A7l):=iter A7n (p.length+1) (Afy x p 0)
def Ap9 (r:A7j.T):TEr:=bif decide ((hsX r.2.1).length≤1000) then
 bif isE .ret (Ap8 r.2.1 (By (Kh r.2.1))) then .leaf ((C2 .ret (Ap8 r.2.1 (By (Kh r.2.1)))).1.1,()) else bif isE (.exit 4) (Ap8 r.2.1 (By (Kh r.2.1))) then .leaf (0,()) else .fail else .fail
def Apa (r:A7j.T):TEr:=er (!inR (Lq (Kh r.2.1)).2.1 1 8192) 2 (er (!inR (Lq (Kh r.2.1)).1.1 0 4194304) 2 (er (!inR (Lq (Kh r.2.1)).1.2.1 0 4194304) 2 (
 er (decide (nxL (Kh r.2.1)<1)) 2 (er (decide (nxL (Kh r.2.1)>16)) 2 (er (decide (nyL (Kh r.2.1)<1)) 2 (er (decide (nyL (Kh r.2.1)>16)) 2 (er (((csX r.2.1).length:Int)!=W64 (nxL (Kh r.2.1)*nyL (Kh r.2.1))) 2 (
 bif isE .ret (Ap7 r.2.1) then .leaf ((C2 .ret (Ap7 r.2.1)).1.1,()) else bif isE (.exit 2) (Ap7 r.2.1) then Ap9 (C2 (.exit 2) (Ap7 r.2.1)) else .fail))))))))
def Axv (l:TCT Am):TEr :=
 er (decide (((B2 l).length:Int)<1)) 6 (er (decide (((B2 l).length:Int)>12)) 6 (er (decide (((Dh l).length:Int)>256)) 6 (
 bif decide ((l.1.size:Int)≤B7 .i64) then er (!K4 l.1) 2 (er (!inR l.2.1 65536 4194304) 2 (er (!inR l.2.2.1 65536 4194304) 2 (er (!inR l.2.2.2.1 0 (W64 (Int.tdiv (min l.2.1 l.2.2.1) 4))) 2 (
  bif isE .ret (Ap6 (Ec l)) then .leaf ((C2 .ret (Ap6 (Ec l))).1.1,()) else bif isE (.exit 0) (Ap6 (Ec l)) then Apa (C2 (.exit 0) (Ap6 (Ec l))) else .fail))))
 else .fail)))
end St
end V
end Go.Proofs.YtlangijnealfjaaGreat
namespace Go.Proofs.YtlangijnealfjaaGreat
open Go.RowKit
namespace V
namespace St
def apR (w l:Int) (p:List (TCT A4)):Bool:=I2 (fun i d=>Qf w l d&&!(p.take i).any (A1p d)) 0 p
theorem Axx (x:SKTs kLw) (hl:((hsX x).length:Int)≤B7 .i64):Ap6 x=some (bif (hsX x).any (fun h=>!Gj h) then A2o else Aou x) :=
 Ny (hsX x) (Aq Bv) (Aot x) (fun h=>!Gj h) A2o (Aou x) hl (fun _=>rfl)
theorem Axy (x:SKTs kLw) (hl:((csX x).length:Int)≤B7 .i64):Ap7 x=some (bif (csX x).any (fun h=>!Hg h) then A2o else Aox x) :=
 Ny (csX x) (Aq D8) (Aow x) (fun h=>!Hg h) A2o (Aox x) hl (fun _=>rfl)
theorem Axz (x:SKTs kLw) (p:List (TCT A4)) (hp:(p.length:Int)≤B7 .i64):Ap8 x p=some (bif apR x.2.1 x.2.2.1 p then Afz else A2p 2):=by
 have hp':(p.length:Int)≤9223372036854775807:=hp
 refine Xw p (Aq A4) (Afy x p) (fun i d=>Qf x.2.1 x.2.2.1 d&&!(p.take i).any (A1p d)) (Ap0 x p) (A2p 2) Afz hp (fun _=>rfl) fun i hi=>?_
 have hii:0≤(i:Int)∧(i:Int)<(p.length:Int):=by omega
 unfold Ap0 Qf
 rw [Hh hii,Hh hii,Hh hii,Hh hii,Hh hii]
 cases inR p[i].1.1 p[i].2.1 (W64 (x.2.1-p[i].2.1)) with
 | false=>rfl
 | true =>
  cases inR p[i].1.2.1 p[i].2.1 (W64 (x.2.2.1-p[i].2.1)) with
  | false=>rfl
  | true =>
   have hy:B76 x p (i:Int)=some (bif (p.take i).any (A1p p[i]) then Afw else Afx x p i):=by
    unfold B76
    rw [show Int.toNat (i:Int)=i by omega]
    exact Axt x p i hi hp
   simp only [Bool.not_true,cond_false,Bool.true_and]
   rw [hy]
   cases (p.take i).any (A1p p[i]) with
   | true=>rfl
   | false =>
    show (Tree.leaf (Sum.inl (Afy x p (W64 ((i:Int)+1)))):TC3).run=_
    rw [Be (n:=(i:Int)+1) (by omega) (by omega)]
    rfl
def Ay0 (l:TCT Am):Bool:=inR (Lq l).2.1 1 8192&&(inR (Lq l).1.1 0 4194304&&inR (Lq l).1.2.1 0 4194304)
def okR (l:TCT Am):Bool:=Ac8 l&&((B2 l).all Gj&&(Ay0 l&&(Ac9 l&&((Dh l).all Hg&&apR l.2.1 l.2.2.1 (By l)))))
def Ay1 (l:TCT Am):Int:=bif Nf l then 6 else bif okR l then 0 else 2
theorem A2q {l:TCT Am}:(By l).length=2*(B2 l).length+1:=by
 unfold By
 rw [List.length_append,Rt]
 rfl
theorem Bcr {l:TCT Am} (h12:(B2 l).length≤1000):(Ap9 (((),()),(Ec l,()))).sat (fun y=>y=((bif apR l.2.1 l.2.2.1 (By l) then (0:Int) else 2),())):=by
 unfold Ap9
 have e:Kh (((((),()),(Ec l,())):A7j.T).2.1)=l:=rfl
 have e2:hsX (((((),()),(Ec l,())):A7j.T).2.1)=B2 l:=rfl
 have hy:Ap8 (((((),()),(Ec l,())):A7j.T).2.1) (By l)=some (bif apR l.2.1 l.2.2.1 (By l) then Afz else A2p 2):=Axz (Ec l) (By l) (by rw [A2q];simp only [B7];omega)
 rw [e,e2,decide_eq_true h12,hy]
 cases apR l.2.1 l.2.2.1 (By l) <;> exact rfl
theorem Mi {a b:Bool} {k:TEr} (h:k.sat (fun y=>y=((bif b then (0:Int) else 2),()))):(er (!a) 2 k).sat (fun y=>y=((bif a&&b then (0:Int) else 2),())):=by
 cases a with
 | true=>exact h
 | false=>exact rfl
theorem Nz {a b:Bool} {k:TEr} (h:k.sat (fun y=>y=((bif b then (0:Int) else 2),()))):(er a 2 k).sat (fun y=>y=((bif !a&&b then (0:Int) else 2),())):=by
 cases a with
 | true=>exact rfl
 | false=>exact h
theorem Bcs {l:TCT Am} (h12:(B2 l).length≤1000) (hc:((Dh l).length:Int)≤B7 .i64):(Apa (((),()),(Ec l,()))).sat (fun y=>y=((bif Ay0 l&&(Ac9 l&&((Dh l).all Hg&&apR l.2.1 l.2.2.1 (By l))) then (0:Int) else 2),())):=by
 unfold Apa Ay0 Ac9
 have e:Kh (((((),()),(Ec l,())):A7j.T).2.1)=l:=rfl
 have e2:csX (((((),()),(Ec l,())):A7j.T).2.1)=Dh l:=rfl
 rw [e,e2]
 simp only [Bool.and_assoc]
 refine Mi (Mi (Mi (Nz (Nz (Nz (Nz (Nz ?_)))))))
 rw [Axy (Ec l) hc]
 have hq:(csX (Ec l)).any (fun h=>!Hg h)=!(Dh l).all Hg:=Ko Hg _
 rw [hq]
 cases (Dh l).all Hg with
 | false=>exact rfl
 | true=>exact Bcr h12
theorem Ay2 {l:TCT Am} (hs:(l.1.size:Int)≤B7 .i64) (hh:((B2 l).length:Int)≤B7 .i64) (hc:((Dh l).length:Int)≤B7 .i64):(Axv l).sat (fun y=>y=(Ay1 l,())):=by
 unfold Axv Ay1
 rw [← Ng,← Ng,Bool.or_assoc]
 show (er (Nf l) 6 _).sat _
 cases hm:Nf l with
 | true=>exact rfl
 | false =>
  have h12:(B2 l).length≤1000:=by
   unfold Nf at hm
   simp only [Bool.or_eq_false_iff,decide_eq_false_iff_not] at hm
   omega
  rw [decide_eq_true hs]
  show (er (!K4 l.1) 2 _).sat (fun y=>y=((bif okR l then (0:Int) else 2),()))
  unfold okR Ac8
  simp only [Bool.and_assoc]
  refine Mi (Mi (Mi (Mi ?_)))
  rw [Axx (Ec l) hh]
  have hq:(hsX (Ec l)).any (fun h=>!Gj h)=!(B2 l).all Gj:=Ko Gj _
  rw [hq]
  cases (B2 l).all Gj with
  | false=>exact rfl
  | true=>exact Bcs h12 hc
end St
end V
end Go.Proofs.YtlangijnealfjaaGreat
namespace Go.Proofs.YtlangijnealfjaaGreat
open Go.RowKit
namespace V
namespace St
theorem Jl {x lo hi:Int}:inR x lo hi=true ↔ lo≤x∧x≤hi:=by unfold inR;simp only [Bool.and_eq_true,decide_eq_true_eq]
theorem Ag0 {α:Type} {p:List α} {ok1 ok2:Nat→α→Bool} (ins:α→Bool) (h:∀ (i:Nat) (hi:i<p.length),(∀ o ∈ p.take i,ins o=true)→ok1 i p[i]=ok2 i p[i]) (h1:∀ i x,ok1 i x=true→ins x=true) :
  ∀ (k i:Nat),i+k=p.length→(∀ o ∈ p.take i,ins o=true)→I2 ok1 i (p.drop i)=I2 ok2 i (p.drop i)
 | 0,i,hk,_=>by
  rw [List.drop_eq_nil_of_le (by omega)];rfl
 | k+1,i,hk,hp=>by
  have hi:i<p.length:=by omega
  rw [List.drop_eq_getElem_cons hi]
  simp only [I2]
  rw [← h i hi hp]
  cases ho:ok1 i p[i] with
  | false=>rfl
  | true =>
   rw [Bool.true_and,Bool.true_and]
   refine Ag0 ins h h1 k (i+1) (by omega) fun o hm=>?_
   rw [List.take_succ_eq_append_getElem hi,List.mem_append,List.mem_singleton] at hm
   rcases hm with hm | rfl
   ·exact hp o hm
   ·exact h1 i _ ho
theorem A7o {α:Type} {ok:Nat→α→Bool}:∀ (l:List α) (i:Nat),I2 ok i l=true→∀ x ∈ l,∃ j,ok j x=true
 | y::l,i,h,x,hx=>by
  simp only [I2,Bool.and_eq_true] at h
  rcases List.mem_cons.1 hx with rfl | hx
  ·exact ⟨i,h.1⟩
  ·exact A7o l (i+1) h.2 x hx
structure On (d:TCT A4):Prop where
 x:0≤d.1.1∧d.1.1≤4194304
 y:0≤d.1.2.1∧d.1.2.1≤4194304
 r:1≤d.2.1∧d.2.1≤8192
theorem Ay3 {x y r w l:Int} (hw:0≤w∧w≤4194304) (hl:0≤l∧l≤4194304) (hr:1≤r∧r≤8192) (h:(r≤x∧x≤W64 (w-r))∧r≤y∧y≤W64 (l-r)):(0≤x∧x≤4194304)∧0≤y∧y≤4194304:=by
 rw [Be (n:=w-r) (by omega) (by omega),Be (n:=l-r) (by omega) (by omega)] at h
 omega
theorem Apb {w l:Int} (hw:0≤w∧w≤4194304) (hl:0≤l∧l≤4194304) {d:TCT A4} (hr:1≤d.2.1∧d.2.1≤8192) (h:Qf w l d=true):On d:=by
 unfold Qf at h
 simp only [Bool.and_eq_true,Jl] at h
 obtain ⟨h1,h2⟩:=Ay3 hw hl hr h
 exact ⟨h1,h2,hr⟩
theorem Apc {x y r:Int} (hx:0≤x∧x≤4194304) (hy:0≤y∧y≤4194304) (hr:1≤r∧r≤8192):Z0 x y r=0:=by
 unfold Z0 Le fpt Bd
 rw [decide_eq_true (show -4194304≤x∧x≤4194304 ∧ -4194304≤y∧y≤4194304 by omega),decide_eq_false (show ¬ r<1 by omega),decide_eq_false (show ¬ 65536<r by omega)]
 rfl
theorem Apd {a b:Int} (ha:0≤a∧a≤4194304) (hb:0≤b∧b≤4194304):W64 (b-a)*W64 (b-a)=W64 (a-b)*W64 (a-b):=by
 rw [Be (n:=b-a) (by omega) (by omega),Be (n:=a-b) (by omega) (by omega)]
 grind
theorem B7a {d o:TCT A4} (hd:On d) (ho:On o):touB d o=A1p d o:=by
 have e:sqD d o=sqR d o:=by
  unfold sqD sqR
  rw [Apd hd.x ho.x,Apd hd.y ho.y]
 have c1:cdE d=0:=Apc hd.x hd.y hd.r
 have c2:cdE o=0:=Apc ho.x ho.y ho.r
 unfold touB A1p A1n
 rw [c1,c2,e]
 show decide (Axn (sqR d o) (srD d o)<0)=_
 unfold Axn
 by_cases h:sqR d o<srD d o
 ·rw [decide_eq_true h];rfl
 ·rw [decide_eq_false h,cond_false]
  cases decide (sqR d o>srD d o) <;> rfl
theorem P4 {α:Type} {p q:α→Bool}:∀ {l:List α},(∀ x ∈ l,p x=q x)→l.any p=l.any q
 | [],_=>rfl
 | x::l,h=>by rw [List.any_cons,List.any_cons,h x (List.mem_cons_self ..),P4 fun y hy=>h y (List.mem_cons_of_mem _ hy)]
theorem Bct {w l:Int} (hw:0≤w∧w≤4194304) (hl:0≤l∧l≤4194304) {p:List (TCT A4)} (hr:∀ d ∈ p,1≤d.2.1∧d.2.1≤8192):apF w l p=apR w l p:=by
 have key:=Ag0 (p:=p) (ok1:=fun i d=>Qf w l d&&!(p.take i).any (touB d)) (ok2:=fun i d=>Qf w l d&&!(p.take i).any (A1p d)) (Qf w l)
  (fun i hi hp=>by
   cases hi':Qf w l p[i] with
   | false=>rfl
   | true =>
    have hd:=Apb hw hl (hr _ (List.getElem_mem hi)) hi'
    rw [P4 fun o ho=>B7a hd (Apb hw hl (hr o (List.mem_of_mem_take ho)) (hp o ho))])
  (fun i x h=>by simp only [Bool.and_eq_true] at h;exact h.1) p.length 0 (by omega) (fun o ho=>by rw [List.take_zero] at ho;cases ho)
 rw [List.drop_zero] at key
 exact key
theorem Bhj {h:TCT Bv} {d:TCT A4} (hd:d ∈ w2 h):d.2.1=h.2.2.2.1:=by
 unfold w2 at hd
 cases hb:h.2.2.2.2.1 with
 | true =>
  rw [hb] at hd
  have hd:d ∈ [Pv h.1 (W64 (h.2.1-dW h)) h.2.2.2.1,Pv h.1 (W64 (h.2.1+dW h)) h.2.2.2.1]:=hd
  rcases List.mem_cons.1 hd with rfl | hd
  ·rfl
  ·rw [List.mem_singleton] at hd;subst hd;rfl
 | false =>
  rw [hb] at hd
  have hd:d ∈ [Pv (W64 (h.1-dW h)) h.2.1 h.2.2.2.1,Pv (W64 (h.1+dW h)) h.2.1 h.2.2.2.1]:=hd
  rcases List.mem_cons.1 hd with rfl | hd
  ·rfl
  ·rw [List.mem_singleton] at hd;subst hd;rfl
theorem Ay4 {l:TCT Am} (hh:(B2 l).all Gj=true) (hp:inR (Lq l).2.1 1 8192=true):∀ d ∈ By l,1≤d.2.1∧d.2.1≤8192:=by
 intro d hd
 unfold By at hd
 rw [List.mem_append,List.mem_singleton,List.mem_flatMap] at hd
 rcases hd with ⟨h,hm,hd⟩ | rfl
 ·have:=List.all_eq_true.1 hh h hm
  unfold Gj at this
  simp only [Bool.and_eq_true,Jl] at this
  rw [Bhj hd]
  exact this.2.2.2.2
 ·exact Jl.1 hp
theorem Ape (l:TCT Am):Ay1 l=Cp l:=by
 unfold Ay1 Cp
 congr 2
 unfold okR okL
 cases hd:Ac8 l with
 | false=>rfl
 | true =>
  have hd':=hd
  unfold Ac8 at hd'
  simp only [Bool.and_eq_true,Jl] at hd'
  obtain ⟨_,⟨w1,w2'⟩,⟨l1,l2⟩,_⟩:=hd'
  have hw:0≤l.2.1∧l.2.1≤4194304:=⟨Int.le_trans (by decide) w1,w2'⟩
  have hl:0≤l.2.2.1∧l.2.2.1≤4194304:=⟨Int.le_trans (by decide) l1,l2⟩
  unfold Ay0
  cases hh:(B2 l).all Gj with
  | false=>cases inR (Lq l).2.1 1 8192 <;> cases Ac9 l <;> rfl
  | true =>
   cases hp:inR (Lq l).2.1 1 8192 with
   | false=>rfl
   | true =>
    have hr:=Ay4 hh hp
    rw [← Bct hw hl hr]
    cases ha:apF l.2.1 l.2.2.1 (By l) with
    | false=>simp
    | true =>
     obtain ⟨j,hj⟩:=A7o (By l) 0 ha (Lq l) (by unfold By;simp)
     simp only [Bool.and_eq_true] at hj
     have on:=Apb hw hl (Jl.1 hp) hj.1
     have e1:inR (Lq l).1.1 0 4194304=true:=Jl.2 on.x
     have e2:inR (Lq l).1.2.1 0 4194304=true:=Jl.2 on.y
     rw [e1,e2]
     simp
end St
end V
end Go.Proofs.YtlangijnealfjaaGreat
namespace Go.Proofs.YtlangijnealfjaaGreat
open Go.RowKit
namespace V
namespace St
theorem is_Posts:FnIs Tryz.prog (101,Tryz.f101):=⟨Tryz.func101,by kernel_rfl,by kernel_rfl⟩
def plPs:List (Nat×PureT):=[(105,Vg),(52,Mh)]
theorem puPs:D3 Tryz.prog plPs:=puOk_cons is_lCheck.plain Rv (puOk_cons is_lposts.plain A4g (puOk_nil))
def I3 (l:TCT Am):List (TCT A4):=bif Cp l==0 then By l else []
abbrev A4o:PureT:=Bj [Am] [.sl A4,cI] (fun x=>decide ((x.1.1.size:Int)≤B7 .i64)) (fun x=>(I3 x.1,Cp x.1,()))
abbrev TPs:=Tree (TCTs [.sl A4,cI])
def szT {β:Type} (l:TCT Am) (k:Tree β):Tree β:=bif decide ((l.1.size:Int)≤B7 .i64) then k else .fail
theorem Ei {β:Type} {l:TCT Am} {k:Tree β} (h:(l.1.size:Int)≤B7 .i64):szT l k=k:=by unfold szT;rw [decide_eq_true h];rfl
def Ag1 (l:TCT Am):TPs:=bif decide ((B2 l).length≤1000) then .leaf (By l,0,()) else .fail
def B7b (l:TCT Am):TPs:=szT l (bif Cp l != 0 then .leaf ([],Cp l,()) else Ag1 l)
theorem Rx {l:TCT Am} (h:Cp l=0):(B2 l).length≤12∧1≤(B2 l).length:=by
 unfold Cp at h
 cases hm:Nf l with
 | true=>rw [hm] at h;cases h
 | false =>
  unfold Nf at hm
  simp only [Bool.or_eq_false_iff,decide_eq_false_iff_not] at hm
  omega
theorem Apg {l:TCT Am} (h:Cp l=0):(Ag1 l).sat (fun y=>y=(I3 l,Cp l,())):=by
 have:=Rx h
 unfold Ag1 I3
 rw [decide_eq_true (show (B2 l).length≤1000 by omega),h]
 exact rfl
theorem Bcu {l:TCT Am}:(bif Cp l != 0 then .leaf ([],Cp l,()) else Ag1 l:TPs).sat (fun y=>y=(I3 l,Cp l,())):=by
 cases h:Cp l==0 with
 | true =>
  have h':Cp l=0:=by simpa using h
  rw [show (Cp l != 0)=false by simp [h']]
  exact Apg h'
 | false =>
  rw [show (Cp l != 0)=true by simpa using h]
  unfold I3
  rw [h]
  exact rfl
theorem Ag2:A6 Tryz.prog 101 A4o:=Bl (Ap Ak puPs (fns_cons is_Posts A0)) 7 (fun x=>B7b x.1) (fun x=>by kernel_rfl) fun x hok _=>by
 show (B7b x.1).sat _
 unfold B7b
 rw [Ei (of_decide_eq_true hok)]
 exact Bcu
end St
end V
end Go.Proofs.YtlangijnealfjaaGreat
namespace Go.Proofs.YtlangijnealfjaaGreat
open Go.RowKit
namespace V
namespace St
theorem is_CellAt:FnIs Tryz.prog (193,Tryz.f193):=⟨Tryz.func193,by kernel_rfl,by kernel_rfl⟩
theorem is_lchk:FnIs Tryz.prog (47,Tryz.f47):=⟨Tryz.func47,by kernel_rfl,by kernel_rfl⟩
theorem is_lon:FnIs Tryz.prog (61,Tryz.f61):=⟨Tryz.func61,by kernel_rfl,by kernel_rfl⟩
def onB (l:TCT Am) (p:TCT cPt):Bool:=inR p.1 0 l.2.1&&inR p.2.1 0 l.2.2.1
def Vh (l:TCT Am) (p:TCT cPt):Int:=W64 (W64 (min (W64 (Int.tdiv (W64 (p.2.1*nyL l)) l.2.2.1)) (W64 (nyL l-1))*nxL l)+min (W64 (Int.tdiv (W64 (p.1*nxL l)) l.2.1)) (W64 (nxL l-1)))
def Ay5 (c:TCT D8):TCT D8:=(c.1,c.2.1,c.2.2.1,())
def zCe:TCT D8:=(0,0,0,())
def A4p (l:TCT Am) (p:TCT cPt):Int:=bif Cp l != 0 then Cp l else bif fpt p.1 p.2.1 then 0 else 2
def Gk (l:TCT Am) (p:TCT cPt):Int:=bif A4p l p != 0 then A4p l p else bif onB l p then 0 else 5
def Lu (l:TCT Am) (p:TCT cPt):TCT D8:=bif Gk l p==0 then Ay5 (As (Dh l) (Int.toNat (Vh l p)) (Aq D8)) else zCe
abbrev A7p:PureT:=Bj [Am,cPt] [D8,cI] (fun x=>decide ((x.1.1.size:Int)≤B7 .i64)) (fun x=>(((Lu x.1 x.2.1).1,(Lu x.1 x.2.1).2.1,(Lu x.1 x.2.1).2.2.1,()),Gk x.1 x.2.1,()))
abbrev TCe:=Tree (TCTs [D8,cI])
def U2 (e:Int):TCe:=.leaf (zCe,e,())
def Aph (l:TCT Am) (p:TCT cPt):TCe:=bif l.2.1 != 0 then bif l.2.2.1 != 0 then bif decide (0≤Vh l p∧Vh l p<((Dh l).length:Int)) then .leaf (Ay5 (As (Dh l) (Int.toNat (Vh l p)) (Aq D8)),0,()) else .fail else .fail else .fail
def A2r (l:TCT Am) (p:TCT cPt):TCe:=bif inR p.1 0 l.2.1 then bif !inR p.2.1 0 l.2.2.1 then U2 5 else Aph l p else U2 5
def Ay6 (l:TCT Am) (p:TCT cPt):TCe:=szT l (bif Cp l != 0 then bif Cp l != 0 then U2 (Cp l) else A2r l p else bif Hv p.1 p.2.1 != 0 then U2 2 else A2r l p)
theorem Ay7 (x:TCTs [Am,cPt]):D1 (Ab9 2 Tryz.prog ((70,Kp)::(120,s_inR)::plPs) [(193,Tryz.f193),(47,Tryz.f47),(61,Tryz.f61)]) 7 (.fn 193) (E7 [Am,cPt] x) Ce 0 (Hx Tryz.prog [D8,cI])=Ay6 x.1 x.2.1:=by kernel_rfl
theorem Ag3 {a b c d:Int} (h0:0≤a) (h1:a≤c) (h2:0≤b) (h3:b≤d):a*b≤c*d:=Int.mul_le_mul h1 h3 h2 (by omega)
theorem A7q {y ny l:Int} (hl:1≤l∧l≤4194304) (hy:0≤y∧y≤l) (hn:1≤ny∧ny≤16):0≤min (W64 (Int.tdiv (W64 (y*ny)) l)) (W64 (ny-1))∧min (W64 (Int.tdiv (W64 (y*ny)) l)) (W64 (ny-1))≤ny-1:=by
 have h1:0≤y*ny:=Int.mul_nonneg hy.1 (by omega)
 have h2:y*ny≤4194304*16:=Ag3 hy.1 (by omega) (by omega) hn.2
 rw [Be (n:=y*ny) (by omega) (by omega),Int.tdiv_eq_ediv_of_nonneg h1]
 have h3:=Int.ediv_nonneg h1 (show 0≤l by omega)
 have h4:=Int.ediv_le_self l h1
 rw [Be (n:=y*ny / l) (by omega) (by omega),Be (n:=ny-1) (by omega) (by omega)]
 omega
theorem Api {i k nx ny:Int} (hx:1≤nx∧nx≤16) (hy:1≤ny∧ny≤16) (hi:0≤i∧i≤nx-1) (hk:0≤k∧k≤ny-1):0≤W64 (W64 (k*nx)+i)∧W64 (W64 (k*nx)+i)<W64 (nx*ny):=by
 have h1:0≤k*nx:=Int.mul_nonneg hk.1 (by omega)
 have h2:k*nx≤(ny-1)*nx:=Int.mul_le_mul_of_nonneg_right hk.2 (by omega)
 have h3:nx*ny≤16*16:=Ag3 (by omega) hx.2 (by omega) hy.2
 have h4:(ny-1)*nx=nx*ny-nx:=by grind
 rw [Be (n:=k*nx) (by omega) (by omega),Be (n:=k*nx+i) (by omega) (by omega),Be (n:=nx*ny) (by omega) (by omega)]
 omega
structure LawOk (l:TCT Am):Prop where
 w:65536≤l.2.1∧l.2.1≤4194304
 lg:65536≤l.2.2.1∧l.2.2.1≤4194304
 nx:1≤nxL l∧nxL l≤16
 ny:1≤nyL l∧nyL l≤16
 n:((Dh l).length:Int)=W64 (nxL l*nyL l)
 hs:(B2 l).all Gj=true
 cs:(Dh l).all Hg=true
 ap:apF l.2.1 l.2.2.1 (By l)=true
 hn:1≤(B2 l).length∧(B2 l).length≤12
theorem Acd {l:TCT Am} (h:Cp l=0):LawOk l:=by
 have hn:=Rx h
 unfold Cp at h
 cases hm:Nf l with
 | true=>rw [hm] at h;cases h
 | false =>
  rw [hm,cond_false] at h
  cases ho:okL l with
  | false=>rw [ho] at h;cases h
  | true =>
   unfold okL Ac8 Ac9 at ho
   simp only [Bool.and_eq_true,Jl,Bool.not_eq_true',decide_eq_false_iff_not,bne_eq_false_iff_eq] at ho
   obtain ⟨⟨_,hw,hl,_⟩,hp,⟨n1,n2,n3,n4,n5⟩,h1,h2,h3⟩:=ho
   exact ⟨hw,hl,⟨Int.not_lt.1 n1,Int.not_lt.1 n2⟩,⟨Int.not_lt.1 n3,Int.not_lt.1 n4⟩,n5,h1,h2,h3,hn.2,hn.1⟩
theorem Apj {l:TCT Am} {p:TCT cPt} (h:Cp l=0) (ho:onB l p=true):Aph l p=.leaf (Ay5 (As (Dh l) (Int.toNat (Vh l p)) (Aq D8)),0,()):=by
 have k:=Acd h
 unfold onB at ho
 simp only [Bool.and_eq_true,Jl] at ho
 have hw:1≤l.2.1∧l.2.1≤4194304:=⟨Int.le_trans (by decide) k.w.1,k.w.2⟩
 have hl:1≤l.2.2.1∧l.2.2.1≤4194304:=⟨Int.le_trans (by decide) k.lg.1,k.lg.2⟩
 have hc:=Api k.nx k.ny (A7q hw ho.1 k.nx) (A7q hl ho.2 k.ny)
 rw [← k.n] at hc
 have e1:(l.2.1 != 0)=true:=by
  rw [bne_iff_ne];intro e;rw [e] at hw;exact absurd hw.1 (by decide)
 have e2:(l.2.2.1 != 0)=true:=by
  rw [bne_iff_ne];intro e;rw [e] at hl;exact absurd hl.1 (by decide)
 unfold Aph
 rw [e1,e2,decide_eq_true (show 0≤Vh l p∧Vh l p<((Dh l).length:Int) from hc)]
 rfl
theorem Apk {l:TCT Am} {p:TCT cPt} (h:Cp l=0):A2r l p=bif onB l p then .leaf (Ay5 (As (Dh l) (Int.toNat (Vh l p)) (Aq D8)),0,()) else U2 5:=by
 cases ho:onB l p with
 | true =>
  have:=Apj h ho
  unfold A2r
  unfold onB at ho
  simp only [Bool.and_eq_true] at ho
  rw [ho.1,ho.2,this]
  rfl
 | false =>
  unfold A2r
  unfold onB at ho
  cases h1:inR p.1 0 l.2.1 with
  | false=>rfl
  | true =>
   rw [h1,Bool.true_and] at ho
   rw [ho]
   rfl
def Ace (l:TCT Am) (p:TCT cPt):TCTs [D8,cI]:=(((Lu l p).1,(Lu l p).2.1,(Lu l p).2.2.1,()),Gk l p,())
theorem B7c {l:TCT Am} {p:TCT cPt}:(bif A4p l p != 0 then U2 (A4p l p) else A2r l p:TCe).sat (fun y=>y=Ace l p):=by
 unfold Ace Lu Gk
 cases h1:A4p l p != 0 with
 | true =>
  have hne:(A4p l p==0)=false:=by
   rw [bne_iff_ne] at h1
   exact beq_eq_false_iff_ne.2 h1
  simp only [cond_true]
  rw [hne]
  exact rfl
 | false =>
  have hl:Cp l=0:=by
   unfold A4p at h1
   cases h2:Cp l != 0 with
   | true=>rw [h2,cond_true] at h1;rw [h2] at h1;cases h1
   | false=>exact bne_eq_false_iff_eq.1 h2
  simp only [cond_false]
  rw [Apk hl]
  cases onB l p <;> exact rfl
theorem Ag4 (x y:Int):(Hv x y != 0)=!fpt x y:=by unfold Hv;cases fpt x y <;> rfl
def plCe:List (Nat×PureT):=(70,Kp)::(120,s_inR)::plPs
theorem puCe:D3 Tryz.prog plCe:=puOk_cons is_tChk.plain Ml (puOk_cons is_between2.plain q_between2 puPs)
theorem Ay8 {l:TCT Am} {p:TCT cPt} (hs:(l.1.size:Int)≤B7 .i64):(Ay6 l p).sat (fun y=>y=Ace l p):=by
 have key:=B7c (l:=l) (p:=p)
 unfold Ay6
 rw [Ei hs,Ag4]
 unfold A4p at key
 cases h:Cp l != 0 with
 | true =>
  rw [h] at key
  simp only [cond_true] at key ⊢
  rw [h] at key
  exact key
 | false =>
  rw [h] at key
  simp only [cond_false] at key ⊢
  cases hf:fpt p.1 p.2.1 with
  | true=>rw [hf] at key;exact key
  | false=>rw [hf] at key;exact key
theorem Apl:A6 Tryz.prog 193 A7p:=Bl (L6 (u:=2) Ak puCe (fns_cons is_CellAt (fns_cons is_lchk (fns_cons is_lon A0)))) 7 (fun x=>Ay6 x.1 x.2.1) Ay7 fun x hok _=>Ay8 (of_decide_eq_true hok)
end St
end V
end Go.Proofs.YtlangijnealfjaaGreat
namespace Go.Proofs.YtlangijnealfjaaGreat
open Go.RowKit
namespace V
namespace St
theorem is_cGround:FnIs Tryz.prog (62,Tryz.f62):=⟨Tryz.func62,by kernel_rfl,by kernel_rfl⟩
def A2 (g:TCT cGr):List (TCT A3):=g.2.1
def okG (g:TCT cGr):Bool:=(A2 g).all I1&&Hw g.2.2.1.1 g.2.2.1.2.1
def groE (g:TCT cGr):Int:=bif Cp g.1 != 0 then Cp g.1 else bif decide (((A2 g).length:Int)<1)||decide (((A2 g).length:Int)>8) then 6 else bif okG g then 0 else 2
abbrev Ay9:PureT:=Bj [cGr] [cI] (fun x=>decide ((x.1.1.1.size:Int)≤B7 .i64)) (fun x=>(groE x.1,()))
def plG:List (Nat×PureT):=[(105,Vg),(124,Fu),(121,A76)]
theorem puG:D3 Tryz.prog plG:=puOk_cons is_lCheck.plain Rv (puOk_cons is_CheckBounce.plain Lh (puOk_cons is_cfBall.plain Ao2 (puOk_nil)))
def Apm (g:TCT cGr):TEr:=bif okE (Hw g.2.2.1.1 g.2.2.1.2.1)!=0 then .leaf (2,()) else .leaf (0,())
def T_G (g:TCT cGr):TEr:=szT g.1 (bif Cp g.1 != 0 then .leaf (Cp g.1,()) else er (decide (((A2 g).length:Int)<1)) 6 (er (decide (((A2 g).length:Int)>8)) 6 (er ((A2 g).any (Eh ())) 2 (Apm g))))
theorem B7d (x:TCTs [cGr]):D1 (ctx Tryz.prog plG [(62,Tryz.f62)]) 7 (.fn 62) (E7 [cGr] x) Ce 0 (Hx Tryz.prog [cI])=T_G x.1:=by kernel_rfl
theorem B7e {g:TCT cGr} (hs:(g.1.1.size:Int)≤B7 .i64):(T_G g).sat (fun y=>y=(groE g,())):=by
 unfold T_G groE okG Apm
 have hq:(A2 g).any (Eh ())=!(A2 g).all I1:=Ko I1 _
 rw [Ei hs,hq,Xl,← Ng]
 cases Cp g.1 != 0 with
 | true=>exact rfl
 | false =>
  simp only [cond_false]
  cases decide (((A2 g).length:Int)<1)||decide (((A2 g).length:Int)>8) with
  | true=>exact rfl
  | false=>cases (A2 g).all I1 <;> cases Hw g.2.2.1.1 g.2.2.1.2.1 <;> exact rfl
theorem Bhk:A6 Tryz.prog 62 Ay9:=Bl (Ap Ak puG (fns_cons is_cGround A0)) 7 (fun x=>T_G x.1) B7d fun x hok _=>B7e (of_decide_eq_true hok)
abbrev kGr:List SK:=[.d .s,.d cI,.d cI,.d cI,.d (.sl Bv),.d cI,.d cI,.d cI,.d cI,.d cI,.d (.sl D8),.d (.sl A3),.d cI,.d cI]
def B7f (x:SKTs kGr):TCT cGr:=((x.1,x.2.1,x.2.2.1,x.2.2.2.1,x.2.2.2.2.1,((x.2.2.2.2.2.1,x.2.2.2.2.2.2.1,()),x.2.2.2.2.2.2.2.1,()),x.2.2.2.2.2.2.2.2.1,x.2.2.2.2.2.2.2.2.2.1,x.2.2.2.2.2.2.2.2.2.2.1,()),x.2.2.2.2.2.2.2.2.2.2.2.1,(x.2.2.2.2.2.2.2.2.2.2.2.2.1,x.2.2.2.2.2.2.2.2.2.2.2.2.2.1,()),())
def J5 (g:TCT cGr):SKTs kGr:=(g.1.1,g.1.2.1,g.1.2.2.1,g.1.2.2.2.1,g.1.2.2.2.2.1,g.1.2.2.2.2.2.1.1.1,g.1.2.2.2.2.2.1.1.2.1,g.1.2.2.2.2.2.1.2.1,g.1.2.2.2.2.2.2.1,g.1.2.2.2.2.2.2.2.1,g.1.2.2.2.2.2.2.2.2.1,g.2.1,g.2.2.1.1,g.2.2.1.2.1,())
def Acf:Lay:={ keys:=[1,3],ks:=[.p 0 0 0 0,.d cI],bs:=[(0,64,kGr)],n:=39,nx:=1000,marks:=[] }
def Bhl:Lay:={ keys:=[1],ks:=[.p 0 0 0 0],bs:=[(0,64,kGr)],n:=39,nx:=1000,marks:=[] }
def Bcw:Lay:={ keys:=[2],ks:=[.d cI],bs:=[],n:=39,nx:=1000,marks:=[] }
def Acg:XE→Lay:=fun e=>match e with | .ret=>Bcw | _=>Bhl
def Apn (x:SKTs kGr) (i:Int):Acf.T:=(((),i,()),(x,()))
def Apo:A1 Acg:=⟨.ret,((2,()),())⟩
def App (x:SKTs kGr):A1 Acg:=⟨.exit 0,(((),()),(x,()))⟩
def blX (x:SKTs kGr):List (TCT A3):=x.2.2.2.2.2.2.2.2.2.2.2.1
def Ag5 (b:TCT A3):Bool:=okE (Jc b.1 b.2.1)!=0
def Ag6 (g:Acf.T):Tree (Acf.T⊕A1 Acg):=bif decide (g.1.2.1<((blX g.2.1).length:Int)) then bif decide (0≤g.1.2.1∧g.1.2.1<((blX g.2.1).length:Int)) then
 bif Ag5 (As (blX g.2.1) (Int.toNat g.1.2.1) (Aq A3)) then .leaf (.inr Apo) else .leaf (.inl (Apn g.2.1 (W64 (g.1.2.1+1)))) else .fail else .leaf (.inr (App g.2.1))
def Apq (g:Acf.T):Nat:=(blX g.2.1).length+1
def Apr (x:SKTs kGr):Option (A1 Acg):=iter Ag6 ((blX x).length+1) (Apn x 0)
def Ayb (g:TCT cGr):TEr:=szT g.1 (bif Cp g.1 != 0 then szT g.1 (.leaf (Cp g.1,())) else er (decide (((A2 g).length:Int)<1)) 6 (er (decide (((A2 g).length:Int)>8)) 6 (
 bif isE .ret (Apr (J5 g)) then .leaf ((C2 .ret (Apr (J5 g))).1.1,()) else bif isE (.exit 0) (Apr (J5 g)) then Apm (B7f (C2 (.exit 0) (Apr (J5 g))).2.1) else .fail)))
theorem Ayd {g:TCT cGr} (hs:(g.1.1.size:Int)≤B7 .i64) (hb:((A2 g).length:Int)≤B7 .i64):(Ayb g).sat (fun y=>y=(groE g,())):=by
 have hy:Apr (J5 g)=some (bif (blX (J5 g)).any Ag5 then Apo else App (J5 g)):=Ny (blX (J5 g)) (Aq A3) (Apn (J5 g)) Ag5 Apo (App (J5 g)) hb (fun _=>rfl)
 have hq:(blX (J5 g)).any Ag5=!(A2 g).all I1:=by
  rw [← Ko I1]
  exact P4 fun b _=>Xl _
 rw [hq] at hy
 unfold Ayb groE okG
 rw [Ei hs,Ei hs,hy,← Ng]
 cases Cp g.1 != 0 with
 | true=>exact rfl
 | false =>
  simp only [cond_false]
  cases decide (((A2 g).length:Int)<1)||decide (((A2 g).length:Int)>8) with
  | true=>exact rfl
  | false =>
   cases (A2 g).all I1 with
   | false=>exact rfl
   | true =>
    show (Apm g).sat _
    unfold Apm
    rw [Xl]
    cases Hw g.2.2.1.1 g.2.2.1.2.1 <;> exact rfl
end St
end V
end Go.Proofs.YtlangijnealfjaaGreat
namespace Go.Proofs.YtlangijnealfjaaGreat
open Go.RowKit
namespace V
namespace St
theorem is_sOn:FnIs Tryz.prog (63,Tryz.f63):=⟨Tryz.func63,by kernel_rfl,by kernel_rfl⟩
abbrev A7r:PureT:=Bj [Am,cPt] [.b] (fun _=>true) (fun x=>(onB x.1 x.2.1,()))
def Bcz (l:TCT Am) (p:TCT cPt):TBo:=Rl (decide (0≤p.1)) (Rl (decide (p.1≤l.2.1)) (Rl (decide (0≤p.2.1)) (.leaf (decide (p.2.1≤l.2.2.1),()))))
theorem B7g (l:TCT Am) (p:TCT cPt):onB l p=(decide (0≤p.1)&&(decide (p.1≤l.2.1)&&(decide (0≤p.2.1)&&decide (p.2.1≤l.2.2.1)))):=by
 unfold onB inR
 simp only [Bool.and_assoc]
theorem B4i:A6 Tryz.prog 63 A7r:=Bl (Ap Ak puOk_nil (fns_cons is_sOn A0)) 4 (fun x=>Bcz x.1 x.2.1) (fun x=>by kernel_rfl) fun x _ _=>by
 show (Bcz x.1 x.2.1).sat (fun y=>y=(onB x.1 x.2.1,()))
 rw [B7g]
 exact Gr (Gr (Gr (A2c _)))
end St
end V
end Go.Proofs.YtlangijnealfjaaGreat
namespace Go.Proofs.YtlangijnealfjaaGreat
open Go.RowKit
namespace V
namespace St
theorem is_cState:FnIs Tryz.prog (64,Tryz.f64):=⟨Tryz.func64,by kernel_rfl,by kernel_rfl⟩
abbrev kSt:List SK:=[.d (.sl B0),.d (.sl .b),.d cI,.d cI,.d cI]
abbrev bsS:List BK:=[(0,64,kGr),(1,76,kSt)]
def plS1:List (Nat×PureT):=[(62,Ay9),(125,Gm),(63,A7r)]
theorem puS1:D3 Tryz.prog plS1:=puOk_cons is_cGround.plain Bhk (puOk_cons is_CheckMotion.plain Q2 (puOk_cons is_sOn.plain B4i (puOk_nil)))
def inN {β:Type} (n:Nat) (i:Int) (k:Tree β):Tree β:=bif decide (0≤i∧i<(n:Int)) then k else .fail
theorem F3 {β:Type} {n:Nat} {i:Int} {k:Tree β} (h:0≤i∧i<(n:Int)):inN n i k=k:=by unfold inN;rw [decide_eq_true h];rfl
def Mj (b:TCT A3) (m:TCT B0):Bool:=Qo b.1 b.2.1 m.1.1 m.1.2.1 m.2.1.1 m.2.1.2.1 m.2.2.1.1 m.2.2.1.2.1
def atM (m:TCT B0):TCT cPt:=(m.1.1,m.1.2.1,())
def Ach {β:Type} (no:Nat) (i:Int) (o:Bool) (m:TCT B0) (rt nx:Tree β):Tree β:=inN no i (bif o then bif !(m.2.1.1==0&&(m.2.1.2.1==0&&true)) then rt else nx else nx)
def Xy {β:Type} (nb no:Nat) (i:Int) (l:TCT Am) (b:TCT A3) (o:Bool) (m:TCT B0) (rt nx:Tree β):Tree β :=
 inN nb i (bif okE (Mj b m)!=0 then rt else inN no i (bif !o then bif !onB l (atM m) then rt else Ach no i o m rt nx else Ach no i o m rt nx))
def lwG (x:SKTs kGr):TCT Am:=(B7f x).1
noncomputable def Bd1:Code:=(Al (bodyOf Tryz.f64)).getD 0 .skip
def A7s:Lay:={ keys:=[2,3,30,31,32],ks:=[.p 0 0 0 0,.p 1 0 0 0,.d (.sl B0),.d cI,.d cI],bs:=bsS,n:=106,nx:=1000,marks:=[] }
def Bhn:Lay:={ keys:=[2,3],ks:=[.p 0 0 0 0,.p 1 0 0 0],bs:=bsS,n:=106,nx:=1000,marks:=[] }
def Bd2:Lay:={ keys:=[4],ks:=[.d cI],bs:=[],n:=106,nx:=1000,marks:=[] }
def A4q:XE→Lay:=fun e=>match e with | .ret=>Bd2 | _=>Bhn
def Ag7 (x:SKTs kGr) (s:SKTs kSt) (m:List (TCT B0)) (n i:Int):A7s.T:=(((),(),m,n,i,()),(x,s,()))
def Ag8:A1 A4q:=⟨.ret,((2,()),())⟩
def Aps (x:SKTs kGr) (s:SKTs kSt):A1 A4q:=⟨.exit 0,(((),(),()),(x,s,()))⟩
def otS (s:SKTs kSt):List Bool:=s.2.1
def Ag9 (g:A7s.T):Tree (A7s.T⊕A1 A4q):=bif decide (g.1.2.2.2.2.1<g.1.2.2.2.1) then bif decide (0≤g.1.2.2.2.2.1∧g.1.2.2.2.2.1<((g.1.2.2.1:List (TCT B0)).length:Int)) then
 Xy (blX g.2.1).length (otS g.2.2.1).length g.1.2.2.2.2.1 (lwG g.2.1) (As (blX g.2.1) (Int.toNat g.1.2.2.2.2.1) (Aq A3)) (As (otS g.2.2.1) (Int.toNat g.1.2.2.2.2.1) (Aq .b)) (As g.1.2.2.1 (Int.toNat g.1.2.2.2.2.1) (Aq B0))
  (.leaf (.inr Ag8)) (.leaf (.inl (Ag7 g.2.1 g.2.2.1 g.1.2.2.1 g.1.2.2.2.1 (W64 (g.1.2.2.2.2.1+1))))) else .fail else .leaf (.inr (Aps g.2.1 g.2.2.1))
def Apt (g:A7s.T):Nat:=(g.1.2.2.1:List (TCT B0)).length+1
theorem Bho:Aw Tryz.prog 64 Bd1 (Ar A7s A4q (D7 [.ret,.exit 0] Ag9 Apt)):=B8 (Ap Ak puS1 A0) 7 _ A7s A4q (fun e=>by cases e <;> exact Nat.le_refl _) [.ret,.exit 0] Ag9 Apt (fun g=>by kernel_rfl)
end St
end V
end Go.Proofs.YtlangijnealfjaaGreat
namespace Go.Proofs.YtlangijnealfjaaGreat
open Go.RowKit
namespace V
namespace St
def A4r:Lay:={ keys:=[2,3,5],ks:=[.p 0 0 0 0,.p 1 0 0 0,.d cI],bs:=bsS,n:=103,nx:=1000,marks:=[] }
def Bhp:Lay:={ keys:=[2,3],ks:=[.p 0 0 0 0,.p 1 0 0 0],bs:=bsS,n:=103,nx:=1000,marks:=[] }
def Bd4:Lay:={ keys:=[4],ks:=[.d cI],bs:=[],n:=103,nx:=1000,marks:=[] }
def A1q:XE→Lay:=fun e=>match e with | .ret=>Bd4 | _=>Bhp
def A7t (x:SKTs kGr) (s:SKTs kSt) (i:Int):A4r.T:=(((),(),i,()),(x,s,()))
def A7u:A1 A1q:=⟨.ret,((2,()),())⟩
def Aga (x:SKTs kGr) (s:SKTs kSt):A1 A1q:=⟨.exit 0,(((),(),()),(x,s,()))⟩
def msS (s:SKTs kSt):List (TCT B0):=s.1
def Agb (g:A4r.T):Tree (A4r.T⊕A1 A1q):=bif decide (g.1.2.2.1<((blX g.2.1).length:Int)) then inN (msS g.2.2.1).length g.1.2.2.1 (
 Xy (blX g.2.1).length (otS g.2.2.1).length g.1.2.2.1 (lwG g.2.1) (As (blX g.2.1) (Int.toNat g.1.2.2.1) (Aq A3)) (As (otS g.2.2.1) (Int.toNat g.1.2.2.1) (Aq .b)) (As (msS g.2.2.1) (Int.toNat g.1.2.2.1) (Aq B0))
  (.leaf (.inr A7u)) (.leaf (.inl (A7t g.2.1 g.2.2.1 (W64 (g.1.2.2.1+1)))))) else .leaf (.inr (Aga g.2.1 g.2.2.1))
def Apu (g:A4r.T):Nat:=(blX g.2.1).length+1
end St
end V
end Go.Proofs.YtlangijnealfjaaGreat
namespace Go.Proofs.YtlangijnealfjaaGreat
open Go.RowKit
namespace V
namespace St
def Lv (s:TCT cSt):SKTs kSt:=(s.1,s.2.1,s.2.2.1,s.2.2.2.1,s.2.2.2.2.1,())
def A7v (s:SKTs kSt):TCT cSt:=(s.1,s.2.1,s.2.2.1,s.2.2.2.1,s.2.2.2.2.1,())
def msT (s:TCT cSt):List (TCT B0):=s.1
def osT (s:TCT cSt):List Bool:=s.2.1
def okO (l:TCT Am) (b:TCT A3) (o:Bool) (m:TCT B0):Bool:=Mj b m&&(bif o then m.2.1.1==0&&(m.2.1.2.1==0&&true) else onB l (atM m))
def okS (g:TCT cGr) (os:List Bool) (i:Nat) (m:TCT B0):Bool:=okO g.1 (As (A2 g) i (Aq A3)) (As os i (Aq .b)) m
theorem A2s {G E:Type} {nb no:Nat} {i:Int} {l:TCT Am} {b:TCT A3} {o:Bool} {m:TCT B0} {rt:E} {nx:G} (h1:0≤i∧i<(nb:Int)) (h2:0≤i∧i<(no:Int)) :
  (Xy nb no i l b o m (.leaf (.inr rt)) (.leaf (.inl nx)):Tree (G⊕E)).run=some (bif okO l b o m then .inl nx else .inr rt):=by
 unfold Xy Ach okO
 rw [F3 h1,Xl,F3 h2,F3 h2]
 cases Mj b m with
 | false=>rfl
 | true =>
  cases o with
  | false=>cases onB l (atM m) <;> rfl
  | true=>cases m.2.1.1==0&&(m.2.1.2.1==0&&true) <;> rfl
def Bd5 (g:TCT cGr) (s:TCT cSt):Option (A1 A4q):=iter Ag9 ((msT s).length+1) (Ag7 (J5 g) (Lv s) s.1 (msT s).length 0)
def B7h (g:TCT cGr) (s:TCT cSt):Option (A1 A1q):=iter Agb ((A2 g).length+1) (A7t (J5 g) (Lv s) 0)
theorem Aye {g:TCT cGr} {s:TCT cSt} (h1:(msT s).length=(A2 g).length) (h2:(osT s).length=(A2 g).length) (hm:((msT s).length:Int)≤B7 .i64) :
  Bd5 g s=some (bif I2 (okS g (osT s)) 0 (msT s) then Aps (J5 g) (Lv s) else Ag8):=by
 refine Xw (msT s) (Aq B0) (fun i=>Ag7 (J5 g) (Lv s) s.1 (msT s).length i) (okS g (osT s))
  (fun i m=>Xy (A2 g).length (osT s).length i g.1 (As (A2 g) (Int.toNat i) (Aq A3)) (As (osT s) (Int.toNat i) (Aq .b)) m (.leaf (.inr Ag8)) (.leaf (.inl (Ag7 (J5 g) (Lv s) s.1 (msT s).length (W64 (i+1))))):Int→TCT B0→Tree (A7s.T⊕A1 A4q)) Ag8 (Aps (J5 g) (Lv s)) hm (fun i=>rfl) fun i hi=>?_
 rw [A2s (by omega) (by omega),show Int.toNat (i:Int)=i from rfl,Ey hi hm]
 rfl
theorem Ayf {g:TCT cGr} {s:TCT cSt} (h1:(msT s).length=(A2 g).length) (h2:(osT s).length=(A2 g).length) (hm:((msT s).length:Int)≤B7 .i64) :
  B7h g s=some (bif I2 (okS g (osT s)) 0 (msT s) then Aga (J5 g) (Lv s) else A7u):=by
 unfold B7h
 rw [← h1]
 refine Xw (msT s) (Aq B0) (fun i=>A7t (J5 g) (Lv s) i) (okS g (osT s))
  (fun i m=>Xy (A2 g).length (osT s).length i g.1 (As (A2 g) (Int.toNat i) (Aq A3)) (As (osT s) (Int.toNat i) (Aq .b)) m (.leaf (.inr A7u)) (.leaf (.inl (A7t (J5 g) (Lv s) (W64 (i+1))))):Int→TCT B0→Tree (A4r.T⊕A1 A1q)) A7u (Aga (J5 g) (Lv s)) hm (fun i=>?_) fun i hi=>?_
 ·show (bif decide (i<((A2 g).length:Int)) then inN (msT s).length i (Xy (A2 g).length (osT s).length i g.1 (As (A2 g) (Int.toNat i) (Aq A3)) (As (osT s) (Int.toNat i) (Aq .b)) (As (msT s) (Int.toNat i) (Aq B0)) (.leaf (.inr A7u)) (.leaf (.inl (A7t (J5 g) (Lv s) (W64 (i+1)))))) else .leaf (.inr (Aga (J5 g) (Lv s))):Tree (A4r.T⊕A1 A1q))=_
  rw [← h1]
  rfl
 ·rw [A2s (by omega) (by omega),show Int.toNat (i:Int)=i from rfl,Ey hi hm]
  rfl
def A4s (n:Int) (s:TCT cSt):Bool:=decide (s.2.2.1<0)||(decide (s.2.2.1≥n)||(decide (s.2.2.2.1<0)||(decide (s.2.2.2.1>8)||(decide (s.2.2.2.2.1<0)||decide (s.2.2.2.2.1>4000)))))
def A1r (g:TCT cGr) (s:TCT cSt):Bool:=(((msT s).length:Int)==((A2 g).length:Int))&&(((osT s).length:Int)==((A2 g).length:Int))
def vaE (g:TCT cGr) (s:TCT cSt):Int:=bif A1r g s then bif I2 (okS g (osT s)) 0 (msT s) then bif A4s (A2 g).length s then 2 else 0 else 2 else 17
def K5 (g:TCT cGr) (s:TCT cSt):Int:=bif groE g != 0 then groE g else vaE g s
abbrev Bd6:PureT:=Bj [cGr,cSt] [cI] (fun _=>true) (fun x=>(vaE x.1 x.2.1,()))
abbrev Agc:PureT:=Bj [cGr,cSt] [cI] (fun x=>decide ((x.1.1.1.size:Int)≤B7 .i64)) (fun x=>(K5 x.1 x.2.1,()))
end St
end V
end Go.Proofs.YtlangijnealfjaaGreat
namespace Go.Proofs.YtlangijnealfjaaGreat
open Go.RowKit
namespace V
namespace St
def Apv (n:Int) (s:TCT cSt):TEr:=er (decide (s.2.2.1<0)) 2 (er (decide (s.2.2.1≥n)) 2 (er (decide (s.2.2.2.1<0)) 2 (er (decide (s.2.2.2.1>8)) 2 (er (decide (s.2.2.2.2.1<0)) 2 (er (decide (s.2.2.2.2.1>4000)) 2 (.leaf (0,())))))))
theorem Ayg (n:Int) (s:TCT cSt):Apv n s=er (A4s n s) 2 (.leaf (0,())):=by
 unfold Apv A4s
 rw [Ng,Ng,Ng,Ng,Ng]
def Apw (g:TCT cGr) (s:TCT cSt) (k:TEr):TEr:=er (((msT s).length:Int)!=((A2 g).length:Int)) 17 (er (((osT s).length:Int)!=((A2 g).length:Int)) 17 k)
theorem Ayh (g:TCT cGr) (s:TCT cSt) (k:TEr):Apw g s k=er (!A1r g s) 17 k:=by
 unfold Apw A1r
 rw [← Ng]
 congr 1
 cases h1:((msT s).length:Int)==((A2 g).length:Int) <;> cases h2:((osT s).length:Int)==((A2 g).length:Int) <;> simp [bne,h1,h2]
theorem Xz {g:TCT cGr} {s:TCT cSt} (h:A1r g s=true):(msT s).length=(A2 g).length∧(osT s).length=(A2 g).length:=by
 unfold A1r at h
 simp only [Bool.and_eq_true,beq_iff_eq] at h
 omega
def Bhr (g:TCT cGr) (y:Option (A1 A4q)):TEr:=bif isE .ret y then .leaf ((C2 .ret y).1.1,()) else bif isE (.exit 0) y then Apv (blX (C2 (.exit 0) y).2.1).length (A7v (C2 (.exit 0) y).2.2.1) else .fail
def Bhs (g:TCT cGr) (y:Option (A1 A1q)):TEr:=bif isE .ret y then .leaf ((C2 .ret y).1.1,()) else bif isE (.exit 0) y then Apv (blX (C2 (.exit 0) y).2.1).length (A7v (C2 (.exit 0) y).2.2.1) else .fail
def B7i (g:TCT cGr) (s:TCT cSt):TEr:=szT g.1 (bif groE g != 0 then .leaf (groE g,()) else Apw g s (Bhr g (Bd5 g s)))
def B7j (g:TCT cGr) (s:TCT cSt):TEr:=Apw g s (Bhs g (B7h g s))
theorem Apx {g:TCT cGr} {s:TCT cSt} {k:TEr} (h:A1r g s=true→k=bif I2 (okS g (osT s)) 0 (msT s) then Apv (A2 g).length s else .leaf (2,())):(Apw g s k).sat (fun y=>y=(vaE g s,())):=by
 rw [Ayh]
 unfold vaE
 cases he:A1r g s with
 | false=>exact rfl
 | true =>
  rw [h he]
  cases I2 (okS g (osT s)) 0 (msT s) with
  | false=>exact rfl
  | true =>
   simp only [Bool.not_true,cond_true]
   rw [Ayg]
   cases A4s (A2 g).length s <;> exact rfl
theorem Ayi {g:TCT cGr} {s:TCT cSt} (hs:(g.1.1.size:Int)≤B7 .i64) (hm:((msT s).length:Int)≤B7 .i64):(B7i g s).sat (fun y=>y=(K5 g s,())):=by
 unfold B7i K5
 rw [Ei hs]
 cases groE g != 0 with
 | true=>exact rfl
 | false =>
  simp only [cond_false]
  refine Apx fun he=>?_
  obtain ⟨h1,h2⟩:=Xz he
  rw [Aye h1 h2 hm]
  cases I2 (okS g (osT s)) 0 (msT s) <;> rfl
theorem Ayj {g:TCT cGr} {s:TCT cSt} (hm:((msT s).length:Int)≤B7 .i64):(B7j g s).sat (fun y=>y=(vaE g s,())):=by
 unfold B7j
 refine Apx fun he=>?_
 obtain ⟨h1,h2⟩:=Xz he
 rw [Ayf h1 h2 hm]
 cases I2 (okS g (osT s)) 0 (msT s) <;> rfl
noncomputable def Bht:Ctx:=G4 Tryz.prog plS1 [(64,Tryz.f64)] [((64,7),Ar A7s A4q (D7 [.ret,.exit 0] Ag9 Apt))]
theorem Ayk:CtxOk Bht:=Bs Ak puS1 (fns_cons is_cState A0) (Cc (by kernel_rfl) (by kernel_rfl) Bho)
theorem Ayl:A6 Tryz.prog 64 Agc:=Bl Ayk 7 (fun x=>B7i x.1 x.2.1) (fun x=>by kernel_rfl) fun x hok hw=>Ayi (of_decide_eq_true hok) (Dl hw.2.1.1)
def plS2:List (Nat×PureT):=plS1
theorem puS2:D3 Tryz.prog plS2:=puS1
end St
end V
end Go.Proofs.YtlangijnealfjaaGreat
namespace Go.Proofs.YtlangijnealfjaaGreat
open Go.RowKit
namespace V
def Ax {S B:Type} (f:Nat→S→S⊕B):Nat→Nat→S→S⊕B
 | _,0,s=>.inl s
 | i,k+1,s=>match f i s with
  | .inl s'=>Ax f (i+1) k s'
  | .inr b=>.inr b
def Aq0 {G E S B:Type} (hd:Nat→S→G) (res:S⊕B→E) (i:Nat):S⊕B→G⊕E
 | .inl s=>.inl (hd (i+1) s)
 | .inr b=>.inr (res (.inr b))
theorem J6 {G E S B:Type} {st:G→Tree (G⊕E)} (n:Nat) (hd:Nat→S→G) (f:Nat→S→S⊕B) (res:S⊕B→E) (Inv:Nat→S→Prop)
  (h1:∀ i s,i<n→Inv i s→(st (hd i s)).run=some (Aq0 hd res i (f i s)))
  (h2:∀ i s s',i<n→Inv i s→f i s=.inl s'→Inv (i+1) s')
  (h3:∀ s,Inv n s→(st (hd n s)).run=some (.inr (res (.inl s)))) :
  ∀ (k i:Nat) (s:S),i+k=n→Inv i s→iter st (k+1) (hd i s)=some (res (Ax f i k s))
 | 0,i,s,hk,hi=>by
  have e:i=n:=by omega
  subst e
  exact G7 (h3 s hi)
 | k+1,i,s,hk,hi=>by
  have hlt:i<n:=by omega
  have hr:=h1 i s hlt hi
  unfold Ax
  cases hf:f i s with
  | inl s' =>
   rw [hf] at hr
   rw [Ez hr]
   exact J6 n hd f res Inv h1 h2 h3 k (i+1) s' (by omega) (h2 i s s' hlt hi hf)
  | inr b =>
   rw [hf] at hr
   exact G7 hr
theorem B6 {S B:Type} {f:Nat→S→S⊕B} {Inv:Nat→S→Prop} {n:Nat} (h2:∀ i s s',i<n→Inv i s→f i s=.inl s'→Inv (i+1) s'):∀ (k i:Nat) (s s':S),i+k=n→Inv i s→Ax f i k s=.inl s'→Inv n s'
 | 0,i,s,s',hk,hi,h=>by
  have e:i=n:=by omega
  subst e
  cases h
  exact hi
 | k+1,i,s,s',hk,hi,h=>by
  unfold Ax at h
  cases hf:f i s with
  | inl t=>rw [hf] at h;exact B6 h2 k (i+1) t s' (by omega) (h2 i s t (by omega) hi hf) h
  | inr b=>rw [hf] at h;cases h
theorem Hi {β:Type} {h w:List β} {b:Nat} (k:h.length+w.length≤1000000) (hb:b≤48):Df h w b=true:=by
 rw [G2,decide_eq_true_iff]
 have h1:((h.length+w.length:Nat):Int)≤1000000:=by omega
 have h2:(b:Int)≤48:=by omega
 calc ((h.length+w.length:Nat):Int)*b≤1000000*48:=Int.mul_le_mul h1 h2 (by omega) (by decide)
  _≤140737488355328:=by decide
namespace St
theorem is_sLie:FnIs Tryz.prog (24,Tryz.f24):=⟨Tryz.func24,by kernel_rfl,by kernel_rfl⟩
theorem is_sstill:FnIs Tryz.prog (69,Tryz.f69):=⟨Tryz.func69,by kernel_rfl,by kernel_rfl⟩
abbrev kSo:List SK:=[.o 84 B0,.o 4 .b,.d cI,.d cI,.d cI]
noncomputable def Bd7:Code:=(Al (bodyOf Tryz.f24)).getD 0 .skip
abbrev B4j:List BK:=[(0,64,kGr),(1,76,kSt),(3,76,kSo)]
def Aci:Lay:={ keys:=[2,4,7,27,28,29],ks:=[.p 0 0 0 0,.p 1 0 0 0,.p 3 0 0 0,.d (.sl cPt),.d cI,.d cI],bs:=B4j,n:=48,nx:=1000,marks:=[] }
def Bhv:Lay:={ keys:=[4,7],ks:=[.p 1 0 0 0,.p 3 0 0 0],bs:=[(1,76,kSt),(3,76,kSo)],n:=48,nx:=1000,marks:=[] }
def Bd8:Lay:={ keys:=[4,5],ks:=[.p 1 0 0 0,.d cI],bs:=[(1,76,kSt)],n:=48,nx:=1000,marks:=[] }
def A4t:XE→Lay:=fun e=>match e with | .ret=>Bd8 | _=>Bhv
def Bhw:Lay:={ keys:=[1,2,4,6,7],ks:=[.d (.sl cPt),.p 0 0 0 0,.p 1 0 0 0,.p 3 0 0 0,.d cI],bs:=B4j,n:=51,nx:=1000,marks:=[] }
def Bhx:Lay:={ keys:=[4,6],ks:=[.p 1 0 0 0,.p 3 0 0 0],bs:=[(1,76,kSt),(3,76,kSo)],n:=51,nx:=1000,marks:=[] }
def Bd9:Lay:={ keys:=[4,5],ks:=[.p 1 0 0 0,.d cI],bs:=[(1,76,kSt)],n:=51,nx:=1000,marks:=[] }
def Bhy:XE→Lay:=fun e=>match e with | .ret=>Bd9 | _=>Bhx
def Ajw (p:TCT cPt):TCT B0:=((p.1,p.2.1,()),(0,0,()),(0,0,()),())
def Aq1 (p:TCT cPt):TCT cPt:=(p.1,p.2.1,())
def B4k {β:Type} (p:TCT cPt) (ms:List (TCT B0)) (nx:List (TCT B0)→Tree β):Tree β:=bif Df ms [Ajw p] 48 then nx (ms++[Ajw p]) else .fail
def Agd (x:SKTs kGr) (r q:SKTs kSt) (p:List (TCT cPt)) (n i:Int) (ms:List (TCT B0)):Aci.T:=(((),(),(),p,n,i,()),(x,r,(ms,q.2),()))
def B4l:A1 A4t:=⟨.ret,(((),2,()),(([],[],0,0,0,()),()))⟩
def B4m (r q:SKTs kSt) (ms:List (TCT B0)):A1 A4t:=⟨.exit 0,(((),(),()),(r,(ms,q.2),()))⟩
abbrev TLi:=Tree (Aci.T⊕A1 A4t)
def Y0 (x:SKTs kGr) (r q:SKTs kSt) (p:List (TCT cPt)) (n i:Int) (ms:List (TCT B0)):TLi:=bif decide (i<n) then inN p.length i (
 bif !onB (lwG x) (Aq1 (As p (Int.toNat i) (Aq cPt))) then .leaf (.inr B4l) else B4k (As p (Int.toNat i) (Aq cPt)) ms fun ms'=>.leaf (.inl (Agd x r q p n (W64 (i+1)) ms'))) else .leaf (.inr (B4m r q ms))
def A7w (g:Aci.T):TLi:=Y0 g.2.1 g.2.2.1 g.2.2.2.1 g.1.2.2.2.1 g.1.2.2.2.2.1 g.1.2.2.2.2.2.1 g.2.2.2.1.1
def Aq2 (g:Aci.T):Nat:=(g.1.2.2.2.1:List (TCT cPt)).length+1
theorem Bhz:Aw Tryz.prog 24 Bd7 (Ar Aci A4t (D7 [.ret,.exit 0] A7w Aq2)):=B8 (Ap Ak puS1 A0) 7 _ Aci A4t (fun e=>by cases e <;> exact Nat.le_refl _) [.ret,.exit 0] A7w Aq2 (fun g=>by kernel_rfl)
abbrev TRl:=Tree (Bhw.T⊕A1 Bhy)
def Ayn (l:TCT Am) (p:List (TCT cPt)) (i:Nat):Bool:=onB l (Aq1 (As p i (Aq cPt)))
def f_li (l:TCT Am) (p:List (TCT cPt)) (i:Nat) (ms:List (TCT B0)):List (TCT B0)⊕Unit:=bif Ayn l p i then .inl (ms++[Ajw (As p i (Aq cPt))]) else .inr ()
def Acj (r q:SKTs kSt):List (TCT B0)⊕Unit→A1 A4t
 | .inl ms=>B4m r q ms
 | .inr _=>B4l
theorem B7k {l:TCT Am} {p:List (TCT cPt)} (i:Nat) (s s':List (TCT B0)) (_:i<p.length) (hi:s.length=i) (h:f_li l p i s=.inl s'):s'.length=i+1:=by
 unfold f_li at h
 cases ho:Ayn l p i with
 | true=>rw [ho] at h;cases h;simp [hi]
 | false=>rw [ho] at h;cases h
theorem Bda {x:SKTs kGr} {r q:SKTs kSt} {p:List (TCT cPt)} (hp:p.length≤100):iter A7w (p.length+1) (Agd x r q p p.length 0 [])=some (Acj r q (Ax (f_li (lwG x) p) 0 p.length [])):=by
 have hp':(p.length:Int)≤B7 .i64:=by show (p.length:Int)≤9223372036854775807;omega
 refine J6 p.length (fun i ms=>Agd x r q p p.length i ms) (f_li (lwG x) p) (Acj r q) (fun i ms=>ms.length=i) (fun i ms hi hl=>?_) B7k (fun ms hl=>?_) p.length 0 [] (by omega) rfl
 ·show (Y0 x r q p p.length (i:Int) ms).run=_
  unfold Y0 f_li Ayn B4k
  rw [decide_eq_true (show (i:Int)<(p.length:Int) by omega),F3 (by omega),show Int.toNat (i:Int)=i from rfl,Hi (by simp;omega) (by decide),Ey hi hp']
  cases onB (lwG x) (Aq1 (As p i (Aq cPt))) <;> rfl
 ·show (Y0 x r q p p.length (p.length:Int) ms).run=_
  unfold Y0
  rw [decide_eq_false (show ¬ (p.length:Int)<(p.length:Int) by omega)]
  rfl
end St
end V
end Go.Proofs.YtlangijnealfjaaGreat
namespace Go.Proofs.YtlangijnealfjaaGreat
open Go.RowKit
namespace V
namespace St
abbrev plS3:List (Nat×PureT):=(64,Agc)::(132,Afn)::plS2
theorem puS3:D3 Tryz.prog plS3:=puOk_cons is_cState.plain Ayl (puOk_cons is_cfMot.plain Axa puS2)
def r0:SKTs kSt:=([],[],0,0,0,())
def q0 (p:List (TCT cPt)):SKTs kSt:=([],List.replicate (Int.toNat (p.length:Int)) false,0,0,0,())
def zS:TCT cSt:=([],[],0,0,0,())
abbrev TLs:=Tree (TCTs [cSt,cI])
def erS (c:Bool) (e:Int) (k:TLs):TLs:=bif c then .leaf (zS,e,()) else k
def Bdb (g:TCT cGr) (p:List (TCT cPt)):Option (A1 A4t):=iter A7w (p.length+1) (Agd (J5 g) r0 (q0 p) p p.length 0 [])
def mkT {β:Type} (n:Int) (k:Tree β):Tree β:=bif decide (0≤n∧n≤n∧n≤65536∧((1:Nat):Int)*n≤281474976710656) then k else .fail
theorem B7l {β:Type} {n:Int} {k:Tree β} (h0:0≤n) (h:n≤65536):mkT n k=k:=by
 unfold mkT
 rw [decide_eq_true (by omega)];rfl
def stO (s:SKTs kSo):TCT cSt:=(s.1,s.2.1,s.2.2.1,s.2.2.2.1,s.2.2.2.2.1,())
def Bi0 (y:Option (A1 A4t)):TLs:=bif isE .ret y then .leaf (A7v (C2 .ret y).2.1,(C2 .ret y).1.2.1,()) else bif isE (.exit 0) y then .leaf (stO (C2 (.exit 0) y).2.2.1,0,()) else .fail
def A7x (a b:Nat):Bool:=(a:Int)!=(b:Int)
def B7m (g:TCT cGr) (p:List (TCT cPt)):TLs:=szT g.1 (erS (groE g != 0) (groE g) (erS (A7x p.length (A2 g).length) 17 (mkT p.length (Bi0 (Bdb g p)))))
def Bdc (p:List (TCT cPt)):List (TCT B0)⊕Unit→TCTs [cSt,cI]
 | .inl ms=>((ms,List.replicate p.length false,0,0,0,()),0,())
 | .inr _=>(zS,2,())
def Hd (g:TCT cGr) (p:List (TCT cPt)):TCTs [cSt,cI]:=bif groE g != 0 then (zS,groE g,()) else bif A7x p.length (A2 g).length then (zS,17,()) else Bdc p (Ax (f_li g.1 p) 0 p.length [])
def etaS (s:TCT cSt):TCT cSt:=(s.1,s.2.1,s.2.2.1,s.2.2.2.1,s.2.2.2.2.1,())
abbrev B4n:PureT:=Bj [cGr,.sl cPt] [cSt,cI] (fun x=>decide ((x.1.1.1.size:Int)≤B7 .i64)) (fun x=>(etaS (Hd x.1 x.2.1).1,(Hd x.1 x.2.1).2.1,()))
theorem Age {g:TCT cGr} (h:groE g=0):1≤(A2 g).length∧(A2 g).length≤8:=by
 unfold groE at h
 cases h1:Cp g.1 != 0 with
 | true=>rw [h1,cond_true] at h;rw [h] at h1;cases h1
 | false =>
  rw [h1,cond_false] at h
  cases h2:decide (((A2 g).length:Int)<1)||decide (((A2 g).length:Int)>8) with
  | true=>rw [h2] at h;cases h
  | false =>
   rw [Bool.or_eq_false_iff,decide_eq_false_iff_not,decide_eq_false_iff_not] at h2
   omega
theorem B7n {a b:Nat} (h:A7x a b=false):a=b:=by
 unfold A7x at h
 have:=bne_eq_false_iff_eq.1 h
 omega
theorem Ayo {g:TCT cGr} {p:List (TCT cPt)} {k:TLs} (h:groE g=0→p.length=(A2 g).length→p.length≤8→k=.leaf (Bdc p (Ax (f_li g.1 p) 0 p.length []))) :
  (bif groE g != 0 then .leaf (zS,groE g,()) else erS (A7x p.length (A2 g).length) 17 k:TLs).sat (fun y=>y=(etaS (Hd g p).1,(Hd g p).2.1,())):=by
 show Tree.sat (fun y=>y=Hd g p) _
 unfold Hd
 cases h1:groE g != 0 with
 | true=>exact rfl
 | false =>
  simp only [cond_false]
  unfold erS
  cases h2:A7x p.length (A2 g).length with
  | true=>exact rfl
  | false =>
   have e:=B7n h2
   have h0:groE g=0:=bne_eq_false_iff_eq.1 h1
   have:=Age h0
   rw [h h0 e (by omega)]
   exact rfl
theorem Ayp {g:TCT cGr} {p:List (TCT cPt)} (hs:(g.1.1.size:Int)≤B7 .i64):(B7m g p).sat (fun y=>y=(etaS (Hd g p).1,(Hd g p).2.1,())):=by
 unfold B7m
 rw [Ei hs]
 refine Ayo fun _ e hp=>?_
 have hy:Bdb g p=some (Acj r0 (q0 p) (Ax (f_li g.1 p) 0 p.length [])):=Bda (by omega)
 rw [B7l (by omega) (by omega),hy]
 cases Ax (f_li g.1 p) 0 p.length [] <;> rfl
noncomputable def Bi1:Ctx:=G4 Tryz.prog plS3 [(24,Tryz.f24)] [((24,8),Ar Aci A4t (D7 [.ret,.exit 0] A7w Aq2))]
theorem Ayq:CtxOk Bi1:=Bs Ak puS3 (fns_cons is_sLie A0) (Cc (by kernel_rfl) (by kernel_rfl) Bhz)
theorem Bdd:A6 Tryz.prog 24 B4n:=Bl Ayq 7 (fun x=>B7m x.1 x.2.1) (fun x=>by kernel_rfl) fun x hok _=>Ayp (of_decide_eq_true hok)
def D5 (s:TCT cSt):Bool:=(msT s).all Fz
abbrev A4u:PureT:=Bj [cSt] [.b] (fun _=>true) (fun x=>(D5 x.1,()))
theorem Ajx (s:TCT cSt):(!(msT s).any (G0 ()))=D5 s:=by
 have:(msT s).any (G0 ())=!(msT s).all Fz:=Ko Fz _
 rw [this,Bool.not_not]
 rfl
theorem Aq3:A6 Tryz.prog 69 A4u:=Bl (Ap Ak puS3 (fns_cons is_sstill (fns_cons is_still1 A0))) 7 (fun x=>.leaf (!(msT x.1).any (G0 ()),())) (fun x=>by kernel_rfl) fun x _ _=>by
 show _=_
 rw [Ajx]
def Ack:Lay:={ keys:=[1,3],ks:=[.p 0 0 0 0,.d cI],bs:=[(0,76,kSt)],n:=19,nx:=1000,marks:=[] }
def Bi2:Lay:={ keys:=[],ks:=[],bs:=[],n:=19,nx:=1000,marks:=[] }
def Bdf:Lay:={ keys:=[2],ks:=[.d .b],bs:=[],n:=19,nx:=1000,marks:=[] }
def Acl:XE→Lay:=fun e=>match e with | .ret=>Bdf | _=>Bi2
def Aq4 (s:SKTs kSt) (i:Int):Ack.T:=(((),i,()),(s,()))
def Aq5:A1 Acl:=⟨.ret,((false,()),())⟩
def Aq6:A1 Acl:=⟨.exit 0,((),())⟩
def A7y (m:TCT B0):Bool:=!(m.2.1.1==0&&(m.2.1.2.1==0&&true))
theorem Agf (m:TCT B0):A7y m=!Fz m:=by unfold A7y Fz;rw [Bool.and_true]
def Agg (g:Ack.T):Tree (Ack.T⊕A1 Acl):=bif decide (g.1.2.1<((msS g.2.1).length:Int)) then bif decide (0≤g.1.2.1∧g.1.2.1<((msS g.2.1).length:Int)) then
 bif A7y (As (msS g.2.1) (Int.toNat g.1.2.1) (Aq B0)) then .leaf (.inr Aq5) else .leaf (.inl (Aq4 g.2.1 (W64 (g.1.2.1+1)))) else .fail else .leaf (.inr Aq6)
def Aq7 (g:Ack.T):Nat:=(msS g.2.1).length+1
def Ays (s:TCT cSt):Option (A1 Acl):=iter Agg ((msT s).length+1) (Aq4 (Lv s) 0)
def B7o (s:TCT cSt):TBo:=bif isE .ret (Ays s) then .leaf ((C2 .ret (Ays s)).1.1,()) else bif isE (.exit 0) (Ays s) then .leaf (true,()) else .fail
def plS4:List (Nat×PureT):=(69,A4u)::plS3
theorem puS4:D3 Tryz.prog plS4:=puOk_cons is_sstill.plain Aq3 (puS3)
end St
end V
end Go.Proofs.YtlangijnealfjaaGreat
