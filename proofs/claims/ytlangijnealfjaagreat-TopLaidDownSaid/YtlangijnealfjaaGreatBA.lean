import Derived.Test.YtlangijnealfjaaGreatSd
import Derived.Test.YtlangijnealfjaaGreatTV
import Derived.Test.YtlangijnealfjaaGreatUj
import Derived.Test.YtlangijnealfjaaGreatBa
import Derived.Test.YtlangijnealfjaaGreatZe
namespace Go.Proofs.YtlangijnealfjaaGreat
open Go.RowKit
namespace V
abbrev A0n:PureT:=Be [cPt,cPt,cI] [cPt,cI] (fun _=>true) (fun x=>(((TwR x.1.1 x.1.2.1 x.2.1.1 x.2.1.2.1 x.2.2.1).1.1,(TwR x.1.1 x.1.2.1 x.2.1.1 x.2.1.2.1 x.2.2.1).1.2,()),(TwR x.1.1 x.1.2.1 x.2.1.1 x.2.1.2.1 x.2.2.1).2,()))
theorem Ag7:A7 Tryz.prog 59 A0n:=Ab4
end V
end Go.Proofs.YtlangijnealfjaaGreat
namespace Go.Proofs.YtlangijnealfjaaGreat
open Go.RowKit
namespace V
namespace St
abbrev Bp:TC:=.st [cI,cI,cI,cI,.b]
abbrev Ce:TC:=.st [cI,cI,cI]
abbrev A8:TC:=.st [.s,cI,cI,cI,.sl Bp,A1,cI,cI,.sl Ce]
abbrev cGr:TC:=.st [A8,.sl A2,Cc]
abbrev cSt:TC:=.st [.sl Au,.sl .b,cI,cI,cI]
abbrev cKn:TC:=.st [cI,cI,cI,cI,cI]
theorem is_between2:FnIs Tryz.prog (120,Tryz.f120):=⟨Tryz.func120,by kernel_rfl,by kernel_rfl⟩
theorem is_validHoop:FnIs Tryz.prog (177,Tryz.f177):=⟨Tryz.func177,by kernel_rfl,by kernel_rfl⟩
theorem is_validCell:FnIs Tryz.prog (180,Tryz.f180):=⟨Tryz.func180,by kernel_rfl,by kernel_rfl⟩
theorem is_Check1:FnIs Tryz.prog (176,Tryz.f176):=⟨Tryz.func176,by kernel_rfl,by kernel_rfl⟩
theorem is_Check2:FnIs Tryz.prog (179,Tryz.f179):=⟨Tryz.func179,by kernel_rfl,by kernel_rfl⟩
theorem is_CG1:FnIs Tryz.prog (122,Tryz.f122):=⟨Tryz.func122,by kernel_rfl,by kernel_rfl⟩
theorem is_still1:FnIs Tryz.prog (133,Tryz.f133):=⟨Tryz.func133,by kernel_rfl,by kernel_rfl⟩
theorem is_tChk:FnIs Tryz.prog (70,Tryz.f70):=⟨Tryz.func70,by kernel_rfl,by kernel_rfl⟩
def inR (x lo hi:Int):Bool:=decide (lo≤x)&&decide (x≤hi)
abbrev s_inR:PureT:=Be [cI,cI,cI] [.b] (fun _=>true) (fun x=>(inR x.1 x.2.1 x.2.2.1,()))
abbrev TBo:=Tree (TCTs [.b])
def Py (a:Bool) (t:TBo):TBo:=bif a then t else .leaf (false,())
theorem G2 {a b:Bool} {t:TBo} (h:t.sat (fun y=>y=(b,()))):(Py a t).sat (fun y=>y=(a&&b,())):=by
 unfold Py
 cases a with
 | true=>rw [Bool.true_and];exact h
 | false=>exact rfl
theorem A0o (b:Bool):(Tree.leaf (b,()):TBo).sat (fun y=>y=(b,())):=rfl
theorem q_between2:A7 Tryz.prog 120 s_inR:=Bh (Ap Am puOk_nil (fns_cons is_between2 A3)) 3 (fun x=>Py (decide (x.2.1≤x.1)) (.leaf (decide (x.1≤x.2.2.1),()))) (fun x=>by kernel_rfl) fun _ _ _=>G2 (A0o _)
def plBt:List (Nat×PureT):=[(120,s_inR)]
theorem puBt:Ci Tryz.prog plBt:=puOk_cons is_between2.plain q_between2 (puOk_nil)
def Ft (h:TCT Bp):Bool:=inR h.1 0 4194304&&(inR h.2.1 0 4194304&&(inR h.2.2.1 2 32768&&((Int.tmod h.2.2.1 2==0)&&inR h.2.2.2.1 1 8192)))
def Gm (c:TCT Ce):Bool:=inR c.1 0 65536&&(inR c.2.1 (-4096) 4096&&inR c.2.2.1 (-4096) 4096)
abbrev A2f:PureT:=Be [Bp] [.b] (fun _=>true) (fun x=>(Ft x.1,()))
abbrev A2g:PureT:=Be [Ce] [.b] (fun _=>true) (fun x=>(Gm x.1,()))
def A2h (h:TCT Bp):TBo:=Py (inR h.1 0 4194304) (Py (inR h.2.1 0 4194304) (Py (inR h.2.2.1 2 32768) (Py (Int.tmod h.2.2.1 2==0) (.leaf (inR h.2.2.2.1 1 8192,())))))
def A2i (c:TCT Ce):TBo:=Py (inR c.1 0 65536) (Py (inR c.2.1 (-4096) 4096) (.leaf (inR c.2.2.1 (-4096) 4096,())))
theorem Vm (h:TCT Bp):(A2h h).sat (fun y=>y=(Ft h,())):=G2 (G2 (G2 (G2 (A0o _))))
theorem Vn (c:TCT Ce):(A2i c).sat (fun y=>y=(Gm c,())):=G2 (G2 (A0o _))
theorem A4n:A7 Tryz.prog 177 A2f:=Bh (Ap Am puBt (fns_cons is_validHoop A3)) 3 (fun x=>A2h x.1) (fun x=>by kernel_rfl) fun x _ _=>Vm x.1
theorem A4o:A7 Tryz.prog 180 A2g:=Bh (Ap Am puBt (fns_cons is_validCell A3)) 3 (fun x=>A2i x.1) (fun x=>by kernel_rfl) fun x _ _=>Vn x.1
def Ey (m:TCT Au):Bool:=m.2.1.1==0&&m.2.1.2.1==0
def H8 (b:TCT A2):Bool:=Ie b.1 b.2.1
abbrev B5e:PureT:=Be [Bp] [.b] (fun _=>true) (fun x=>(!Ft x.1,()))
abbrev B5f:PureT:=Be [Ce] [.b] (fun _=>true) (fun x=>(!Gm x.1,()))
abbrev Ayo:PureT:=Be [A2] [.b] (fun _=>true) (fun x=>(!H8 x.1,()))
abbrev Ayp:PureT:=Be [Au] [.b] (fun _=>true) (fun x=>(!Ey x.1,()))
abbrev Ayq:PureT:=Be [cPt] [.b] (fun _=>true) (fun x=>(!fpt x.1.1 x.1.2.1,()))
theorem B9g:A7 Tryz.prog 176 B5e:=Bh (Ap Am (puOk_cons is_validHoop.plain A4n puOk_nil) (fns_cons is_Check1 A3)) 3 (fun x=>.leaf (!Ft x.1,())) (fun x=>by kernel_rfl) fun _ _ _=>rfl
theorem B9h:A7 Tryz.prog 179 B5f:=Bh (Ap Am (puOk_cons is_validCell.plain A4o puOk_nil) (fns_cons is_Check2 A3)) 3 (fun x=>.leaf (!Gm x.1,())) (fun x=>by kernel_rfl) fun _ _ _=>rfl
theorem Vo (b:Bool):(okE b != 0)=!b:=by unfold okE;cases b <;> rfl
theorem B5g:A7 Tryz.prog 122 Ayo:=Bh (Ap Am (puOk_cons is_CheckBall.plain Tx puOk_nil) (fns_cons is_CG1 A3)) 3 (fun x=>.leaf (okE (Ie x.1.1 x.1.2.1)!=0,())) (fun x=>by kernel_rfl) fun x _ _=>by
 show (okE (Ie x.1.1 x.1.2.1)!=0,())=(!H8 x.1,())
 rw [Vo];rfl
theorem B5h:A7 Tryz.prog 133 Ayp:=Bh (Ap Am puOk_nil (fns_cons is_still1 A3)) 3 (fun x=>.leaf (!(x.1.2.1.1==0&&(x.1.2.1.2.1==0&&true)),())) (fun x=>by kernel_rfl) fun x _ _=>by
 show (!(x.1.2.1.1==0&&(x.1.2.1.2.1==0&&true)),())=(!Ey x.1,())
 rw [Bool.and_true];rfl
def plCl:List (Nat×PureT):=[(176,B5e),(179,B5f),(122,Ayo),(133,Ayp)]
theorem puCl:Ci Tryz.prog plCl:=puOk_cons is_Check1.plain B9g (puOk_cons is_Check2.plain B9h (puOk_cons is_CG1.plain B5g (puOk_cons is_still1.plain B5h (puOk_nil))))
theorem is_ixHoop:FnIs Tryz.prog (227,Tryz.f227):=⟨Tryz.func227,by kernel_rfl,by kernel_rfl⟩
theorem is_cfHoop:FnIs Tryz.prog (175,Tryz.f175):=⟨Tryz.func175,by kernel_rfl,by kernel_rfl⟩
abbrev Hn:List SK:=[]
def Dy (k:SKTs Hn) (x:TCT (Bp)):Bool:=!Ft x
noncomputable def A0p:Code:=(Aj (bodyOf Tryz.f227)).getD 0 .skip
def J4:Lay:={ keys:=[0,1,7,8],ks:=[.d (.sl (Bp)),.f 176 [] Hn,.d cI,.d cI],bs:=[],n:=19,nx:=1000,marks:=[] }
def Ag8:Lay:={ keys:=[4],ks:=[.d cI],bs:=[],n:=19,nx:=1000,marks:=[] }
def Ag9:Lay:={ keys:=[],ks:=[],bs:=[],n:=19,nx:=1000,marks:=[] }
def Hv:XE→Lay
 | .ret=>Ag8
 | _=>Ag9
def A0q (k:SKTs Hn) (l:List (TCT (Bp))) (n i:Int):J4.T:=((l,((),k),n,i,()),())
def Pz (i:Int):A0 Hv:=⟨.ret,((i,()),())⟩
def Q0:A0 Hv:=⟨.exit 0,((),())⟩
def Jm (k:SKTs Hn) (l:List (TCT (Bp))) (n:Int) (x:TCT (Bp)) (i:Int):Tree (J4.T⊕A0 Hv):=bif Dy k x then .leaf (.inr (Pz i)) else .leaf (.inl (A0q k l n (W64 (i+1))))
def Aga (k:SKTs Hn) (l:List (TCT (Bp))) (n i:Int):Tree (J4.T⊕A0 Hv) :=
 bif decide (i<n) then bif decide (0≤i∧i<(l.length:Int)) then Jm k l n (Al l i.toNat (Ak (Bp))) i else .fail else .leaf (.inr Q0)
def Oy (g:J4.T):Tree (A0 Hv) :=
 .br (Kg g.1.2.2.1 g.1.2.2.2.1 g.1.1) (.br (g.1.1.any (Dy g.1.2.1.2)) (.leaf (Pz (g.1.1.findIdx (Dy g.1.2.1.2)))) (.leaf Q0)) .fail
theorem Ak5:Ax Tryz.prog 227 A0p (As J4 Hv Oy):=by
 refine F7 (X:=ctx Tryz.prog plCl []) (Ap Am puCl A3) 7 227 (fun _=>none) (fun _ _ f h=>by simp at h) J4 Hv (fun e=>by cases e <;> exact Nat.le_refl _) Oy (fun g=>Aga g.1.2.1.2 g.1.1 g.1.2.2.1 g.1.2.2.2.1) (fun g=>by kernel_rfl) ?_
 rintro ⟨⟨l,⟨⟨⟩,k⟩,n,i,⟨⟩⟩,⟨⟩⟩ R hw hf
 obtain ⟨hf,h0⟩:=hf
 by_cases hc:n=(l.length:Int)∧i=0
 ·obtain ⟨rfl,rfl⟩:=hc
  have hf:=hf (decide_eq_true ⟨rfl,rfl⟩)
  refine Ary l (Ak (Bp)) (G6 hw.1.1) (fun n i _=>A0q k l n i) (fun x i (_:Unit)=>bif Dy k x then .inr (Pz i) else .inl ()) (fun _=>Q0) (fun _=>True) (fun x i _=>Jm k l l.length x i) (fun i _=>rfl) ?_ () trivial ?_
  ·intro i _ hi Q _ _ hw1 hQ
   show (Jm k l l.length l[i] i).sat Q
   unfold Jm
   rw [hw1]
   cases hp:Dy k l[i] with
   | true=>rw [hp] at hQ;exact hQ
   | false=>rw [hp] at hQ;exact hQ trivial
  ·rw [O5 (Dy k) (fun i=>Pz i) Q0 l 0,Nat.zero_add]
   cases ha:l.any (Dy k) with
   | true=>exact hf.1 ha
   | false=>exact hf.2 ha
 ·exact (h0 (decide_eq_false hc)).elim
abbrev Ak6:PureT:=K1 [.d (.sl (Bp)),.f 176 [] Hn] [cI] (fun _=>true) (fun x=>(bif x.1.any (Dy x.2.1.2) then (x.1.findIdx (Dy x.2.1.2):Int) else -1,()))
noncomputable def Ak7:Ctx:=Ib Tryz.prog plCl [(227,Tryz.f227)] [((227,keyOf A0p),As J4 Hv Oy)]
theorem A4p:CtxOk Ak7:=Cj Am puCl (fns_cons is_ixHoop A3) (Bw rfl (by kernel_rfl) Ak5)
def A4q (k:SKTs Hn) (l:List (TCT (Bp))):Tree (Int×Unit):=bif Kg (l.length:Int) 0 l then bif l.any (Dy k) then .leaf ((l.findIdx (Dy k):Int),()) else .leaf (-1,()) else .fail
theorem A4r (k:SKTs Hn) (l:List (TCT (Bp))):(A4q k l).sat (fun y=>y=(bif l.any (Dy k) then (l.findIdx (Dy k):Int) else -1,())):=by
 refine N9 (decide_eq_true ⟨rfl,rfl⟩) ?_
 cases l.any (Dy k) <;> exact rfl
theorem Ak8:A7 Tryz.prog 227 Ak6:=Ox A4p 8 (fun x=>A4q x.2.1.2 x.1) (fun x=>by kernel_rfl) fun x _ _=>A4r _ _
abbrev A4s:PureT:=K1 [.d (.sl (Bp)),.f 176 [] Hn] [.b] (fun _=>true) (fun x=>(x.1.any (Dy x.2.1.2),()))
theorem A4t (k:SKTs Hn) (l:List (TCT (Bp))):(Tree.leaf (decide ((bif l.any (Dy k) then (l.findIdx (Dy k):Int) else -1)≥0),()):Tree (Bool×Unit)).sat (fun y=>y=(l.any (Dy k),())):=by
 rw [Rp];exact rfl
theorem Ak9:A7 Tryz.prog 175 A4s:=Ox (Ap Am (puOk_cons is_ixHoop.plain Ak8 puOk_nil) (fns_cons is_cfHoop A3)) 8 (fun x=>.leaf (decide ((bif x.1.any (Dy x.2.1.2) then (x.1.findIdx (Dy x.2.1.2):Int) else -1)≥0),())) (fun x=>by kernel_rfl) fun x _ _=>A4t _ _
theorem is_ixCell:FnIs Tryz.prog (228,Tryz.f228):=⟨Tryz.func228,by kernel_rfl,by kernel_rfl⟩
theorem is_cfCell:FnIs Tryz.prog (178,Tryz.f178):=⟨Tryz.func178,by kernel_rfl,by kernel_rfl⟩
abbrev Ho:List SK:=[]
def Dz (k:SKTs Ho) (x:TCT (Ce)):Bool:=!Gm x
noncomputable def A0r:Code:=(Aj (bodyOf Tryz.f228)).getD 0 .skip
def J5:Lay:={ keys:=[0,1,7,8],ks:=[.d (.sl (Ce)),.f 179 [] Ho,.d cI,.d cI],bs:=[],n:=19,nx:=1000,marks:=[] }
def Agb:Lay:={ keys:=[4],ks:=[.d cI],bs:=[],n:=19,nx:=1000,marks:=[] }
def Agc:Lay:={ keys:=[],ks:=[],bs:=[],n:=19,nx:=1000,marks:=[] }
def Hw:XE→Lay
 | .ret=>Agb
 | _=>Agc
def A0s (k:SKTs Ho) (l:List (TCT (Ce))) (n i:Int):J5.T:=((l,((),k),n,i,()),())
def Q1 (i:Int):A0 Hw:=⟨.ret,((i,()),())⟩
def Q2:A0 Hw:=⟨.exit 0,((),())⟩
def Jn (k:SKTs Ho) (l:List (TCT (Ce))) (n:Int) (x:TCT (Ce)) (i:Int):Tree (J5.T⊕A0 Hw):=bif Dz k x then .leaf (.inr (Q1 i)) else .leaf (.inl (A0s k l n (W64 (i+1))))
def Agd (k:SKTs Ho) (l:List (TCT (Ce))) (n i:Int):Tree (J5.T⊕A0 Hw) :=
 bif decide (i<n) then bif decide (0≤i∧i<(l.length:Int)) then Jn k l n (Al l i.toNat (Ak (Ce))) i else .fail else .leaf (.inr Q2)
def Oz (g:J5.T):Tree (A0 Hw) :=
 .br (Kg g.1.2.2.1 g.1.2.2.2.1 g.1.1) (.br (g.1.1.any (Dz g.1.2.1.2)) (.leaf (Q1 (g.1.1.findIdx (Dz g.1.2.1.2)))) (.leaf Q2)) .fail
theorem Aka:Ax Tryz.prog 228 A0r (As J5 Hw Oz):=by
 refine F7 (X:=ctx Tryz.prog plCl []) (Ap Am puCl A3) 7 228 (fun _=>none) (fun _ _ f h=>by simp at h) J5 Hw (fun e=>by cases e <;> exact Nat.le_refl _) Oz (fun g=>Agd g.1.2.1.2 g.1.1 g.1.2.2.1 g.1.2.2.2.1) (fun g=>by kernel_rfl) ?_
 rintro ⟨⟨l,⟨⟨⟩,k⟩,n,i,⟨⟩⟩,⟨⟩⟩ R hw hf
 obtain ⟨hf,h0⟩:=hf
 by_cases hc:n=(l.length:Int)∧i=0
 ·obtain ⟨rfl,rfl⟩:=hc
  have hf:=hf (decide_eq_true ⟨rfl,rfl⟩)
  refine Ary l (Ak (Ce)) (G6 hw.1.1) (fun n i _=>A0s k l n i) (fun x i (_:Unit)=>bif Dz k x then .inr (Q1 i) else .inl ()) (fun _=>Q2) (fun _=>True) (fun x i _=>Jn k l l.length x i) (fun i _=>rfl) ?_ () trivial ?_
  ·intro i _ hi Q _ _ hw1 hQ
   show (Jn k l l.length l[i] i).sat Q
   unfold Jn
   rw [hw1]
   cases hp:Dz k l[i] with
   | true=>rw [hp] at hQ;exact hQ
   | false=>rw [hp] at hQ;exact hQ trivial
  ·rw [O5 (Dz k) (fun i=>Q1 i) Q2 l 0,Nat.zero_add]
   cases ha:l.any (Dz k) with
   | true=>exact hf.1 ha
   | false=>exact hf.2 ha
 ·exact (h0 (decide_eq_false hc)).elim
abbrev Akb:PureT:=K1 [.d (.sl (Ce)),.f 179 [] Ho] [cI] (fun _=>true) (fun x=>(bif x.1.any (Dz x.2.1.2) then (x.1.findIdx (Dz x.2.1.2):Int) else -1,()))
noncomputable def Akc:Ctx:=Ib Tryz.prog plCl [(228,Tryz.f228)] [((228,keyOf A0r),As J5 Hw Oz)]
theorem A4u:CtxOk Akc:=Cj Am puCl (fns_cons is_ixCell A3) (Bw rfl (by kernel_rfl) Aka)
def A4v (k:SKTs Ho) (l:List (TCT (Ce))):Tree (Int×Unit):=bif Kg (l.length:Int) 0 l then bif l.any (Dz k) then .leaf ((l.findIdx (Dz k):Int),()) else .leaf (-1,()) else .fail
theorem A4w (k:SKTs Ho) (l:List (TCT (Ce))):(A4v k l).sat (fun y=>y=(bif l.any (Dz k) then (l.findIdx (Dz k):Int) else -1,())):=by
 refine N9 (decide_eq_true ⟨rfl,rfl⟩) ?_
 cases l.any (Dz k) <;> exact rfl
theorem Akd:A7 Tryz.prog 228 Akb:=Ox A4u 8 (fun x=>A4v x.2.1.2 x.1) (fun x=>by kernel_rfl) fun x _ _=>A4w _ _
abbrev A4x:PureT:=K1 [.d (.sl (Ce)),.f 179 [] Ho] [.b] (fun _=>true) (fun x=>(x.1.any (Dz x.2.1.2),()))
theorem A4y (k:SKTs Ho) (l:List (TCT (Ce))):(Tree.leaf (decide ((bif l.any (Dz k) then (l.findIdx (Dz k):Int) else -1)≥0),()):Tree (Bool×Unit)).sat (fun y=>y=(l.any (Dz k),())):=by
 rw [Rp];exact rfl
theorem Ake:A7 Tryz.prog 178 A4x:=Ox (Ap Am (puOk_cons is_ixCell.plain Akd puOk_nil) (fns_cons is_cfCell A3)) 8 (fun x=>.leaf (decide ((bif x.1.any (Dz x.2.1.2) then (x.1.findIdx (Dz x.2.1.2):Int) else -1)≥0),())) (fun x=>by kernel_rfl) fun x _ _=>A4y _ _
theorem is_ixBall:FnIs Tryz.prog (189,Tryz.f189):=⟨Tryz.func189,by kernel_rfl,by kernel_rfl⟩
theorem is_cfBall:FnIs Tryz.prog (121,Tryz.f121):=⟨Tryz.func121,by kernel_rfl,by kernel_rfl⟩
abbrev Hp:List SK:=[]
def E0 (k:SKTs Hp) (x:TCT (A2)):Bool:=!H8 x
noncomputable def A0t:Code:=(Aj (bodyOf Tryz.f189)).getD 0 .skip
def J6:Lay:={ keys:=[0,1,7,8],ks:=[.d (.sl (A2)),.f 122 [] Hp,.d cI,.d cI],bs:=[],n:=19,nx:=1000,marks:=[] }
def Age:Lay:={ keys:=[4],ks:=[.d cI],bs:=[],n:=19,nx:=1000,marks:=[] }
def Agf:Lay:={ keys:=[],ks:=[],bs:=[],n:=19,nx:=1000,marks:=[] }
def Hx:XE→Lay
 | .ret=>Age
 | _=>Agf
def A0u (k:SKTs Hp) (l:List (TCT (A2))) (n i:Int):J6.T:=((l,((),k),n,i,()),())
def Q3 (i:Int):A0 Hx:=⟨.ret,((i,()),())⟩
def Q4:A0 Hx:=⟨.exit 0,((),())⟩
def Jo (k:SKTs Hp) (l:List (TCT (A2))) (n:Int) (x:TCT (A2)) (i:Int):Tree (J6.T⊕A0 Hx):=bif E0 k x then .leaf (.inr (Q3 i)) else .leaf (.inl (A0u k l n (W64 (i+1))))
def Agg (k:SKTs Hp) (l:List (TCT (A2))) (n i:Int):Tree (J6.T⊕A0 Hx) :=
 bif decide (i<n) then bif decide (0≤i∧i<(l.length:Int)) then Jo k l n (Al l i.toNat (Ak (A2))) i else .fail else .leaf (.inr Q4)
def P0 (g:J6.T):Tree (A0 Hx) :=
 .br (Kg g.1.2.2.1 g.1.2.2.2.1 g.1.1) (.br (g.1.1.any (E0 g.1.2.1.2)) (.leaf (Q3 (g.1.1.findIdx (E0 g.1.2.1.2)))) (.leaf Q4)) .fail
theorem Akf:Ax Tryz.prog 189 A0t (As J6 Hx P0):=by
 refine F7 (X:=ctx Tryz.prog plCl []) (Ap Am puCl A3) 7 189 (fun _=>none) (fun _ _ f h=>by simp at h) J6 Hx (fun e=>by cases e <;> exact Nat.le_refl _) P0 (fun g=>Agg g.1.2.1.2 g.1.1 g.1.2.2.1 g.1.2.2.2.1) (fun g=>by kernel_rfl) ?_
 rintro ⟨⟨l,⟨⟨⟩,k⟩,n,i,⟨⟩⟩,⟨⟩⟩ R hw hf
 obtain ⟨hf,h0⟩:=hf
 by_cases hc:n=(l.length:Int)∧i=0
 ·obtain ⟨rfl,rfl⟩:=hc
  have hf:=hf (decide_eq_true ⟨rfl,rfl⟩)
  refine Ary l (Ak (A2)) (G6 hw.1.1) (fun n i _=>A0u k l n i) (fun x i (_:Unit)=>bif E0 k x then .inr (Q3 i) else .inl ()) (fun _=>Q4) (fun _=>True) (fun x i _=>Jo k l l.length x i) (fun i _=>rfl) ?_ () trivial ?_
  ·intro i _ hi Q _ _ hw1 hQ
   show (Jo k l l.length l[i] i).sat Q
   unfold Jo
   rw [hw1]
   cases hp:E0 k l[i] with
   | true=>rw [hp] at hQ;exact hQ
   | false=>rw [hp] at hQ;exact hQ trivial
  ·rw [O5 (E0 k) (fun i=>Q3 i) Q4 l 0,Nat.zero_add]
   cases ha:l.any (E0 k) with
   | true=>exact hf.1 ha
   | false=>exact hf.2 ha
 ·exact (h0 (decide_eq_false hc)).elim
abbrev Akg:PureT:=K1 [.d (.sl (A2)),.f 122 [] Hp] [cI] (fun _=>true) (fun x=>(bif x.1.any (E0 x.2.1.2) then (x.1.findIdx (E0 x.2.1.2):Int) else -1,()))
noncomputable def Akh:Ctx:=Ib Tryz.prog plCl [(189,Tryz.f189)] [((189,keyOf A0t),As J6 Hx P0)]
theorem A4z:CtxOk Akh:=Cj Am puCl (fns_cons is_ixBall A3) (Bw rfl (by kernel_rfl) Akf)
def A50 (k:SKTs Hp) (l:List (TCT (A2))):Tree (Int×Unit):=bif Kg (l.length:Int) 0 l then bif l.any (E0 k) then .leaf ((l.findIdx (E0 k):Int),()) else .leaf (-1,()) else .fail
theorem A51 (k:SKTs Hp) (l:List (TCT (A2))):(A50 k l).sat (fun y=>y=(bif l.any (E0 k) then (l.findIdx (E0 k):Int) else -1,())):=by
 refine N9 (decide_eq_true ⟨rfl,rfl⟩) ?_
 cases l.any (E0 k) <;> exact rfl
theorem Aki:A7 Tryz.prog 189 Akg:=Ox A4z 8 (fun x=>A50 x.2.1.2 x.1) (fun x=>by kernel_rfl) fun x _ _=>A51 _ _
abbrev A52:PureT:=K1 [.d (.sl (A2)),.f 122 [] Hp] [.b] (fun _=>true) (fun x=>(x.1.any (E0 x.2.1.2),()))
theorem A53 (k:SKTs Hp) (l:List (TCT (A2))):(Tree.leaf (decide ((bif l.any (E0 k) then (l.findIdx (E0 k):Int) else -1)≥0),()):Tree (Bool×Unit)).sat (fun y=>y=(l.any (E0 k),())):=by
 rw [Rp];exact rfl
theorem Akj:A7 Tryz.prog 121 A52:=Ox (Ap Am (puOk_cons is_ixBall.plain Aki puOk_nil) (fns_cons is_cfBall A3)) 8 (fun x=>.leaf (decide ((bif x.1.any (E0 x.2.1.2) then (x.1.findIdx (E0 x.2.1.2):Int) else -1)≥0),())) (fun x=>by kernel_rfl) fun x _ _=>A53 _ _
theorem is_ixMot:FnIs Tryz.prog (196,Tryz.f196):=⟨Tryz.func196,by kernel_rfl,by kernel_rfl⟩
theorem is_cfMot:FnIs Tryz.prog (132,Tryz.f132):=⟨Tryz.func132,by kernel_rfl,by kernel_rfl⟩
abbrev K6:List SK:=[]
def Ez (k:SKTs K6) (x:TCT (Au)):Bool:=!Ey x
noncomputable def A54:Code:=(Aj (bodyOf Tryz.f196)).getD 0 .skip
def L0:Lay:={ keys:=[0,1,7,8],ks:=[.d (.sl (Au)),.f 133 [] K6,.d cI,.d cI],bs:=[],n:=19,nx:=1000,marks:=[] }
def Akk:Lay:={ keys:=[4],ks:=[.d cI],bs:=[],n:=19,nx:=1000,marks:=[] }
def Akl:Lay:={ keys:=[],ks:=[],bs:=[],n:=19,nx:=1000,marks:=[] }
def Jp:XE→Lay
 | .ret=>Akk
 | _=>Akl
def A55 (k:SKTs K6) (l:List (TCT (Au))) (n i:Int):L0.T:=((l,((),k),n,i,()),())
def V4 (i:Int):A0 Jp:=⟨.ret,((i,()),())⟩
def V5:A0 Jp:=⟨.exit 0,((),())⟩
def L6 (k:SKTs K6) (l:List (TCT (Au))) (n:Int) (x:TCT (Au)) (i:Int):Tree (L0.T⊕A0 Jp):=bif Ez k x then .leaf (.inr (V4 i)) else .leaf (.inl (A55 k l n (W64 (i+1))))
def Akm (k:SKTs K6) (l:List (TCT (Au))) (n i:Int):Tree (L0.T⊕A0 Jp) :=
 bif decide (i<n) then bif decide (0≤i∧i<(l.length:Int)) then L6 k l n (Al l i.toNat (Ak (Au))) i else .fail else .leaf (.inr V5)
def Rx (g:L0.T):Tree (A0 Jp) :=
 .br (Kg g.1.2.2.1 g.1.2.2.2.1 g.1.1) (.br (g.1.1.any (Ez g.1.2.1.2)) (.leaf (V4 (g.1.1.findIdx (Ez g.1.2.1.2)))) (.leaf V5)) .fail
theorem Asr:Ax Tryz.prog 196 A54 (As L0 Jp Rx):=by
 refine F7 (X:=ctx Tryz.prog plCl []) (Ap Am puCl A3) 7 196 (fun _=>none) (fun _ _ f h=>by simp at h) L0 Jp (fun e=>by cases e <;> exact Nat.le_refl _) Rx (fun g=>Akm g.1.2.1.2 g.1.1 g.1.2.2.1 g.1.2.2.2.1) (fun g=>by kernel_rfl) ?_
 rintro ⟨⟨l,⟨⟨⟩,k⟩,n,i,⟨⟩⟩,⟨⟩⟩ R hw hf
 obtain ⟨hf,h0⟩:=hf
 by_cases hc:n=(l.length:Int)∧i=0
 ·obtain ⟨rfl,rfl⟩:=hc
  have hf:=hf (decide_eq_true ⟨rfl,rfl⟩)
  refine Ary l (Ak (Au)) (G6 hw.1.1) (fun n i _=>A55 k l n i) (fun x i (_:Unit)=>bif Ez k x then .inr (V4 i) else .inl ()) (fun _=>V5) (fun _=>True) (fun x i _=>L6 k l l.length x i) (fun i _=>rfl) ?_ () trivial ?_
  ·intro i _ hi Q _ _ hw1 hQ
   show (L6 k l l.length l[i] i).sat Q
   unfold L6
   rw [hw1]
   cases hp:Ez k l[i] with
   | true=>rw [hp] at hQ;exact hQ
   | false=>rw [hp] at hQ;exact hQ trivial
  ·rw [O5 (Ez k) (fun i=>V4 i) V5 l 0,Nat.zero_add]
   cases ha:l.any (Ez k) with
   | true=>exact hf.1 ha
   | false=>exact hf.2 ha
 ·exact (h0 (decide_eq_false hc)).elim
abbrev Ass:PureT:=K1 [.d (.sl (Au)),.f 133 [] K6] [cI] (fun _=>true) (fun x=>(bif x.1.any (Ez x.2.1.2) then (x.1.findIdx (Ez x.2.1.2):Int) else -1,()))
noncomputable def Ast:Ctx:=Ib Tryz.prog plCl [(196,Tryz.f196)] [((196,keyOf A54),As L0 Jp Rx)]
theorem A9c:CtxOk Ast:=Cj Am puCl (fns_cons is_ixMot A3) (Bw rfl (by kernel_rfl) Asr)
def Acr (k:SKTs K6) (l:List (TCT (Au))):Tree (Int×Unit):=bif Kg (l.length:Int) 0 l then bif l.any (Ez k) then .leaf ((l.findIdx (Ez k):Int),()) else .leaf (-1,()) else .fail
theorem A9d (k:SKTs K6) (l:List (TCT (Au))):(Acr k l).sat (fun y=>y=(bif l.any (Ez k) then (l.findIdx (Ez k):Int) else -1,())):=by
 refine N9 (decide_eq_true ⟨rfl,rfl⟩) ?_
 cases l.any (Ez k) <;> exact rfl
theorem Asu:A7 Tryz.prog 196 Ass:=Ox A9c 8 (fun x=>Acr x.2.1.2 x.1) (fun x=>by kernel_rfl) fun x _ _=>A9d _ _
abbrev Acs:PureT:=K1 [.d (.sl (Au)),.f 133 [] K6] [.b] (fun _=>true) (fun x=>(x.1.any (Ez x.2.1.2),()))
theorem A9e (k:SKTs K6) (l:List (TCT (Au))):(Tree.leaf (decide ((bif l.any (Ez k) then (l.findIdx (Ez k):Int) else -1)≥0),()):Tree (Bool×Unit)).sat (fun y=>y=(l.any (Ez k),())):=by
 rw [Rp];exact rfl
theorem Asv:A7 Tryz.prog 132 Acs:=Ox (Ap Am (puOk_cons is_ixMot.plain Asu puOk_nil) (fns_cons is_cfMot A3)) 8 (fun x=>.leaf (decide ((bif x.1.any (Ez x.2.1.2) then (x.1.findIdx (Ez x.2.1.2):Int) else -1)≥0),())) (fun x=>by kernel_rfl) fun x _ _=>A9e _ _
end St
end V
end Go.Proofs.YtlangijnealfjaaGreat
namespace Go.Proofs.YtlangijnealfjaaGreat
open Go.RowKit
namespace V
namespace St
theorem is_lposts:FnIs Tryz.prog (52,Tryz.f52):=⟨Tryz.func52,by kernel_rfl,by kernel_rfl⟩
theorem is_lwires:FnIs Tryz.prog (110,Tryz.f110):=⟨Tryz.func110,by kernel_rfl,by kernel_rfl⟩
theorem is_turned:FnIs Tryz.prog (182,Tryz.f182):=⟨Tryz.func182,by kernel_rfl,by kernel_rfl⟩
abbrev kLw:List SK:=[.d .s,.d cI,.d cI,.d cI,.d (.sl Bp),.d cI,.d cI,.d cI,.d cI,.d cI,.d (.sl Ce)]
def Jk (x:SKTs kLw):TCT A8:=(x.1,x.2.1,x.2.2.1,x.2.2.2.1,x.2.2.2.2.1,((x.2.2.2.2.2.1,x.2.2.2.2.2.2.1,()),x.2.2.2.2.2.2.2.1,()),x.2.2.2.2.2.2.2.2.1,x.2.2.2.2.2.2.2.2.2.1,x.2.2.2.2.2.2.2.2.2.2.1,())
def Dl (l:TCT A8):SKTs kLw:=(l.1,l.2.1,l.2.2.1,l.2.2.2.1,l.2.2.2.2.1,l.2.2.2.2.2.1.1.1,l.2.2.2.2.2.1.1.2.1,l.2.2.2.2.2.1.2.1,l.2.2.2.2.2.2.1,l.2.2.2.2.2.2.2.1,l.2.2.2.2.2.2.2.2.1,())
def Aw (l:TCT A8):List (TCT Bp):=l.2.2.2.2.1
def Kh (l:TCT A8):TCT A1:=l.2.2.2.2.2.1
def dW (h:TCT Bp):Int:=W64 (W64 (Int.tdiv h.2.2.1 2)+h.2.2.2.1)
def O9 (x y r:Int):TCT A1:=((x,y,()),r,())
def w2 (h:TCT Bp):List (TCT A1):=bif h.2.2.2.2.1 then [O9 h.1 (W64 (h.2.1-dW h)) h.2.2.2.1,O9 h.1 (W64 (h.2.1+dW h)) h.2.2.2.1] else [O9 (W64 (h.1-dW h)) h.2.1 h.2.2.2.1,O9 (W64 (h.1+dW h)) h.2.1 h.2.2.2.1]
def Bc (l:TCT A8):List (TCT A1):=(Aw l).flatMap w2++[Kh l]
noncomputable def B5j:Code:=(Aj (bodyOf Tryz.f52)).getD 0 .skip
def Zw:Lay:={ keys:=[1,2,7,8,9],ks:=[.p 0 0 0 0,.o 30 A1,.d (.sl Bp),.d cI,.d cI],bs:=[(0,33,kLw)],n:=24,nx:=1000,marks:=[] }
def B5k:Lay:={ keys:=[1,2],ks:=[.p 0 0 0 0,.o 30 A1],bs:=[(0,33,kLw)],n:=24,nx:=1000,marks:=[] }
def A2j:XE→Lay:=fun _=>B5k
def Akn (x:SKTs kLw) (hs:List (TCT Bp)) (n:Int) (i:Int) (o:List (TCT A1)):Zw.T:=(((),o,hs,n,i,()),(x,()))
def A0v (x:SKTs kLw) (o:List (TCT A1)):A0 A2j:=⟨.exit 0,(((),o,()),(x,()))⟩
def A9f (x:SKTs kLw) (hs:List (TCT Bp)) (n i:Int) (o w:List (TCT A1)):Tree (Zw.T⊕A0 A2j):=bif D4 o w 24 then .leaf (.inl (Akn x hs n (W64 (i+1)) (o++w))) else .fail
def A2k (x:SKTs kLw) (hs:List (TCT Bp)) (n i:Int) (o:List (TCT A1)) (h:TCT Bp):Tree (Zw.T⊕A0 A2j) :=
 bif h.2.2.2.2.1 then A9f x hs n i o [O9 (W64 (h.1-0)) (W64 (h.2.1-dW h)) h.2.2.2.1,O9 (W64 (h.1+0)) (W64 (h.2.1+dW h)) h.2.2.2.1]
 else A9f x hs n i o [O9 (W64 (h.1-dW h)) (W64 (h.2.1-0)) h.2.2.2.1,O9 (W64 (h.1+dW h)) (W64 (h.2.1+0)) h.2.2.2.1]
def A56 (g:Zw.T):Tree (Zw.T⊕A0 A2j) :=
 bif decide (g.1.2.2.2.2.1<g.1.2.2.2.1) then bif decide (0≤g.1.2.2.2.2.1∧g.1.2.2.2.2.1<((g.1.2.2.1:List (TCT Bp)).length:Int)) then A2k g.2.1 g.1.2.2.1 g.1.2.2.2.1 g.1.2.2.2.2.1 g.1.2.1 (Al g.1.2.2.1 (Int.toNat g.1.2.2.2.2.1) (Ak Bp)) else .fail else .leaf (.inr (A0v g.2.1 g.1.2.1))
def Ako (g:Zw.T):Nat:=(g.1.2.2.1:List (TCT Bp)).length+1
noncomputable def B5l:Ctx:=ctx Tryz.prog [] [(110,Tryz.f110),(182,Tryz.f182)]
theorem Akp:CtxOk B5l:=Ap Am puOk_nil (fns_cons is_lwires (fns_cons is_turned A3))
theorem B9i:Ax Tryz.prog 52 B5j (As Zw A2j (De [.exit 0] A56 Ako)):=Bo Akp 7 _ Zw A2j (fun _=>Nat.le_refl _) [.exit 0] A56 Ako (fun g=>by kernel_rfl)
noncomputable def B9j:Ctx:=Ib Tryz.prog [] [(52,Tryz.f52)] [((52,2),As Zw A2j (De [.exit 0] A56 Ako))]
theorem Asw:CtxOk B9j:=Cj Am puOk_nil (fns_cons is_lposts A3) (Bw (by kernel_rfl) (by kernel_rfl) B9i)
def Asx (l:TCT A8):Option (A0 A2j):=iter A56 ((Aw l).length+1) (Akn (Dl l) (Aw l) (Aw l).length 0 [])
abbrev TPo:=Tree (TCTs [.sl A1])
def A9g (r:B5k.T):TPo:=bif D4 r.1.2.1 [Kh (Jk r.2.1)] 24 then .leaf (r.1.2.1++[Kh (Jk r.2.1)],()) else .fail
def B0j (l:TCT A8):TPo:=bif isE (.exit 0) (Asx l) then A9g (C3 (.exit 0) (Asx l)) else .fail
abbrev L8:PureT:=Be [A8] [.sl A1] (fun x=>decide ((Aw x.1).length≤1000)) (fun x=>(Bc x.1,()))
theorem Ry {α β E:Type} (w:α→List β) (ex:List β→E):∀ (l:List α) (i:Nat) (s:List β),Pu (fun _ x s=>some (.inl (s++w x))) (fun s=>some (ex s)) i l s=some (ex (s++l.flatMap w))
 | [],_,s=>by simp [Pu]
 | x::l,i,s=>by simp only [Pu];rw [Ry w ex l (i+1)];simp [List.append_assoc]
theorem A9h (h:TCT Bp):(w2 h).length=2:=by unfold w2;cases h.2.2.2.2.1 <;> rfl
theorem Q5 (l:List (TCT Bp)):(l.flatMap w2).length=2*l.length:=by
 induction l with
 | nil=>rfl
 | cons h l ih =>
  have e:((h::l).flatMap w2).length=(w2 h).length+(l.flatMap w2).length:=by rw [List.flatMap_cons,List.length_append]
  rw [e,ih,A9h,List.length_cons];omega
theorem A0w {o w:List (TCT A1)} (h:o.length+w.length≤4000):D4 o w 24=true:=by
 rw [F2];exact decide_eq_true (by omega)
theorem B0k {h:TCT Bp} (hw:WFD Bp h):W64 (h.1-0)=h.1∧W64 (h.1+0)=h.1∧W64 (h.2.1-0)=h.2.1∧W64 (h.2.1+0)=h.2.1:=by
 obtain ⟨x,y,g,w,a,⟨⟩⟩:=h
 obtain ⟨h1,h2,_⟩:=hw
 have h1 : -9223372036854775808≤x∧x≤9223372036854775807:=h1
 have h2 : -9223372036854775808≤y∧y≤9223372036854775807:=h2
 exact ⟨by rw [Int.sub_zero];exact B5 h1.1 h1.2,by rw [Int.add_zero];exact B5 h1.1 h1.2,by rw [Int.sub_zero];exact B5 h2.1 h2.2,by rw [Int.add_zero];exact B5 h2.1 h2.2⟩
theorem Asy {l:TCT A8} (hw:∀ h ∈ Aw l,WFD Bp h) (hl:(Aw l).length≤1000):Asx l=some (A0v (Dl l) ((Aw l).flatMap w2)):=by
 unfold Asx
 have key:=Es (st:=A56) (Aw l) (fun i o=>Akn (Dl l) (Aw l) (Aw l).length (i:Int) o) (fun _ h o=>some (.inl (o++w2 h))) (fun o=>some (A0v (Dl l) o)) (fun i o=>o.length=2*i)
  (fun i o hi hI=>by
   simp only
   refine ⟨?_,by rw [List.length_append,hI,A9h];omega⟩
   show (bif decide ((i:Int)<((Aw l).length:Int)) then bif decide (0≤(i:Int)∧(i:Int)<((Aw l).length:Int)) then A2k (Dl l) (Aw l) (Aw l).length (i:Int) o (Al (Aw l) (Int.toNat (i:Int)) (Ak Bp)) else .fail else .leaf (.inr (A0v (Dl l) o))).run=_
   rw [decide_eq_true (show (i:Int)<((Aw l).length:Int) by omega),decide_eq_true (show 0≤(i:Int)∧(i:Int)<((Aw l).length:Int) by omega),show Int.toNat (i:Int)=i by omega,D2 hi]
   obtain ⟨e1,e2,e3,e4⟩:=B0k (hw _ (List.getElem_mem hi))
   simp only [cond_true]
   unfold A2k w2 A9f
   rw [e1,e2,e3,e4,B5 (n:=(i:Int)+1) (by omega) (by omega)]
   cases (Aw l)[i].2.2.2.2.1 with
   | true =>
    simp only [cond_true]
    rw [A0w (by simp only [List.length_cons,List.length_nil,hI];omega)]
    rfl
   | false =>
    simp only [cond_false]
    rw [A0w (by simp only [List.length_cons,List.length_nil,hI];omega)]
    rfl)
  (fun o e hI he=>by
   cases he
   show (bif decide (((Aw l).length:Int)<((Aw l).length:Int)) then _ else Tree.leaf (Sum.inr (A0v (Dl l) o)):Tree (Zw.T⊕A0 A2j)).run=_
   rw [decide_eq_false (show ¬ ((Aw l).length:Int)<((Aw l).length:Int) by omega)]
   rfl)
  (Aw l).length 0 [] (A0v (Dl l) ((Aw l).flatMap w2)) ((Aw l).length+1) (by omega) (by omega) rfl (by rw [List.drop_zero,Ry,List.nil_append])
 exact key
theorem A2l:A7 Tryz.prog 52 L8:=Bh Asw 7 (fun x=>B0j x.1) (fun x=>by kernel_rfl) fun x hok hw=>by
 have hl:(Aw x.1).length≤1000:=of_decide_eq_true hok
 show (B0j x.1).sat _
 unfold B0j
 rw [Asy (Ayh hw.1.2.2.2.2.1) hl]
 show (A9g (((),(Aw x.1).flatMap w2,()),(Dl x.1,()))).sat _
 unfold A9g
 simp only
 rw [A0w (by rw [Q5];simp only [List.length_cons,List.length_nil];omega)]
 exact rfl
end St
end V
end Go.Proofs.YtlangijnealfjaaGreat
namespace Go.Proofs.YtlangijnealfjaaGreat
open Go.RowKit
namespace V
namespace St
def Zx:Lay:={ keys:=[1,3,4],ks:=[.p 0 0 0 0,.o 30 A1,.d cI],bs:=[(0,33,kLw)],n:=73,nx:=1000,marks:=[] }
def B5n:Lay:={ keys:=[1,3],ks:=[.p 0 0 0 0,.o 30 A1],bs:=[(0,33,kLw)],n:=73,nx:=1000,marks:=[] }
def A2m:XE→Lay:=fun _=>B5n
def Jq (x:SKTs kLw) (i:Int) (o:List (TCT A1)):Zx.T:=(((),o,i,()),(x,()))
def Ki (x:SKTs kLw) (o:List (TCT A1)):A0 A2m:=⟨.exit 0,(((),o,()),(x,()))⟩
def A9i (x:SKTs kLw) (i:Int) (o w:List (TCT A1)):Tree (Zx.T⊕A0 A2m):=bif D4 o w 24 then .leaf (.inl (Jq x (W64 (i+1)) (o++w))) else .fail
def A2n (x:SKTs kLw) (i:Int) (o:List (TCT A1)) (h:TCT Bp):Tree (Zx.T⊕A0 A2m) :=
 bif h.2.2.2.2.1 then A9i x i o [O9 h.1 (W64 (h.2.1-dW h)) h.2.2.2.1,O9 h.1 (W64 (h.2.1+dW h)) h.2.2.2.1]
 else A9i x i o [O9 (W64 (h.1-dW h)) h.2.1 h.2.2.2.1,O9 (W64 (h.1+dW h)) h.2.1 h.2.2.2.1]
def Kj (g:Zx.T):Tree (Zx.T⊕A0 A2m) :=
 bif decide (g.1.2.2.1<((g.2.1.2.2.2.2.1:List (TCT Bp)).length:Int)) then bif decide (0≤g.1.2.2.1∧g.1.2.2.1<((g.2.1.2.2.2.2.1:List (TCT Bp)).length:Int)) then A2n g.2.1 g.1.2.2.1 g.1.2.1 (Al g.2.1.2.2.2.2.1 (Int.toNat g.1.2.2.1) (Ak Bp)) else .fail else .leaf (.inr (Ki g.2.1 g.1.2.1))
def Vp (g:Zx.T):Nat:=(g.2.1.2.2.2.2.1:List (TCT Bp)).length+1
noncomputable def Akq:Ctx:=ctx Tryz.prog [] []
theorem Vq:CtxOk Akq:=Ap Am puOk_nil A3
def At0 (l:TCT A8):Option (A0 A2m):=iter Kj ((Aw l).length+1) (Jq (Dl l) 0 [])
def A9j (r:B5n.T):TPo:=bif D4 r.1.2.1 [Kh (Jk r.2.1)] 24 then .leaf (r.1.2.1++[Kh (Jk r.2.1)],()) else .fail
def B0l (l:TCT A8):TPo:=bif isE (.exit 0) (At0 l) then A9j (C3 (.exit 0) (At0 l)) else .fail
theorem At1 {l:TCT A8} (hl:(Aw l).length≤1000):At0 l=some (Ki (Dl l) ((Aw l).flatMap w2)):=by
 unfold At0
 have key:=Es (st:=Kj) (Aw l) (fun i o=>Jq (Dl l) (i:Int) o) (fun _ h o=>some (.inl (o++w2 h))) (fun o=>some (Ki (Dl l) o)) (fun i o=>o.length=2*i)
  (fun i o hi hI=>by
   simp only
   refine ⟨?_,by rw [List.length_append,hI,A9h];omega⟩
   show (bif decide ((i:Int)<((Aw l).length:Int)) then bif decide (0≤(i:Int)∧(i:Int)<((Aw l).length:Int)) then A2n (Dl l) (i:Int) o (Al (Aw l) (Int.toNat (i:Int)) (Ak Bp)) else .fail else .leaf (.inr (Ki (Dl l) o))).run=_
   rw [decide_eq_true (show (i:Int)<((Aw l).length:Int) by omega),decide_eq_true (show 0≤(i:Int)∧(i:Int)<((Aw l).length:Int) by omega),show Int.toNat (i:Int)=i by omega,D2 hi]
   simp only [cond_true]
   unfold A2n w2 A9i
   rw [B5 (n:=(i:Int)+1) (by omega) (by omega)]
   cases (Aw l)[i].2.2.2.2.1 with
   | true =>
    simp only [cond_true]
    rw [A0w (by simp only [List.length_cons,List.length_nil,hI];omega)]
    rfl
   | false =>
    simp only [cond_false]
    rw [A0w (by simp only [List.length_cons,List.length_nil,hI];omega)]
    rfl)
  (fun o e hI he=>by
   cases he
   show (bif decide (((Aw l).length:Int)<((Aw l).length:Int)) then _ else Tree.leaf (Sum.inr (Ki (Dl l) o)):Tree (Zx.T⊕A0 A2m)).run=_
   rw [decide_eq_false (show ¬ ((Aw l).length:Int)<((Aw l).length:Int) by omega)]
   rfl)
  (Aw l).length 0 [] (Ki (Dl l) ((Aw l).flatMap w2)) ((Aw l).length+1) (by omega) (by omega) rfl (by rw [List.drop_zero,Ry,List.nil_append])
 exact key
end St
end V
end Go.Proofs.YtlangijnealfjaaGreat
namespace Go.Proofs.YtlangijnealfjaaGreat
open Go.RowKit
namespace V
namespace St
theorem is_vname:FnIs Tryz.prog (174,Tryz.f174):=⟨Tryz.func174,by kernel_rfl,by kernel_rfl⟩
theorem is_vname1:FnIs Tryz.prog (226,Tryz.f226):=⟨Tryz.func226,by kernel_rfl,by kernel_rfl⟩
theorem is_sCont:FnIs Tryz.prog (157,Tryz.f157):=⟨Tryz.func157,by kernel_rfl,by kernel_rfl⟩
theorem is_sIdx:FnIs Tryz.prog (209,Tryz.f209):=⟨Tryz.func209,by kernel_rfl,by kernel_rfl⟩
theorem is_sidx:FnIs Tryz.prog (240,Tryz.f240):=⟨Tryz.func240,by kernel_rfl,by kernel_rfl⟩
def A58 (r:Int):Bool:=(decide (r<97)||decide (r>122))&&(decide (r<48)||decide (r>57))
def Akr (r:Int):TBo:=bif decide (r<97) then bif decide (r<48) then .leaf (true,()) else .leaf (decide (r>57),()) else bif decide (r>122) then bif decide (r<48) then .leaf (true,()) else .leaf (decide (r>57),()) else .leaf (false,())
abbrev Aks:PureT:=Be [.i .i32] [.b] (fun _=>true) (fun x=>(A58 x.1,()))
theorem Akt (r:Int):(Akr r).sat (fun y=>y=(A58 r,())):=by
 unfold Akr A58
 cases decide (r<97) <;> cases decide (r>122) <;> cases decide (r<48) <;> exact rfl
theorem Aku:A7 Tryz.prog 226 Aks:=Bh (Ap Am puOk_nil (fns_cons is_vname1 A3)) 3 (fun x=>Akr x.1) (fun x=>by kernel_rfl) fun x _ _=>Akt x.1
def plNm:List (Nat×PureT):=[(226,Aks)]
theorem puNm:Ci Tryz.prog plNm:=puOk_cons is_vname1.plain Aku puOk_nil
def nmT (t:ByteArray):Nat→Nat→TBo
 | 0,_=>.fail
 | n+1,pos=>bif Nat.ble (pos+1) t.size then
   bif Hf .i64 (pos:Int)&&Hf .i32 ((Utf8.decode t pos).1:Int) then
    bif A58 ((Utf8.decode t pos).1:Int)==true then .leaf (!decide ((pos:Int)≥0),()) else nmT t n (pos+(Utf8.decode t pos).2)
   else .fail
  else .leaf (!decide ((-1:Int)≥0),())
def A2o (t:ByteArray):TBo:=bif Hf .i64 (t.size:Int) then bif decide ((t.size:Int)≥1) then bif Hf .i64 (t.size:Int) then bif decide ((t.size:Int)≤20) then nmT t 21 0 else .leaf (false,()) else .fail else .leaf (false,()) else .fail
noncomputable def B5o:Ctx:=Aj1 21 Tryz.prog plNm [(174,Tryz.f174),(157,Tryz.f157),(209,Tryz.f209),(240,Tryz.f240)]
theorem At2:CtxOk B5o:=Rq Am puNm (fns_cons is_vname (fns_cons is_sCont (fns_cons is_sIdx (fns_cons is_sidx A3))))
theorem Agh (t:ByteArray):Dh B5o 12 (.fn 174) [.val (.string t)] C4 0 (Ir Tryz.prog [.b])=A2o t:=by kernel_rfl
end St
end V
end Go.Proofs.YtlangijnealfjaaGreat
namespace Go.Proofs.YtlangijnealfjaaGreat
open Go.RowKit
namespace V
namespace St
def Db (t:ByteArray):List UInt8:=t.data.toList
def Rz (b:UInt8):Bool:=A58 ((b.toNat:Nat):Int)
def J7 (t:ByteArray):Bool:=decide (1≤t.size∧t.size≤20)&&!(Db t).any Rz
theorem Nj (t:ByteArray):(Db t).length=t.size:=Array.length_toList
theorem Agi {n:Int} (h:0≤n) (h2:n≤9223372036854775807):Hf .i64 n=true:=by
 unfold Hf
 rw [decide_eq_true (show I0 .i64≤n by simp only [I0];omega),decide_eq_true (show n≤B0 .i64 by simp only [B0];omega)];rfl
theorem B5p {n:Int} (h:0≤n) (h2:n≤2147483647):Hf .i32 n=true:=by
 unfold Hf
 rw [decide_eq_true (show I0 .i32≤n by simp only [I0];omega),decide_eq_true (show n≤B0 .i32 by simp only [B0];omega)];rfl
theorem B0m {t:ByteArray} {i:Nat} (h:i<t.size):t.get! i=(Db t)[i]'(by rw [Nj];exact h):=by
 have h':i<t.data.size:=h
 show t.data[i]! = _
 rw [getElem!_pos t.data i h']
 simp [Db]
theorem B0n {t:ByteArray} {i:Nat} (h:(t.get! i).toNat<128):Utf8.decode t i=((t.get! i).toNat,1):=by
 unfold Utf8.decode
 simp only [Nat.add_zero]
 rw [if_pos h]
theorem B0o {t:ByteArray} {i:Nat} (h:¬ (t.get! i).toNat<128):128≤(Utf8.decode t i).1∧(Utf8.decode t i).1≤2100000:=by
 have hb:(t.get! i).toNat<256:=(t.get! i).toNat_lt
 unfold Utf8.decode
 simp only [Nat.add_zero]
 rw [if_neg h]
 have m1:=Nat.mod_lt (t.get! (i+1)).toNat (show 0<64 by omega)
 have m2:=Nat.mod_lt (t.get! (i+2)).toNat (show 0<64 by omega)
 have m3:=Nat.mod_lt (t.get! (i+3)).toNat (show 0<64 by omega)
 have r:128≤Utf8.runeError∧Utf8.runeError≤2100000:=by decide
 split
 ·split
  ·rename_i hc
   simp only
   omega
  ·exact r
 ·split
  ·split
   ·rename_i hc
    simp only [ge_iff_le,Bool.and_eq_true,decide_eq_true_eq] at hc
    simp only
    omega
   ·exact r
  ·split
   ·split
    ·rename_i hc
     simp only [ge_iff_le,Bool.and_eq_true,decide_eq_true_eq] at hc
     simp only
     omega
    ·exact r
   ·exact r
theorem Akv {r:Nat} (h:128≤r):A58 (r:Int)=true:=by
 unfold A58
 rw [decide_eq_true (show (r:Int)>122 by omega),decide_eq_true (show (r:Int)>57 by omega)]
 simp
theorem Akw {t:ByteArray} (hs:t.size≤20):∀ (n pos:Nat),pos≤t.size→t.size-pos<n→nmT t n pos=.leaf (!((Db t).drop pos).any Rz,())
 | 0,_,_,h=>absurd h (Nat.not_lt_zero _)
 | n+1,pos,hp,hn=>by
  unfold nmT
  by_cases hlt:pos<t.size
  ·have hb:Nat.ble (pos+1) t.size=true:=by rw [Nat.ble_eq];omega
   have hd:(Db t).drop pos=(Db t)[pos]'(by rw [Nj];exact hlt)::(Db t).drop (pos+1):=List.drop_eq_getElem_cons _
   rw [hb,cond_true,hd,List.any_cons,← B0m hlt]
   by_cases h8:(t.get! pos).toNat<128
   ·rw [B0n h8]
    simp only
    have hk:(Hf .i64 (pos:Int)&&Hf .i32 (((t.get! pos).toNat:Nat):Int))=true:=by
     rw [Agi (by omega) (by omega),B5p (by omega) (by omega)];rfl
    rw [hk,cond_true]
    show (bif Rz (t.get! pos)==true then _ else _:TBo)=_
    cases hbd:Rz (t.get! pos) with
    | true =>
     rw [decide_eq_true (show (pos:Int)≥0 by omega)]
     rfl
    | false =>
     show nmT t n (pos+1)=_
     rw [Akw hs n (pos+1) (by omega) (by omega),Bool.false_or]
   ·obtain ⟨h1,h2⟩:=B0o h8
    have hk:(Hf .i64 (pos:Int)&&Hf .i32 (((Utf8.decode t pos).1:Nat):Int))=true:=by
     rw [Agi (by omega) (by omega),B5p (by omega) (by omega)];rfl
    have hbu:Rz (t.get! pos)=true:=Akv (by omega)
    rw [hk,cond_true,Akv h1,hbu,decide_eq_true (show (pos:Int)≥0 by omega)]
    rfl
  ·have hb:Nat.ble (pos+1) t.size=false:=by
    cases h:Nat.ble (pos+1) t.size with
    | false=>rfl
    | true=>rw [Nat.ble_eq] at h;omega
   rw [hb,cond_false,List.drop_eq_nil_of_le (by rw [Nj];omega)]
   rfl
theorem Agj {t:ByteArray} (h64:(t.size:Int)≤B0 .i64):(A2o t).sat (fun y=>y=(J7 t,())):=by
 unfold A2o J7
 have hk:Hf .i64 (t.size:Int)=true:=Agi (by omega) (by simp only [B0] at h64;exact h64)
 rw [hk]
 simp only [cond_true]
 by_cases h1:1≤t.size
 ·rw [decide_eq_true (show (t.size:Int)≥1 by omega)]
  by_cases h2:t.size≤20
  ·rw [decide_eq_true (show (t.size:Int)≤20 by omega),decide_eq_true (show 1≤t.size∧t.size≤20 from ⟨h1,h2⟩),cond_true,cond_true,Akw h2 21 0 (by omega) (by omega)]
   exact rfl
  ·rw [decide_eq_false (show ¬ (t.size:Int)≤20 by omega),decide_eq_false (show ¬ (1≤t.size∧t.size≤20) from fun h=>h2 h.2)]
   exact rfl
 ·rw [decide_eq_false (show ¬ (t.size:Int)≥1 by omega),decide_eq_false (show ¬ (1≤t.size∧t.size≤20) from fun h=>h1 h.1)]
  exact rfl
end St
end V
end Go.Proofs.YtlangijnealfjaaGreat
namespace Go.Proofs.YtlangijnealfjaaGreat
open Go.RowKit
namespace V
namespace St
abbrev A2p:PureT:=Be [.s] [.b] (fun x=>decide ((x.1.size:Int)≤B0 .i64)) (fun x=>(J7 x.1,()))
theorem At3:A7 Tryz.prog 174 A2p:=Bh At2 12 (fun x=>A2o x.1) (fun x=>Agh x.1) fun x hok _=>Agj (of_decide_eq_true hok)
def A9k:Lay:={ keys:=[0,3],ks:=[.d .s,.d cI],bs:=[],n:=41,nx:=1000,marks:=[] }
def B9m:Lay:={ keys:=[],ks:=[],bs:=[],n:=41,nx:=1000,marks:=[] }
def B5r:Lay:={ keys:=[2],ks:=[.d .b],bs:=[],n:=41,nx:=1000,marks:=[] }
def A9l:XE→Lay:=fun e=>match e with | .ret=>B5r | _=>B9m
def A0x (t:ByteArray) (i:Int):A9k.T:=((t,i,()),())
def Vr:A0 A9l:=⟨.ret,((false,()),())⟩
def A59:A0 A9l:=⟨.exit 0,((),())⟩
abbrev TNm:=Tree (A9k.T⊕A0 A9l)
def byI (t:ByteArray) (i:Int):Int:=((((t.data.toList.getD (Int.toNat i) 0).toNat:Nat)):Int)
def inI (t:ByteArray) (i:Int) (k:TNm):TNm:=bif decide (0≤i∧i<(t.size:Int)) then k else .fail
def A9m (t:ByteArray) (i:Int):TNm:=inI t i (bif decide (byI t i≥48) then inI t i (bif !decide (byI t i≤57) then .leaf (.inr Vr) else .leaf (.inl (A0x t (W64 (i+1))))) else .leaf (.inr Vr))
def Vs (t:ByteArray) (i:Int):TNm :=
 bif Hf .i64 (t.size:Int) then bif decide (i<(t.size:Int)) then
  inI t i (bif decide (byI t i≥97) then inI t i (bif decide (byI t i≤122) then .leaf (.inl (A0x t (W64 (i+1)))) else A9m t i) else A9m t i)
 else .leaf (.inr A59) else .fail
def A0y (g:A9k.T):TNm:=Vs g.1.1 g.1.2.1
def Akx (g:A9k.T):Nat:=(Db g.1.1).length+1
noncomputable def B5s:Ctx:=ctx Tryz.prog [] []
theorem Aky:CtxOk B5s:=Ap Am puOk_nil A3
def Akz (t:ByteArray):Option (A0 A9l):=iter A0y ((Db t).length+1) (A0x t 0)
def B0p (t:ByteArray):TBo:=bif Hf .i64 (t.size:Int) then bif decide ((t.size:Int)<1) then .leaf (false,()) else bif Hf .i64 (t.size:Int) then bif decide ((t.size:Int)>20) then .leaf (false,()) else
 bif isE .ret (Akz t) then .leaf ((C3 .ret (Akz t)).1.1,()) else bif isE (.exit 0) (Akz t) then .leaf (true,()) else .fail else .fail else .fail
theorem B0q {t:ByteArray} {i:Nat} (h:i<(Db t).length):byI t (i:Int)=((((Db t)[i]).toNat:Nat):Int):=by
 unfold byI
 rw [show Int.toNat (i:Int)=i by omega]
 show ((((Db t).getD i 0).toNat:Nat):Int)=_
 rw [List.getD_eq_getElem?_getD,List.getElem?_eq_getElem h]
 rfl
theorem At5 {t:ByteArray} (h64:(t.size:Int)≤B0 .i64):Akz t=some (bif (Db t).any Rz then Vr else A59):=by
 have h64':(t.size:Int)≤9223372036854775807:=h64
 have hlen:=Nj t
 unfold Akz
 have key:=Es (st:=A0y) (Db t) (fun i (_:Unit)=>A0x t (i:Int)) (fun _ b _=>bif Rz b then some (.inr Vr) else some (.inl ())) (fun _=>some A59) (fun _ _=>True)
  (fun i s hi _=>by
   have hI:decide (0≤(i:Int)∧(i:Int)<(t.size:Int))=true:=decide_eq_true (by omega)
   have hrun:(A0y (A0x t (i:Int))).run=some (bif Rz (Db t)[i] then .inr Vr else .inl (A0x t ((i+1:Nat):Int))):=by
    show (Vs t (i:Int)).run=_
    unfold Vs A9m inI Rz A58
    rw [Agi (by omega) h64',decide_eq_true (show (i:Int)<(t.size:Int) by omega),hI,B0q hi,B5 (n:=(i:Int)+1) (by omega) (by omega)]
    generalize ((((Db t)[i]).toNat:Nat):Int)=b
    by_cases h1:b<97
    ·rw [decide_eq_true h1,decide_eq_false (show ¬ b≥97 by omega)]
     by_cases h2:b<48
     ·rw [decide_eq_true h2,decide_eq_false (show ¬ b≥48 by omega)];simp;rfl
     ·rw [decide_eq_false h2,decide_eq_true (show b≥48 by omega)]
      by_cases h3:b>57
      ·rw [decide_eq_true h3,decide_eq_false (show ¬ b≤57 by omega)];simp;rfl
      ·rw [decide_eq_false h3,decide_eq_true (show b≤57 by omega)];simp;rfl
    ·rw [decide_eq_false h1,decide_eq_true (show b≥97 by omega)]
     by_cases h2:b>122
     ·rw [decide_eq_true h2,decide_eq_false (show ¬ b≤122 by omega),decide_eq_false (show ¬ b<48 by omega),decide_eq_true (show b≥48 by omega),decide_eq_true (show b>57 by omega),decide_eq_false (show ¬ b≤57 by omega)];simp;rfl
     ·rw [decide_eq_false h2,decide_eq_true (show b≤122 by omega)];simp;rfl
   cases hb:Rz (Db t)[i] with
   | true =>
    rw [hb] at hrun
    simp only [cond_true]
    exact hrun
   | false =>
    rw [hb] at hrun
    simp only [cond_false]
    exact ⟨hrun,trivial⟩)
  (fun s e _ he=>by
   cases he
   show (Vs t (((Db t).length:Nat):Int)).run=_
   unfold Vs
   rw [Agi (by omega) h64',decide_eq_false (show ¬ (((Db t).length:Nat):Int)<(t.size:Int) by omega)]
   rfl)
  (Db t).length 0 () (bif (Db t).any Rz then Vr else A59) ((Db t).length+1) (by omega) (by omega) trivial (by rw [List.drop_zero];exact Rr Rz (fun _=>Vr) A59 _ 0)
 exact key
theorem At6 {t:ByteArray} (h64:(t.size:Int)≤B0 .i64):(B0p t).sat (fun y=>y=(J7 t,())):=by
 unfold B0p J7
 rw [Agi (by omega) (show (t.size:Int)≤9223372036854775807 from h64),At5 h64]
 simp only [cond_true]
 by_cases h1:1≤t.size
 ·rw [decide_eq_false (show ¬ (t.size:Int)<1 by omega)]
  by_cases h2:t.size≤20
  ·rw [decide_eq_false (show ¬ (t.size:Int)>20 by omega),decide_eq_true (show 1≤t.size∧t.size≤20 from ⟨h1,h2⟩)]
   cases (Db t).any Rz <;> exact rfl
  ·rw [decide_eq_true (show (t.size:Int)>20 by omega),decide_eq_false (show ¬ (1≤t.size∧t.size≤20) from fun h=>h2 h.2)]
   exact rfl
 ·rw [decide_eq_true (show (t.size:Int)<1 by omega),decide_eq_false (show ¬ (1≤t.size∧t.size≤20) from fun h=>h1 h.1)]
  exact rfl
end St
end V
end Go.Proofs.YtlangijnealfjaaGreat
namespace Go.Proofs.YtlangijnealfjaaGreat
open Go.RowKit
namespace V
namespace St
theorem is_Touch:FnIs Tryz.prog (15,Tryz.f15):=⟨Tryz.func15,by kernel_rfl,by kernel_rfl⟩
theorem is_tCD:FnIs Tryz.prog (43,Tryz.f43):=⟨Tryz.func43,by kernel_rfl,by kernel_rfl⟩
theorem is_tsq:FnIs Tryz.prog (54,Tryz.f54):=⟨Tryz.func54,by kernel_rfl,by kernel_rfl⟩
theorem is_cmp64:FnIs Tryz.prog (53,Tryz.f53):=⟨Tryz.func53,by kernel_rfl,by kernel_rfl⟩
theorem is_nan64:FnIs Tryz.prog (111,Tryz.f111):=⟨Tryz.func111,by kernel_rfl,by kernel_rfl⟩
theorem is_lapart:FnIs Tryz.prog (181,Tryz.f181):=⟨Tryz.func181,by kernel_rfl,by kernel_rfl⟩
def Al0 (x y:Int):Int:=bif decide (x<y) then -1 else bif decide (x>y) then 1 else 0
def cdE (a:TCT A1):Int:=X5 a.1.1 a.1.2.1 a.2.1
def sqD (a b:TCT A1):Int:=W64 (W64 (W64 (b.1.1-a.1.1)*W64 (b.1.1-a.1.1))+W64 (W64 (b.1.2.1-a.1.2.1)*W64 (b.1.2.1-a.1.2.1)))
def srD (a b:TCT A1):Int:=W64 (W64 (a.2.1+b.2.1)*W64 (a.2.1+b.2.1))
def S0 (a b:TCT A1):Int:=bif cdE a==0&&cdE b==0 then Al0 (sqD a b) (srD a b) else 0
def B0r (a b:TCT A1):Int:=bif cdE a==0&&cdE b==0 then 0 else 2
abbrev A2q:PureT:=Be [A1,A1] [cI,cI] (fun _=>true) (fun x=>(S0 x.1 x.2.1,B0r x.1 x.2.1,()))
abbrev TTo:=Tree (TCTs [cI,cI])
def Ayr (x y:Int):TTo:=bif x != x then bif y != y then .leaf (0,0,()) else .leaf (-1,0,()) else bif y != y then .leaf (1,0,()) else bif decide (x<y) then .leaf (-1,0,()) else bif decide (x>y) then .leaf (1,0,()) else .leaf (0,0,())
def A2r (a b:TCT A1):TTo:=bif cdE a != 0 then .leaf (0,2,()) else bif cdE b != 0 then .leaf (0,2,()) else Ayr (sqD a b) (srD a b)
theorem A9n (a b:TCT A1):(A2r a b).sat (fun y=>y=(S0 a b,B0r a b,())):=by
 unfold A2r S0 B0r Ayr Al0
 rw [bne_self_eq_false,bne_self_eq_false]
 have e:∀ n:Int,(n != 0)=!(n==0):=fun _=>rfl
 rw [e,e]
 cases cdE a==0 <;> cases cdE b==0 <;> try exact rfl
 cases decide (sqD a b<srD a b) <;> cases decide (sqD a b>srD a b) <;> exact rfl
theorem Acu:A7 Tryz.prog 15 A2q:=Bh (Ap Am (puOk_cons is_tCD.plain Tv puOk_nil) (fns_cons is_Touch (fns_cons is_tsq (fns_cons is_cmp64 (fns_cons is_nan64 A3))))) 5 (fun x=>A2r x.1 x.2.1) (fun x=>by kernel_rfl) fun x _ _=>A9n _ _
def plAp:List (Nat×PureT):=[(15,A2q),(120,s_inR)]
theorem puAp:Ci Tryz.prog plAp:=puOk_cons is_Touch.plain Acu (puOk_cons is_between2.plain q_between2 puOk_nil)
noncomputable def Acv:Code:=(Aj (bodyOf Tryz.f181)).getD 0 .skip
noncomputable def Acw:Code:=(Aj (bodyOf Tryz.f181)).getD 1 .skip
abbrev kD3:List SK:=[.d cI,.d cI,.d cI]
def d3 (d:SKTs kD3):TCT A1:=((d.1,d.2.1,()),d.2.2.1,())
def B5t (d:TCT A1):TCT A1:=((d.1.1,d.1.2.1,()),d.2.1,())
def toD (d:TCT A1):SKTs kD3:=(d.1.1,d.1.2.1,d.2.1,())
def Zy:Lay:={ keys:=[1,2,6,11,12,13,46,47,48],ks:=[.d (.sl A1),.p 0 0 0 0,.p 1000 0 0 0,.d (.sl A1),.d cI,.d cI,.d (.sl A1),.d cI,.d cI],bs:=[(0,33,kLw),(1000,30,kD3)],n:=62,nx:=2000,marks:=[] }
def B5u:Lay:={ keys:=[1,2,11,12,13],ks:=[.d (.sl A1),.p 0 0 0 0,.d (.sl A1),.d cI,.d cI],bs:=[(0,33,kLw)],n:=62,nx:=2000,marks:=[] }
def Ays:Lay:={ keys:=[4],ks:=[.d .b],bs:=[],n:=62,nx:=2000,marks:=[] }
def Vt:XE→Lay:=fun e=>match e with | .ret=>Ays | _=>B5u
def Vu:Lay:={ keys:=[1,2,11,12,13],ks:=[.d (.sl A1),.p 0 0 0 0,.d (.sl A1),.d cI,.d cI],bs:=[(0,33,kLw)],n:=62,nx:=1000,marks:=[] }
def B9p:Lay:={ keys:=[],ks:=[],bs:=[],n:=62,nx:=2000,marks:=[] }
def A5a:XE→Lay:=fun e=>match e with | .ret=>Ays | _=>B9p
def Vv (x:SKTs kLw) (d:SKTs kD3) (p q:List (TCT A1)) (n i:Int) (r:List (TCT A1)) (m k:Int):Zy.T:=((p,(),(),q,n,i,r,m,k,()),(x,d,()))
def Tl:A0 Vt:=⟨.ret,((false,()),())⟩
def Tm (x:SKTs kLw) (p q:List (TCT A1)) (n i:Int):A0 Vt:=⟨.exit 2,((p,(),q,n,i,()),(x,()))⟩
def Vx (g:Zy.T):Tree (Zy.T⊕A0 Vt) :=
 bif decide (g.1.2.2.2.2.2.2.2.2.1<g.1.2.2.2.2.2.2.2.1) then bif decide (0≤g.1.2.2.2.2.2.2.2.2.1∧g.1.2.2.2.2.2.2.2.2.1<((g.1.2.2.2.2.2.2.1:List (TCT A1)).length:Int)) then
  bif decide (S0 (d3 g.2.2.1) (B5t (Al g.1.2.2.2.2.2.2.1 (Int.toNat g.1.2.2.2.2.2.2.2.2.1) (Ak A1)))<0) then .leaf (.inr Tl) else .leaf (.inl (Vv g.2.1 g.2.2.1 g.1.1 g.1.2.2.2.1 g.1.2.2.2.2.1 g.1.2.2.2.2.2.1 g.1.2.2.2.2.2.2.1 g.1.2.2.2.2.2.2.2.1 (W64 (g.1.2.2.2.2.2.2.2.2.1+1))))
 else .fail else .leaf (.inr (Tm g.2.1 g.1.1 g.1.2.2.2.1 g.1.2.2.2.2.1 g.1.2.2.2.2.2.1))
def Al1 (g:Zy.T):Nat:=(g.1.2.2.2.2.2.2.1:List (TCT A1)).length+1
noncomputable def A5b:Ctx:=ctx Tryz.prog plAp []
theorem A5c:CtxOk A5b:=Ap Am puAp A3
theorem B9q:Ax Tryz.prog 181 Acw (As Zy Vt (De [.ret,.exit 2] Vx Al1)):=Bo A5c 7 _ Zy Vt (fun e=>by cases e <;> exact Nat.le_refl _) [.ret,.exit 2] Vx Al1 (fun g=>by kernel_rfl)
def I6 {α:Type} (ok:Nat→α→Bool):Nat→List α→Bool
 | _,[]=>true
 | i,x::l=>ok i x&&I6 ok (i+1) l
theorem Vy {α E:Type} (ok:Nat→α→Bool) (r d:E):∀ (l:List α) (i:Nat),Pu (fun i x (_:Unit)=>bif ok i x then some (.inl ()) else some (.inr r)) (fun _=>some d) i l ()=some (bif I6 ok i l then d else r)
 | [],i=>rfl
 | x::l,i=>by
  simp only [Pu,I6]
  cases ok i x with
  | true=>simp only [cond_true,Bool.true_and];exact Vy ok r d l (i+1)
  | false=>rfl
def touB (d o:TCT A1):Bool:=decide (S0 d o<0)
theorem At8 (x:SKTs kLw) (d:TCT A1) (p q:List (TCT A1)) (n i:Int) (r:List (TCT A1)) (hr:(r.length:Int)≤B0 .i64) :
  iter Vx (r.length+1) (Vv x (toD d) p q n i r r.length 0)=some (bif r.any (touB d) then Tl else Tm x p q n i):=by
 have hr':(r.length:Int)≤9223372036854775807:=hr
 have key:=Es (st:=Vx) r (fun k (_:Unit)=>Vv x (toD d) p q n i r r.length (k:Int)) (fun _ o _=>bif touB d o then some (.inr Tl) else some (.inl ())) (fun _=>some (Tm x p q n i)) (fun _ _=>True)
  (fun k s hk _=>by
   have hrun:(Vx (Vv x (toD d) p q n i r r.length (k:Int))).run=some (bif touB d r[k] then .inr Tl else .inl (Vv x (toD d) p q n i r r.length ((k+1:Nat):Int))):=by
    show (bif decide ((k:Int)<(r.length:Int)) then bif decide (0≤(k:Int)∧(k:Int)<(r.length:Int)) then bif touB d (B5t (Al r (Int.toNat (k:Int)) (Ak A1))) then Tree.leaf (Sum.inr Tl) else .leaf (.inl (Vv x (toD d) p q n i r r.length (W64 ((k:Int)+1)))) else .fail else .leaf (.inr (Tm x p q n i)):Tree (Zy.T⊕A0 Vt)).run=_
    rw [decide_eq_true (show (k:Int)<(r.length:Int) by omega),decide_eq_true (show 0≤(k:Int)∧(k:Int)<(r.length:Int) by omega),show Int.toNat (k:Int)=k by omega,D2 hk,B5 (n:=(k:Int)+1) (by omega) (by omega)]
    show (bif touB d r[k] then _ else _:Tree (Zy.T⊕A0 Vt)).run=_
    cases touB d r[k] <;> rfl
   cases hb:touB d r[k] with
   | true=>rw [hb] at hrun;simp only [cond_true];exact hrun
   | false=>rw [hb] at hrun;simp only [cond_false];exact ⟨hrun,trivial⟩)
  (fun s e _ he=>by
   cases he
   show (bif decide ((r.length:Int)<(r.length:Int)) then _ else Tree.leaf (Sum.inr (Tm x p q n i)):Tree (Zy.T⊕A0 Vt)).run=_
   rw [decide_eq_false (show ¬ (r.length:Int)<(r.length:Int) by omega)]
   rfl)
  r.length 0 () (bif r.any (touB d) then Tl else Tm x p q n i) (r.length+1) (by omega) (by omega) trivial (by rw [List.drop_zero];exact Rr (touB d) (fun _=>Tl) (Tm x p q n i) _ 0)
 exact key
end St
end V
end Go.Proofs.YtlangijnealfjaaGreat
namespace Go.Proofs.YtlangijnealfjaaGreat
open Go.RowKit
namespace V
namespace St
def A0z (x:SKTs kLw) (p q:List (TCT A1)) (n i:Int):Vu.T:=((p,(),q,n,i,()),(x,()))
def Q6 (b:Bool):A0 A5a:=⟨.ret,((b,()),())⟩
def Tn:A0 A5a:=⟨.exit 0,((),())⟩
abbrev TAo:=Tree (Vu.T⊕A0 A5a)
def B5v (x:SKTs kLw) (d:SKTs kD3) (p q:List (TCT A1)) (n i:Int) (r:List (TCT A1)):Option (A0 Vt):=iter Vx (r.length+1) (Vv x d p q n i r r.length 0)
def B5w (r:B5u.T):Vu.T:=A0z r.2.1 r.1.1 r.1.2.2.1 r.1.2.2.2.1 (W64 (r.1.2.2.2.2.1+1))
def B5x (y:Option (A0 Vt)):TAo:=bif isE .ret y then .leaf (.inr (Q6 (C3 .ret y).1.1)) else bif isE (.exit 2) y then .leaf (.inl (B5w (C3 (.exit 2) y))) else .fail
def Al2 (x:SKTs kLw) (p q:List (TCT A1)) (n i:Int) (d:TCT A1):TAo :=
 bif !inR d.1.1 d.2.1 (W64 (x.2.1-d.2.1)) then .leaf (.inr (Q6 false)) else bif !inR d.1.2.1 d.2.1 (W64 (x.2.2.1-d.2.1)) then .leaf (.inr (Q6 false)) else
 bif decide (0≤i∧i≤(p.length:Int)) then B5x (B5v x (toD d) p q n i (p.take (Int.toNat i))) else .fail
def Vz (g:Vu.T):TAo :=
 bif decide (g.1.2.2.2.2.1<g.1.2.2.2.1) then bif decide (0≤g.1.2.2.2.2.1∧g.1.2.2.2.2.1<((g.1.2.2.1:List (TCT A1)).length:Int)) then
  Al2 g.2.1 g.1.1 g.1.2.2.1 g.1.2.2.2.1 g.1.2.2.2.2.1 (Al g.1.2.2.1 (Int.toNat g.1.2.2.2.2.1) (Ak A1)) else .fail else .leaf (.inr Tn)
def Al3 (g:Vu.T):Nat:=(g.1.2.2.1:List (TCT A1)).length+1
def Ayt:Kr:=fun k=>bif Nat.beq k 7 then some (As Zy Vt (De [.ret,.exit 2] Vx Al1)) else none
theorem B9r (g:Vu.T):evC A5b.P (Dh A5b 7) A5b.pures 181 A5b.u Ayt Acv (Vu.of g) (Ew Vu A5a)=Vz g:=by kernel_rfl
theorem Al4:Aj Acv=[Acw]:=by kernel_rfl
theorem Al5:keyOf Acw=7:=by kernel_rfl
theorem B9s:Ax Tryz.prog 181 Acv (As Vu A5a (De [.ret,.exit 0] Vz Al3)) :=
 Zs A5c 7 _ Ayt (fun d hd f hf=>by
  rw [Al4,List.mem_singleton] at hd
  subst hd
  rw [Al5] at hf
  cases hf
  exact B9q) Vu A5a (fun e=>by cases e <;> exact (by decide:(1000:Nat)≤2000)) [.ret,.exit 0] Vz Al3 B9r
theorem Al6 {P:Program} {f:Nat} {fn:Func} {la:Code} {sum:St→Tree (XE×St)} {k:Nat} (h1:∀ d ∈ Aj (bodyOf fn),keyOf d=k→d=la) (h2:Ax P f la sum) :
  ∀ p ∈ [(f,fn)],∀ d ∈ Aj (bodyOf p.2),∀ g,C9 [((f,k),sum)] p.1 (keyOf d)=some g→Ax P p.1 d g:=by
 intro p hp d hd g hg
 simp only [List.mem_singleton] at hp
 subst hp
 simp only at hd hg
 by_cases hk:keyOf d=k
 ·rw [h1 d hd hk]
  rw [hk] at hg
  simp [C9] at hg
  subst hg
  exact h2
 ·have:Nat.beq k (keyOf d)=false:=by
   cases h:Nat.beq k (keyOf d) with
   | false=>rfl
   | true=>exact absurd (Nat.eq_of_beq_eq_true h).symm hk
  simp only [C9,this,Bool.and_false,cond_false] at hg
  cases hg
theorem Al7:Aj (bodyOf Tryz.f181)=[Acv,Acw]:=by kernel_rfl
noncomputable def B9t:Ctx:=Ib Tryz.prog plAp [(181,Tryz.f181)] [((181,2),As Vu A5a (De [.ret,.exit 0] Vz Al3))]
theorem At9:CtxOk B9t:=Cj Am puAp (fns_cons is_lapart A3) (Al6 (fun d hd hk=>by
 rw [Al7,List.mem_cons,List.mem_singleton] at hd
 rcases hd with rfl | rfl
 ·rfl
 ·rw [Al5] at hk;cases hk) B9s)
def P1 (w l:Int) (d:TCT A1):Bool:=inR d.1.1 d.2.1 (W64 (w-d.2.1))&&inR d.1.2.1 d.2.1 (W64 (l-d.2.1))
def apF (w l:Int) (p:List (TCT A1)):Bool:=I6 (fun i d=>P1 w l d&&!(p.take i).any (touB d)) 0 p
def Al8 (l:TCT A8) (p:List (TCT A1)):Option (A0 A5a):=iter Vz (p.length+1) (A0z (Dl l) p p p.length 0)
def B0s (l:TCT A8) (p:List (TCT A1)):TBo:=bif isE .ret (Al8 l p) then .leaf ((C3 .ret (Al8 l p)).1.1,()) else bif isE (.exit 0) (Al8 l p) then .leaf (true,()) else .fail
theorem Ata (l:TCT A8) (p:List (TCT A1)) (hp:(p.length:Int)≤B0 .i64):Al8 l p=some (bif apF l.2.1 l.2.2.1 p then Tn else Q6 false):=by
 have hp':(p.length:Int)≤9223372036854775807:=hp
 unfold Al8
 have key:=Es (st:=Vz) p (fun i (_:Unit)=>A0z (Dl l) p p p.length (i:Int)) (fun i d _=>bif P1 l.2.1 l.2.2.1 d&&!(p.take i).any (touB d) then some (.inl ()) else some (.inr (Q6 false))) (fun _=>some Tn) (fun _ _=>True)
  (fun i s hi _=>by
   have hrun:(Vz (A0z (Dl l) p p p.length (i:Int))).run=some (bif P1 l.2.1 l.2.2.1 p[i]&&!(p.take i).any (touB p[i]) then .inl (A0z (Dl l) p p p.length ((i+1:Nat):Int)) else .inr (Q6 false)):=by
    show (bif decide ((i:Int)<(p.length:Int)) then bif decide (0≤(i:Int)∧(i:Int)<(p.length:Int)) then Al2 (Dl l) p p p.length (i:Int) (Al p (Int.toNat (i:Int)) (Ak A1)) else .fail else .leaf (.inr Tn):TAo).run=_
    rw [decide_eq_true (show (i:Int)<(p.length:Int) by omega),decide_eq_true (show 0≤(i:Int)∧(i:Int)<(p.length:Int) by omega),show Int.toNat (i:Int)=i by omega,D2 hi]
    simp only [cond_true]
    unfold Al2 P1
    have hw:(Dl l).2.1=l.2.1:=rfl
    have hl:(Dl l).2.2.1=l.2.2.1:=rfl
    rw [hw,hl]
    cases inR p[i].1.1 p[i].2.1 (W64 (l.2.1-p[i].2.1)) with
    | false=>rfl
    | true =>
     cases inR p[i].1.2.1 p[i].2.1 (W64 (l.2.2.1-p[i].2.1)) with
     | false=>rfl
     | true =>
      simp only [Bool.not_true,cond_false,Bool.true_and]
      have ht:(p.take i).length=i:=by rw [List.length_take];omega
      have hy:B5v (Dl l) (toD p[i]) p p p.length (i:Int) (p.take i)=some (bif (p.take i).any (touB p[i]) then Tl else Tm (Dl l) p p p.length (i:Int)) :=
       At8 (Dl l) p[i] p p p.length (i:Int) (p.take i) (by rw [ht];show (i:Int)≤9223372036854775807;omega)
      rw [decide_eq_true (show 0≤(i:Int)∧(i:Int)≤(p.length:Int) by omega),cond_true,show Int.toNat (i:Int)=i by omega,hy]
      cases (p.take i).any (touB p[i]) with
      | true=>rfl
      | false =>
       show (Tree.leaf (Sum.inl (A0z (Dl l) p p p.length (W64 ((i:Int)+1)))):TAo).run=_
       rw [B5 (n:=(i:Int)+1) (by omega) (by omega)]
       rfl
   cases hb:P1 l.2.1 l.2.2.1 p[i]&&!(p.take i).any (touB p[i]) with
   | true=>rw [hb] at hrun;simp only [cond_true];exact ⟨hrun,trivial⟩
   | false=>rw [hb] at hrun;simp only [cond_false];exact hrun)
  (fun s e _ he=>by
   cases he
   show (bif decide ((p.length:Int)<(p.length:Int)) then _ else Tree.leaf (Sum.inr Tn):TAo).run=_
   rw [decide_eq_false (show ¬ (p.length:Int)<(p.length:Int) by omega)]
   rfl)
  p.length 0 () (bif apF l.2.1 l.2.2.1 p then Tn else Q6 false) (p.length+1) (by omega) (by omega) trivial (by
   rw [List.drop_zero]
   exact Vy (fun i d=>P1 l.2.1 l.2.2.1 d&&!(p.take i).any (touB d)) (Q6 false) Tn p 0)
 exact key
abbrev Acx:PureT:=Be [A8,.sl A1] [.b] (fun _=>true) (fun x=>(apF x.1.2.1 x.1.2.2.1 x.2.1,()))
theorem Atb:A7 Tryz.prog 181 Acx:=Bh At9 7 (fun x=>B0s x.1 x.2.1) (fun x=>by kernel_rfl) fun x _ hw=>by
 show (B0s x.1 x.2.1).sat _
 unfold B0s
 rw [Ata x.1 x.2.1 (G6 hw.2.1)]
 show ((bif isE .ret (some (bif apF x.1.2.1 x.1.2.2.1 x.2.1 then Tn else Q6 false)) then _ else _:TBo)).sat (fun y=>y=(apF x.1.2.1 x.1.2.2.1 x.2.1,()))
 cases apF x.1.2.1 x.1.2.2.1 x.2.1 <;> exact rfl
end St
end V
end Go.Proofs.YtlangijnealfjaaGreat
namespace Go.Proofs.YtlangijnealfjaaGreat
open Go.RowKit
namespace V
namespace St
theorem is_lCheck:FnIs Tryz.prog (105,Tryz.f105):=⟨Tryz.func105,by kernel_rfl,by kernel_rfl⟩
def nxL (l:TCT A8):Int:=l.2.2.2.2.2.2.1
def nyL (l:TCT A8):Int:=l.2.2.2.2.2.2.2.1
def Co (l:TCT A8):List (TCT Ce):=l.2.2.2.2.2.2.2.2.1
def M1 (l:TCT A8):Bool:=decide (((Aw l).length:Int)<1)||(decide (((Aw l).length:Int)>12)||decide (((Co l).length:Int)>256))
def A9o (l:TCT A8):Bool:=J7 l.1&&(inR l.2.1 65536 4194304&&(inR l.2.2.1 65536 4194304&&inR l.2.2.2.1 0 (W64 (Int.tdiv (min l.2.1 l.2.2.1) 4))))
def A9p (l:TCT A8):Bool:=!decide (nxL l<1)&&(!decide (nxL l>16)&&(!decide (nyL l<1)&&(!decide (nyL l>16)&&!(((Co l).length:Int)!=W64 (nxL l*nyL l)))))
def okL (l:TCT A8):Bool:=A9o l&&(inR (Kh l).2.1 1 8192&&(A9p l&&((Aw l).all Ft&&((Co l).all Gm&&apF l.2.1 l.2.2.1 (Bc l)))))
def Cd (l:TCT A8):Int:=bif M1 l then 6 else bif okL l then 0 else 2
abbrev To:PureT:=Be [A8] [cI] (fun x=>decide ((x.1.1.size:Int)≤B0 .i64)) (fun x=>(Cd x.1,()))
def plLc:List (Nat×PureT):=[(174,A2p),(120,s_inR),(52,L8),(181,Acx),(175,A4s),(178,A4x)]
theorem puLc:Ci Tryz.prog plLc:=puOk_cons is_vname.plain At3 (puOk_cons is_between2.plain q_between2 (puOk_cons is_lposts.plain A2l (puOk_cons is_lapart.plain Atb (puOk_cons is_cfHoop.plain Ak9 (puOk_cons is_cfCell.plain Ake puOk_nil)))))
abbrev TEr:=Tree (TCTs [cI])
def er (c:Bool) (e:Int) (k:TEr):TEr:=bif c then .leaf (e,()) else k
theorem M3 {a b:Bool} {e:Int} {k:TEr}:er (a||b) e k=er a e (er b e k):=by cases a <;> cases b <;> rfl
def B0t (l:TCT A8):TEr :=
 er (decide (((Aw l).length:Int)<1)) 6 (er (decide (((Aw l).length:Int)>12)) 6 (er (decide (((Co l).length:Int)>256)) 6 (
 bif decide ((l.1.size:Int)≤B0 .i64) then er (!J7 l.1) 2 (er (!inR l.2.1 65536 4194304) 2 (er (!inR l.2.2.1 65536 4194304) 2 (er (!inR l.2.2.2.1 0 (W64 (Int.tdiv (min l.2.1 l.2.2.1) 4))) 2 (er (!inR (Kh l).2.1 1 8192) 2 (
  er (decide (nxL l<1)) 2 (er (decide (nxL l>16)) 2 (er (decide (nyL l<1)) 2 (er (decide (nyL l>16)) 2 (er (((Co l).length:Int)!=W64 (nxL l*nyL l)) 2 (
  er ((Aw l).any (Dy ())) 2 (er ((Co l).any (Dz ())) 2 (
  bif decide ((Aw l).length≤1000) then er (!apF l.2.1 l.2.2.1 (Bc l)) 2 (.leaf (0,())) else .fail))))))))))))
 else .fail)))
theorem Jr {α:Type} (p:α→Bool) (l:List α):l.any (fun x=>!p x)=!l.all p:=by
 induction l with
 | nil=>rfl
 | cons x l ih=>simp only [List.any_cons,List.all_cons,ih,Bool.not_and]
theorem Atc {l:TCT A8} (hs:(l.1.size:Int)≤B0 .i64):(B0t l).sat (fun y=>y=(Cd l,())):=by
 unfold B0t Cd
 rw [← M3,← M3,Bool.or_assoc]
 show (er (M1 l) 6 _).sat _
 cases hm:M1 l with
 | true=>exact rfl
 | false =>
  have h12:(Aw l).length≤1000:=by
   unfold M1 at hm
   simp only [Bool.or_eq_false_iff,decide_eq_false_iff_not] at hm
   omega
  rw [decide_eq_true hs,decide_eq_true h12]
  show (er (!J7 l.1) 2 _).sat (fun y=>y=((bif okL l then 0 else 2),()))
  have hh:(Aw l).any (Dy ())=!(Aw l).all Ft:=Jr Ft _
  have hc:(Co l).any (Dz ())=!(Co l).all Gm:=Jr Gm _
  rw [hh,hc]
  unfold okL A9o A9p
  simp only [cond_true]
  generalize J7 l.1=b1
  generalize inR l.2.1 65536 4194304=b2
  generalize inR l.2.2.1 65536 4194304=b3
  generalize inR l.2.2.2.1 0 (W64 (Int.tdiv (min l.2.1 l.2.2.1) 4))=b4
  generalize inR (Kh l).2.1 1 8192=b5
  generalize decide (nxL l<1)=b6
  generalize decide (nxL l>16)=b7
  generalize decide (nyL l<1)=b8
  generalize decide (nyL l>16)=b9
  generalize (((Co l).length:Int)!=W64 (nxL l*nyL l))=b10
  generalize (Aw l).all Ft=b11
  generalize (Co l).all Gm=b12
  generalize apF l.2.1 l.2.2.1 (Bc l)=b13
  cases b1 <;> try exact rfl
  cases b2 <;> try exact rfl
  cases b3 <;> try exact rfl
  cases b4 <;> try exact rfl
  cases b5 <;> try exact rfl
  cases b6 <;> try exact rfl
  cases b7 <;> try exact rfl
  cases b8 <;> try exact rfl
  cases b9 <;> try exact rfl
  cases b10 <;> try exact rfl
  cases b11 <;> try exact rfl
  cases b12 <;> try exact rfl
  cases b13 <;> exact rfl
theorem Q7:A7 Tryz.prog 105 To:=Bh (Ap Am puLc (fns_cons is_lCheck A3)) 7 (fun x=>B0t x.1) (fun x=>by kernel_rfl) fun x hok _=>Atc (of_decide_eq_true hok)
end St
end V
end Go.Proofs.YtlangijnealfjaaGreat
namespace Go.Proofs.YtlangijnealfjaaGreat
open Go.RowKit
namespace V
namespace St
theorem Me {G E α:Type} {st:G→Tree (G⊕E)} (l:List α) (d:α) (hd:Int→G) (bad:α→Bool) (rt ex:E) (hl:(l.length:Int)≤B0 .i64)
  (h:∀ i:Int,st (hd i)=bif decide (i<(l.length:Int)) then bif decide (0≤i∧i<(l.length:Int)) then bif bad (Al l (Int.toNat i) d) then .leaf (.inr rt) else .leaf (.inl (hd (W64 (i+1)))) else .fail else .leaf (.inr ex)) :
  iter st (l.length+1) (hd 0)=some (bif l.any bad then rt else ex):=by
 have hl':(l.length:Int)≤9223372036854775807:=hl
 have key:=Es (st:=st) l (fun i (_:Unit)=>hd (i:Int)) (fun _ x _=>bif bad x then some (.inr rt) else some (.inl ())) (fun _=>some ex) (fun _ _=>True)
  (fun i s hi _=>by
   have hrun:(st (hd (i:Int))).run=some (bif bad l[i] then .inr rt else .inl (hd ((i+1:Nat):Int))):=by
    rw [h,decide_eq_true (show (i:Int)<(l.length:Int) by omega),decide_eq_true (show 0≤(i:Int)∧(i:Int)<(l.length:Int) by omega),show Int.toNat (i:Int)=i by omega,D2 hi,B5 (n:=(i:Int)+1) (by omega) (by omega)]
    cases bad l[i] <;> rfl
   cases hb:bad l[i] with
   | true=>rw [hb] at hrun;simp only [cond_true];exact hrun
   | false=>rw [hb] at hrun;simp only [cond_false];exact ⟨hrun,trivial⟩)
  (fun s e _ he=>by
   cases he
   rw [h,decide_eq_false (show ¬ (l.length:Int)<(l.length:Int) by omega)]
   rfl)
  l.length 0 () (bif l.any bad then rt else ex) (l.length+1) (by omega) (by omega) trivial (by rw [List.drop_zero];exact Rr bad (fun _=>rt) ex _ 0)
 exact key
theorem W0 {G E α:Type} {st:G→Tree (G⊕E)} (l:List α) (d:α) (hd:Int→G) (ok:Nat→α→Bool) (body:Int→α→Tree (G⊕E)) (rt ex:E) (hl:(l.length:Int)≤B0 .i64)
  (h:∀ i:Int,st (hd i)=bif decide (i<(l.length:Int)) then bif decide (0≤i∧i<(l.length:Int)) then body i (Al l (Int.toNat i) d) else .fail else .leaf (.inr ex))
  (hb:∀ (i:Nat) (hi:i<l.length),(body (i:Int) l[i]).run=some (bif ok i l[i] then .inl (hd ((i+1:Nat):Int)) else .inr rt)) :
  iter st (l.length+1) (hd 0)=some (bif I6 ok 0 l then ex else rt):=by
 have hl':(l.length:Int)≤9223372036854775807:=hl
 have key:=Es (st:=st) l (fun i (_:Unit)=>hd (i:Int)) (fun i x _=>bif ok i x then some (.inl ()) else some (.inr rt)) (fun _=>some ex) (fun _ _=>True)
  (fun i s hi _=>by
   have hrun:(st (hd (i:Int))).run=some (bif ok i l[i] then .inl (hd ((i+1:Nat):Int)) else .inr rt):=by
    rw [h,decide_eq_true (show (i:Int)<(l.length:Int) by omega),decide_eq_true (show 0≤(i:Int)∧(i:Int)<(l.length:Int) by omega),show Int.toNat (i:Int)=i by omega,D2 hi]
    exact hb i hi
   cases hk:ok i l[i] with
   | true=>rw [hk] at hrun;simp only [cond_true];exact ⟨hrun,trivial⟩
   | false=>rw [hk] at hrun;simp only [cond_false];exact hrun)
  (fun s e _ he=>by
   cases he
   rw [h,decide_eq_false (show ¬ (l.length:Int)<(l.length:Int) by omega)]
   rfl)
  l.length 0 () (bif I6 ok 0 l then ex else rt) (l.length+1) (by omega) (by omega) trivial (by rw [List.drop_zero];exact Vy ok rt ex _ 0)
 exact key
def plRc:List (Nat×PureT):=[]
theorem puRc:Ci Tryz.prog plRc:=puOk_nil
abbrev bL:BK:=(0,33,kLw)
def A9q:Lay:={ keys:=[1,3],ks:=[.p 0 0 0 0,.d cI],bs:=[bL],n:=224,nx:=1000,marks:=[] }
def A5f:Lay:={ keys:=[1],ks:=[.p 0 0 0 0],bs:=[bL],n:=224,nx:=1000,marks:=[] }
def B9u:Lay:={ keys:=[2],ks:=[.d cI],bs:=[],n:=224,nx:=1000,marks:=[] }
def S1:XE→Lay:=fun e=>match e with | .ret=>B9u | _=>A5f
def Alb (x:SKTs kLw) (i:Int):A9q.T:=(((),i,()),(x,()))
def A10:A0 S1:=⟨.ret,((2,()),())⟩
def Alc (x:SKTs kLw):A0 S1:=⟨.exit 0,(((),()),(x,()))⟩
def B9v (h:TCT Bp):TCT Bp:=(h.1,h.2.1,h.2.2.1,h.2.2.2.1,h.2.2.2.2.1,())
def hsX (x:SKTs kLw):List (TCT Bp):=x.2.2.2.2.1
def csX (x:SKTs kLw):List (TCT Ce):=x.2.2.2.2.2.2.2.2.2.2.1
def Acz (g:A9q.T):Tree (A9q.T⊕A0 S1):=bif decide (g.1.2.1<((hsX g.2.1).length:Int)) then bif decide (0≤g.1.2.1∧g.1.2.1<((hsX g.2.1).length:Int)) then
 bif !Ft (B9v (Al (hsX g.2.1) (Int.toNat g.1.2.1) (Ak Bp))) then .leaf (.inr A10) else .leaf (.inl (Alb g.2.1 (W64 (g.1.2.1+1)))) else .fail else .leaf (.inr (Alc g.2.1))
def Ald (g:A9q.T):Nat:=(hsX g.2.1).length+1
def A9r:Lay:={ keys:=[1,4],ks:=[.p 0 0 0 0,.d cI],bs:=[bL],n:=224,nx:=1000,marks:=[] }
def Ale (x:SKTs kLw) (i:Int):A9r.T:=(((),i,()),(x,()))
def Alf (x:SKTs kLw):A0 S1:=⟨.exit 2,(((),()),(x,()))⟩
def Ad0 (g:A9r.T):Tree (A9r.T⊕A0 S1):=bif decide (g.1.2.1<((csX g.2.1).length:Int)) then bif decide (0≤g.1.2.1∧g.1.2.1<((csX g.2.1).length:Int)) then
 bif !Gm (Al (csX g.2.1) (Int.toNat g.1.2.1) (Ak Ce)) then .leaf (.inr A10) else .leaf (.inl (Ale g.2.1 (W64 (g.1.2.1+1)))) else .fail else .leaf (.inr (Alf g.2.1))
def Alg (g:A9r.T):Nat:=(csX g.2.1).length+1
end St
end V
end Go.Proofs.YtlangijnealfjaaGreat
namespace Go.Proofs.YtlangijnealfjaaGreat
open Go.RowKit
namespace V
namespace St
def A5g:Lay:={ keys:=[1,5,6,7],ks:=[.p 0 0 0 0,.d (.sl A1),.d cI,.d cI],bs:=[bL],n:=224,nx:=2000,marks:=[] }
def B5y:Lay:={ keys:=[1,5,6],ks:=[.p 0 0 0 0,.d (.sl A1),.d cI],bs:=[bL],n:=224,nx:=2000,marks:=[] }
def Ayu:Lay:={ keys:=[2],ks:=[.d cI],bs:=[],n:=224,nx:=2000,marks:=[] }
def A2s:XE→Lay:=fun e=>match e with | .ret=>Ayu | _=>B5y
def W1:Lay:={ keys:=[1,5,6],ks:=[.p 0 0 0 0,.d (.sl A1),.d cI],bs:=[bL],n:=224,nx:=1000,marks:=[] }
def B9y:Lay:={ keys:=[],ks:=[],bs:=[],n:=224,nx:=2000,marks:=[] }
def A5h:XE→Lay:=fun e=>match e with | .ret=>Ayu | _=>B9y
def sqR (a b:TCT A1):Int:=W64 (W64 (W64 (a.1.1-b.1.1)*W64 (a.1.1-b.1.1))+W64 (W64 (a.1.2.1-b.1.2.1)*W64 (a.1.2.1-b.1.2.1)))
def Zz (d o:TCT A1):Bool:=decide (sqR d o<srD d o)
def inP {β:Type} (p:List (TCT A1)) (i:Int) (k:Tree β):Tree β:=bif decide (0≤i∧i<(p.length:Int)) then k else .fail
theorem Gn {β:Type} {p:List (TCT A1)} {i:Int} {k:Tree β} (h:0≤i∧i<(p.length:Int)):inP p i k=k:=by unfold inP;rw [decide_eq_true h];rfl
def gD (p:List (TCT A1)) (i:Int):TCT A1:=Al p (Int.toNat i) (Ak A1)
def Ad1 (x:SKTs kLw) (p:List (TCT A1)) (i k:Int):A5g.T:=(((),p,i,k,()),(x,()))
def Ad2:A0 A2s:=⟨.ret,((2,()),())⟩
def Ad3 (x:SKTs kLw) (p:List (TCT A1)) (i:Int):A0 A2s:=⟨.exit 6,(((),p,i,()),(x,()))⟩
def A9s (x:SKTs kLw) (p:List (TCT A1)) (i k:Int):Tree (A5g.T⊕A0 A2s):=bif decide (k<i) then
 inP p i (inP p k (inP p i (inP p k (inP p i (inP p k (inP p i (inP p k (bif Zz (gD p i) (gD p k) then .leaf (.inr Ad2) else .leaf (.inl (Ad1 x p i (W64 (k+1)))))))))))) else .leaf (.inr (Ad3 x p i))
def A5i (g:A5g.T):Tree (A5g.T⊕A0 A2s):=A9s g.2.1 g.1.2.1 g.1.2.2.1 g.1.2.2.2.1
def Alh (g:A5g.T):Nat:=(List.take (Int.toNat g.1.2.2.1) (g.1.2.1:List (TCT A1))).length+1
theorem Atd (x:SKTs kLw) (p:List (TCT A1)) (i:Nat) (hi:i<p.length) (hp:(p.length:Int)≤B0 .i64) :
  iter A5i ((p.take i).length+1) (Ad1 x p i 0)=some (bif (p.take i).any (Zz p[i]) then Ad2 else Ad3 x p i):=by
 have ht:(p.take i).length=i:=by rw [List.length_take];omega
 have hp':(p.length:Int)≤9223372036854775807:=hp
 refine Me (p.take i) (Ak A1) (fun k=>Ad1 x p i k) (Zz p[i]) Ad2 (Ad3 x p i) (by rw [ht];show (i:Int)≤9223372036854775807;omega) fun k=>?_
 show A9s x p i k=_
 unfold A9s
 rw [ht]
 by_cases hk:k<(i:Int)
 ·rw [decide_eq_true hk,cond_true,cond_true]
  by_cases h0:0≤k
  ·have hki:0≤k∧k<(p.length:Int):=by omega
   have hii:0≤(i:Int)∧(i:Int)<(p.length:Int):=by omega
   have e1:gD p (i:Int)=p[i]:=by unfold gD;rw [show Int.toNat (i:Int)=i by omega,D2 hi]
   have e2:gD p k=Al (p.take i) (Int.toNat k) (Ak A1):=by
    unfold gD
    have h1:Int.toNat k<p.length:=by omega
    have h2:Int.toNat k<(p.take i).length:=by omega
    rw [D2 h1,D2 h2,List.getElem_take]
   rw [Gn hii,Gn hki,Gn hii,Gn hki,Gn hii,Gn hki,Gn hii,Gn hki,e1,e2,decide_eq_true (show 0≤k∧k<(i:Int) by omega)]
   rfl
  ·have hii:0≤(i:Int)∧(i:Int)<(p.length:Int):=by omega
   rw [Gn hii,decide_eq_false (show ¬ (0≤k∧k<(i:Int)) by omega)]
   unfold inP
   rw [decide_eq_false (show ¬ (0≤k∧k<(p.length:Int)) by omega)]
   rfl
 ·rw [decide_eq_false hk];rfl
def Ad4 (x:SKTs kLw) (p:List (TCT A1)) (i:Int):W1.T:=(((),p,i,()),(x,()))
def A11 (e:Int):A0 A5h:=⟨.ret,((e,()),())⟩
def Ad5:A0 A5h:=⟨.exit 4,((),())⟩
abbrev TC3:=Tree (W1.T⊕A0 A5h)
def B0u (x:SKTs kLw) (p:List (TCT A1)) (i:Int):Option (A0 A2s):=iter A5i ((p.take (Int.toNat i)).length+1) (Ad1 x p i 0)
def B5z (r:B5y.T):W1.T:=Ad4 r.2.1 r.1.2.1 (W64 (r.1.2.2.1+1))
def B60 (y:Option (A0 A2s)):TC3:=bif isE .ret y then .leaf (.inr (A11 (C3 .ret y).1.1)) else bif isE (.exit 6) y then .leaf (.inl (B5z (C3 (.exit 6) y))) else .fail
def Ali (x:SKTs kLw) (p:List (TCT A1)) (i:Int) (d:TCT A1):TC3 :=
 inP p i (inP p i (bif !inR d.1.1 d.2.1 (W64 (x.2.1-d.2.1)) then .leaf (.inr (A11 2)) else inP p i (inP p i (inP p i (bif !inR d.1.2.1 d.2.1 (W64 (x.2.2.1-d.2.1)) then .leaf (.inr (A11 2)) else B60 (B0u x p i))))))
def A5j (g:W1.T):TC3:=bif decide (g.1.2.2.1<((g.1.2.1:List (TCT A1)).length:Int)) then bif decide (0≤g.1.2.2.1∧g.1.2.2.1<((g.1.2.1:List (TCT A1)).length:Int)) then Ali g.2.1 g.1.2.1 g.1.2.2.1 (gD g.1.2.1 g.1.2.2.1) else .fail else .leaf (.inr Ad5)
def Alj (g:W1.T):Nat:=(g.1.2.1:List (TCT A1)).length+1
def Ayv:Kr:=fun k=>bif Nat.beq k 24 then some (As A5g A2s (De [.ret,.exit 6] A5i Alh)) else none
end St
end V
end Go.Proofs.YtlangijnealfjaaGreat
namespace Go.Proofs.YtlangijnealfjaaGreat
open Go.RowKit
namespace V
namespace St
def Alo (x:SKTs kLw):Option (A0 S1):=iter Acz ((hsX x).length+1) (Alb x 0)
def Alp (x:SKTs kLw):Option (A0 S1):=iter Ad0 ((csX x).length+1) (Ale x 0)
def Alq (x:SKTs kLw) (p:List (TCT A1)):Option (A0 A5h):=iter A5j (p.length+1) (Ad4 x p 0)
def Alr (r:A5f.T):TEr:=bif decide ((hsX r.2.1).length≤1000) then
 bif isE .ret (Alq r.2.1 (Bc (Jk r.2.1))) then .leaf ((C3 .ret (Alq r.2.1 (Bc (Jk r.2.1)))).1.1,()) else bif isE (.exit 4) (Alq r.2.1 (Bc (Jk r.2.1))) then .leaf (0,()) else .fail else .fail
def Als (r:A5f.T):TEr:=er (!inR (Kh (Jk r.2.1)).2.1 1 8192) 2 (er (!inR (Kh (Jk r.2.1)).1.1 0 4194304) 2 (er (!inR (Kh (Jk r.2.1)).1.2.1 0 4194304) 2 (
 er (decide (nxL (Jk r.2.1)<1)) 2 (er (decide (nxL (Jk r.2.1)>16)) 2 (er (decide (nyL (Jk r.2.1)<1)) 2 (er (decide (nyL (Jk r.2.1)>16)) 2 (er (((csX r.2.1).length:Int)!=W64 (nxL (Jk r.2.1)*nyL (Jk r.2.1))) 2 (
 bif isE .ret (Alp r.2.1) then .leaf ((C3 .ret (Alp r.2.1)).1.1,()) else bif isE (.exit 2) (Alp r.2.1) then Alr (C3 (.exit 2) (Alp r.2.1)) else .fail))))))))
def Atf (l:TCT A8):TEr :=
 er (decide (((Aw l).length:Int)<1)) 6 (er (decide (((Aw l).length:Int)>12)) 6 (er (decide (((Co l).length:Int)>256)) 6 (
 bif decide ((l.1.size:Int)≤B0 .i64) then er (!J7 l.1) 2 (er (!inR l.2.1 65536 4194304) 2 (er (!inR l.2.2.1 65536 4194304) 2 (er (!inR l.2.2.2.1 0 (W64 (Int.tdiv (min l.2.1 l.2.2.1) 4))) 2 (
  bif isE .ret (Alo (Dl l)) then .leaf ((C3 .ret (Alo (Dl l))).1.1,()) else bif isE (.exit 0) (Alo (Dl l)) then Als (C3 (.exit 0) (Alo (Dl l))) else .fail))))
 else .fail)))
end St
end V
end Go.Proofs.YtlangijnealfjaaGreat
namespace Go.Proofs.YtlangijnealfjaaGreat
open Go.RowKit
namespace V
namespace St
def apR (w l:Int) (p:List (TCT A1)):Bool:=I6 (fun i d=>P1 w l d&&!(p.take i).any (Zz d)) 0 p
theorem Ath (x:SKTs kLw) (hl:((hsX x).length:Int)≤B0 .i64):Alo x=some (bif (hsX x).any (fun h=>!Ft h) then A10 else Alc x) :=
 Me (hsX x) (Ak Bp) (Alb x) (fun h=>!Ft h) A10 (Alc x) hl (fun _=>rfl)
theorem Ati (x:SKTs kLw) (hl:((csX x).length:Int)≤B0 .i64):Alp x=some (bif (csX x).any (fun h=>!Gm h) then A10 else Alf x) :=
 Me (csX x) (Ak Ce) (Ale x) (fun h=>!Gm h) A10 (Alf x) hl (fun _=>rfl)
theorem Atj (x:SKTs kLw) (p:List (TCT A1)) (hp:(p.length:Int)≤B0 .i64):Alq x p=some (bif apR x.2.1 x.2.2.1 p then Ad5 else A11 2):=by
 have hp':(p.length:Int)≤9223372036854775807:=hp
 refine W0 p (Ak A1) (Ad4 x p) (fun i d=>P1 x.2.1 x.2.2.1 d&&!(p.take i).any (Zz d)) (Ali x p) (A11 2) Ad5 hp (fun _=>rfl) fun i hi=>?_
 have hii:0≤(i:Int)∧(i:Int)<(p.length:Int):=by omega
 unfold Ali P1
 rw [Gn hii,Gn hii,Gn hii,Gn hii,Gn hii]
 cases inR p[i].1.1 p[i].2.1 (W64 (x.2.1-p[i].2.1)) with
 | false=>rfl
 | true =>
  cases inR p[i].1.2.1 p[i].2.1 (W64 (x.2.2.1-p[i].2.1)) with
  | false=>rfl
  | true =>
   have hy:B0u x p (i:Int)=some (bif (p.take i).any (Zz p[i]) then Ad2 else Ad3 x p i):=by
    unfold B0u
    rw [show Int.toNat (i:Int)=i by omega]
    exact Atd x p i hi hp
   simp only [Bool.not_true,cond_false,Bool.true_and]
   rw [hy]
   cases (p.take i).any (Zz p[i]) with
   | true=>rfl
   | false =>
    show (Tree.leaf (Sum.inl (Ad4 x p (W64 ((i:Int)+1)))):TC3).run=_
    rw [B5 (n:=(i:Int)+1) (by omega) (by omega)]
    rfl
def Atk (l:TCT A8):Bool:=inR (Kh l).2.1 1 8192&&(inR (Kh l).1.1 0 4194304&&inR (Kh l).1.2.1 0 4194304)
def okR (l:TCT A8):Bool:=A9o l&&((Aw l).all Ft&&(Atk l&&(A9p l&&((Co l).all Gm&&apR l.2.1 l.2.2.1 (Bc l)))))
def Atl (l:TCT A8):Int:=bif M1 l then 6 else bif okR l then 0 else 2
theorem A12 {l:TCT A8}:(Bc l).length=2*(Aw l).length+1:=by
 unfold Bc
 rw [List.length_append,Q5]
 rfl
theorem B62 {l:TCT A8} (h12:(Aw l).length≤1000):(Alr (((),()),(Dl l,()))).sat (fun y=>y=((bif apR l.2.1 l.2.2.1 (Bc l) then (0:Int) else 2),())):=by
 unfold Alr
 have e:Jk (((((),()),(Dl l,())):A5f.T).2.1)=l:=rfl
 have e2:hsX (((((),()),(Dl l,())):A5f.T).2.1)=Aw l:=rfl
 have hy:Alq (((((),()),(Dl l,())):A5f.T).2.1) (Bc l)=some (bif apR l.2.1 l.2.2.1 (Bc l) then Ad5 else A11 2):=Atj (Dl l) (Bc l) (by rw [A12];simp only [B0];omega)
 rw [e,e2,decide_eq_true h12,hy]
 cases apR l.2.1 l.2.2.1 (Bc l) <;> exact rfl
theorem L9 {a b:Bool} {k:TEr} (h:k.sat (fun y=>y=((bif b then (0:Int) else 2),()))):(er (!a) 2 k).sat (fun y=>y=((bif a&&b then (0:Int) else 2),())):=by
 cases a with
 | true=>exact h
 | false=>exact rfl
theorem Mf {a b:Bool} {k:TEr} (h:k.sat (fun y=>y=((bif b then (0:Int) else 2),()))):(er a 2 k).sat (fun y=>y=((bif !a&&b then (0:Int) else 2),())):=by
 cases a with
 | true=>exact rfl
 | false=>exact h
theorem B63 {l:TCT A8} (h12:(Aw l).length≤1000) (hc:((Co l).length:Int)≤B0 .i64):(Als (((),()),(Dl l,()))).sat (fun y=>y=((bif Atk l&&(A9p l&&((Co l).all Gm&&apR l.2.1 l.2.2.1 (Bc l))) then (0:Int) else 2),())):=by
 unfold Als Atk A9p
 have e:Jk (((((),()),(Dl l,())):A5f.T).2.1)=l:=rfl
 have e2:csX (((((),()),(Dl l,())):A5f.T).2.1)=Co l:=rfl
 rw [e,e2]
 simp only [Bool.and_assoc]
 refine L9 (L9 (L9 (Mf (Mf (Mf (Mf (Mf ?_)))))))
 rw [Ati (Dl l) hc]
 have hq:(csX (Dl l)).any (fun h=>!Gm h)=!(Co l).all Gm:=Jr Gm _
 rw [hq]
 cases (Co l).all Gm with
 | false=>exact rfl
 | true=>exact B62 h12
theorem Atm {l:TCT A8} (hs:(l.1.size:Int)≤B0 .i64) (hh:((Aw l).length:Int)≤B0 .i64) (hc:((Co l).length:Int)≤B0 .i64):(Atf l).sat (fun y=>y=(Atl l,())):=by
 unfold Atf Atl
 rw [← M3,← M3,Bool.or_assoc]
 show (er (M1 l) 6 _).sat _
 cases hm:M1 l with
 | true=>exact rfl
 | false =>
  have h12:(Aw l).length≤1000:=by
   unfold M1 at hm
   simp only [Bool.or_eq_false_iff,decide_eq_false_iff_not] at hm
   omega
  rw [decide_eq_true hs]
  show (er (!J7 l.1) 2 _).sat (fun y=>y=((bif okR l then (0:Int) else 2),()))
  unfold okR A9o
  simp only [Bool.and_assoc]
  refine L9 (L9 (L9 (L9 ?_)))
  rw [Ath (Dl l) hh]
  have hq:(hsX (Dl l)).any (fun h=>!Ft h)=!(Aw l).all Ft:=Jr Ft _
  rw [hq]
  cases (Aw l).all Ft with
  | false=>exact rfl
  | true=>exact B63 h12 hc
end St
end V
end Go.Proofs.YtlangijnealfjaaGreat
namespace Go.Proofs.YtlangijnealfjaaGreat
open Go.RowKit
namespace V
namespace St
theorem Gp {x lo hi:Int}:inR x lo hi=true ↔ lo≤x∧x≤hi:=by unfold inR;simp only [Bool.and_eq_true,decide_eq_true_eq]
theorem Ad6 {α:Type} {p:List α} {ok1 ok2:Nat→α→Bool} (ins:α→Bool) (h:∀ (i:Nat) (hi:i<p.length),(∀ o ∈ p.take i,ins o=true)→ok1 i p[i]=ok2 i p[i]) (h1:∀ i x,ok1 i x=true→ins x=true) :
  ∀ (k i:Nat),i+k=p.length→(∀ o ∈ p.take i,ins o=true)→I6 ok1 i (p.drop i)=I6 ok2 i (p.drop i)
 | 0,i,hk,_=>by
  rw [List.drop_eq_nil_of_le (by omega)];rfl
 | k+1,i,hk,hp=>by
  have hi:i<p.length:=by omega
  rw [List.drop_eq_getElem_cons hi]
  simp only [I6]
  rw [← h i hi hp]
  cases ho:ok1 i p[i] with
  | false=>rfl
  | true =>
   rw [Bool.true_and,Bool.true_and]
   refine Ad6 ins h h1 k (i+1) (by omega) fun o hm=>?_
   rw [List.take_succ_eq_append_getElem hi,List.mem_append,List.mem_singleton] at hm
   rcases hm with hm | rfl
   ·exact hp o hm
   ·exact h1 i _ ho
theorem A5k {α:Type} {ok:Nat→α→Bool}:∀ (l:List α) (i:Nat),I6 ok i l=true→∀ x ∈ l,∃ j,ok j x=true
 | y::l,i,h,x,hx=>by
  simp only [I6,Bool.and_eq_true] at h
  rcases List.mem_cons.1 hx with rfl | hx
  ·exact ⟨i,h.1⟩
  ·exact A5k l (i+1) h.2 x hx
structure On (d:TCT A1):Prop where
 x:0≤d.1.1∧d.1.1≤4194304
 y:0≤d.1.2.1∧d.1.2.1≤4194304
 r:1≤d.2.1∧d.2.1≤8192
theorem Atn {x y r w l:Int} (hw:0≤w∧w≤4194304) (hl:0≤l∧l≤4194304) (hr:1≤r∧r≤8192) (h:(r≤x∧x≤W64 (w-r))∧r≤y∧y≤W64 (l-r)):(0≤x∧x≤4194304)∧0≤y∧y≤4194304:=by
 rw [B5 (n:=w-r) (by omega) (by omega),B5 (n:=l-r) (by omega) (by omega)] at h
 omega
theorem Alt {w l:Int} (hw:0≤w∧w≤4194304) (hl:0≤l∧l≤4194304) {d:TCT A1} (hr:1≤d.2.1∧d.2.1≤8192) (h:P1 w l d=true):On d:=by
 unfold P1 at h
 simp only [Bool.and_eq_true,Gp] at h
 obtain ⟨h1,h2⟩:=Atn hw hl hr h
 exact ⟨h1,h2,hr⟩
theorem Alu {x y r:Int} (hx:0≤x∧x≤4194304) (hy:0≤y∧y≤4194304) (hr:1≤r∧r≤8192):X5 x y r=0:=by
 unfold X5 K9 fpt B6
 rw [decide_eq_true (show -4194304≤x∧x≤4194304 ∧ -4194304≤y∧y≤4194304 by omega),decide_eq_false (show ¬ r<1 by omega),decide_eq_false (show ¬ 65536<r by omega)]
 rfl
theorem Alv {a b:Int} (ha:0≤a∧a≤4194304) (hb:0≤b∧b≤4194304):W64 (b-a)*W64 (b-a)=W64 (a-b)*W64 (a-b):=by
 rw [B5 (n:=b-a) (by omega) (by omega),B5 (n:=a-b) (by omega) (by omega)]
 grind
theorem B0y {d o:TCT A1} (hd:On d) (ho:On o):touB d o=Zz d o:=by
 have e:sqD d o=sqR d o:=by
  unfold sqD sqR
  rw [Alv hd.x ho.x,Alv hd.y ho.y]
 have c1:cdE d=0:=Alu hd.x hd.y hd.r
 have c2:cdE o=0:=Alu ho.x ho.y ho.r
 unfold touB Zz S0
 rw [c1,c2,e]
 show decide (Al0 (sqR d o) (srD d o)<0)=_
 unfold Al0
 by_cases h:sqR d o<srD d o
 ·rw [decide_eq_true h];rfl
 ·rw [decide_eq_false h,cond_false]
  cases decide (sqR d o>srD d o) <;> rfl
theorem Nk {α:Type} {p q:α→Bool}:∀ {l:List α},(∀ x ∈ l,p x=q x)→l.any p=l.any q
 | [],_=>rfl
 | x::l,h=>by rw [List.any_cons,List.any_cons,h x (List.mem_cons_self ..),Nk fun y hy=>h y (List.mem_cons_of_mem _ hy)]
theorem B64 {w l:Int} (hw:0≤w∧w≤4194304) (hl:0≤l∧l≤4194304) {p:List (TCT A1)} (hr:∀ d ∈ p,1≤d.2.1∧d.2.1≤8192):apF w l p=apR w l p:=by
 have key:=Ad6 (p:=p) (ok1:=fun i d=>P1 w l d&&!(p.take i).any (touB d)) (ok2:=fun i d=>P1 w l d&&!(p.take i).any (Zz d)) (P1 w l)
  (fun i hi hp=>by
   cases hi':P1 w l p[i] with
   | false=>rfl
   | true =>
    have hd:=Alt hw hl (hr _ (List.getElem_mem hi)) hi'
    rw [Nk fun o ho=>B0y hd (Alt hw hl (hr o (List.mem_of_mem_take ho)) (hp o ho))])
  (fun i x h=>by simp only [Bool.and_eq_true] at h;exact h.1) p.length 0 (by omega) (fun o ho=>by rw [List.take_zero] at ho;cases ho)
 rw [List.drop_zero] at key
 exact key
theorem Ba2 {h:TCT Bp} {d:TCT A1} (hd:d ∈ w2 h):d.2.1=h.2.2.2.1:=by
 unfold w2 at hd
 cases hb:h.2.2.2.2.1 with
 | true =>
  rw [hb] at hd
  have hd:d ∈ [O9 h.1 (W64 (h.2.1-dW h)) h.2.2.2.1,O9 h.1 (W64 (h.2.1+dW h)) h.2.2.2.1]:=hd
  rcases List.mem_cons.1 hd with rfl | hd
  ·rfl
  ·rw [List.mem_singleton] at hd;subst hd;rfl
 | false =>
  rw [hb] at hd
  have hd:d ∈ [O9 (W64 (h.1-dW h)) h.2.1 h.2.2.2.1,O9 (W64 (h.1+dW h)) h.2.1 h.2.2.2.1]:=hd
  rcases List.mem_cons.1 hd with rfl | hd
  ·rfl
  ·rw [List.mem_singleton] at hd;subst hd;rfl
theorem Ato {l:TCT A8} (hh:(Aw l).all Ft=true) (hp:inR (Kh l).2.1 1 8192=true):∀ d ∈ Bc l,1≤d.2.1∧d.2.1≤8192:=by
 intro d hd
 unfold Bc at hd
 rw [List.mem_append,List.mem_singleton,List.mem_flatMap] at hd
 rcases hd with ⟨h,hm,hd⟩ | rfl
 ·have:=List.all_eq_true.1 hh h hm
  unfold Ft at this
  simp only [Bool.and_eq_true,Gp] at this
  rw [Ba2 hd]
  exact this.2.2.2.2
 ·exact Gp.1 hp
theorem Alw (l:TCT A8):Atl l=Cd l:=by
 unfold Atl Cd
 congr 2
 unfold okR okL
 cases hd:A9o l with
 | false=>rfl
 | true =>
  have hd':=hd
  unfold A9o at hd'
  simp only [Bool.and_eq_true,Gp] at hd'
  obtain ⟨_,⟨w1,w2'⟩,⟨l1,l2⟩,_⟩:=hd'
  have hw:0≤l.2.1∧l.2.1≤4194304:=⟨Int.le_trans (by decide) w1,w2'⟩
  have hl:0≤l.2.2.1∧l.2.2.1≤4194304:=⟨Int.le_trans (by decide) l1,l2⟩
  unfold Atk
  cases hh:(Aw l).all Ft with
  | false=>cases inR (Kh l).2.1 1 8192 <;> cases A9p l <;> rfl
  | true =>
   cases hp:inR (Kh l).2.1 1 8192 with
   | false=>rfl
   | true =>
    have hr:=Ato hh hp
    rw [← B64 hw hl hr]
    cases ha:apF l.2.1 l.2.2.1 (Bc l) with
    | false=>simp
    | true =>
     obtain ⟨j,hj⟩:=A5k (Bc l) 0 ha (Kh l) (by unfold Bc;simp)
     simp only [Bool.and_eq_true] at hj
     have on:=Alt hw hl (Gp.1 hp) hj.1
     have e1:inR (Kh l).1.1 0 4194304=true:=Gp.2 on.x
     have e2:inR (Kh l).1.2.1 0 4194304=true:=Gp.2 on.y
     rw [e1,e2]
     simp
end St
end V
end Go.Proofs.YtlangijnealfjaaGreat
namespace Go.Proofs.YtlangijnealfjaaGreat
open Go.RowKit
namespace V
namespace St
theorem is_Posts:FnIs Tryz.prog (101,Tryz.f101):=⟨Tryz.func101,by kernel_rfl,by kernel_rfl⟩
def plPs:List (Nat×PureT):=[(105,To),(52,L8)]
theorem puPs:Ci Tryz.prog plPs:=puOk_cons is_lCheck.plain Q7 (puOk_cons is_lposts.plain A2l (puOk_nil))
def J8 (l:TCT A8):List (TCT A1):=bif Cd l==0 then Bc l else []
abbrev Ad7:PureT:=Be [A8] [.sl A1,cI] (fun x=>decide ((x.1.1.size:Int)≤B0 .i64)) (fun x=>(J8 x.1,Cd x.1,()))
abbrev TPs:=Tree (TCTs [.sl A1,cI])
def szT {β:Type} (l:TCT A8) (k:Tree β):Tree β:=bif decide ((l.1.size:Int)≤B0 .i64) then k else .fail
theorem E1 {β:Type} {l:TCT A8} {k:Tree β} (h:(l.1.size:Int)≤B0 .i64):szT l k=k:=by unfold szT;rw [decide_eq_true h];rfl
def Ad8 (l:TCT A8):TPs:=bif decide ((Aw l).length≤1000) then .leaf (Bc l,0,()) else .fail
def B0z (l:TCT A8):TPs:=szT l (bif Cd l != 0 then .leaf ([],Cd l,()) else Ad8 l)
theorem Q9 {l:TCT A8} (h:Cd l=0):(Aw l).length≤12∧1≤(Aw l).length:=by
 unfold Cd at h
 cases hm:M1 l with
 | true=>rw [hm] at h;cases h
 | false =>
  unfold M1 at hm
  simp only [Bool.or_eq_false_iff,decide_eq_false_iff_not] at hm
  omega
theorem Aly {l:TCT A8} (h:Cd l=0):(Ad8 l).sat (fun y=>y=(J8 l,Cd l,())):=by
 have:=Q9 h
 unfold Ad8 J8
 rw [decide_eq_true (show (Aw l).length≤1000 by omega),h]
 exact rfl
theorem B65 {l:TCT A8}:(bif Cd l != 0 then .leaf ([],Cd l,()) else Ad8 l:TPs).sat (fun y=>y=(J8 l,Cd l,())):=by
 cases h:Cd l==0 with
 | true =>
  have h':Cd l=0:=by simpa using h
  rw [show (Cd l != 0)=false by simp [h']]
  exact Aly h'
 | false =>
  rw [show (Cd l != 0)=true by simpa using h]
  unfold J8
  rw [h]
  exact rfl
theorem Atp:A7 Tryz.prog 101 Ad7:=Bh (Ap Am puPs (fns_cons is_Posts A3)) 7 (fun x=>B0z x.1) (fun x=>by kernel_rfl) fun x hok _=>by
 show (B0z x.1).sat _
 unfold B0z
 rw [E1 (of_decide_eq_true hok)]
 exact B65
end St
end V
end Go.Proofs.YtlangijnealfjaaGreat
namespace Go.Proofs.YtlangijnealfjaaGreat
open Go.RowKit
namespace V
namespace St
theorem is_CellAt:FnIs Tryz.prog (193,Tryz.f193):=⟨Tryz.func193,by kernel_rfl,by kernel_rfl⟩
theorem is_lchk:FnIs Tryz.prog (47,Tryz.f47):=⟨Tryz.func47,by kernel_rfl,by kernel_rfl⟩
theorem is_lon:FnIs Tryz.prog (61,Tryz.f61):=⟨Tryz.func61,by kernel_rfl,by kernel_rfl⟩
def onB (l:TCT A8) (p:TCT cPt):Bool:=inR p.1 0 l.2.1&&inR p.2.1 0 l.2.2.1
def Tq (l:TCT A8) (p:TCT cPt):Int:=W64 (W64 (min (W64 (Int.tdiv (W64 (p.2.1*nyL l)) l.2.2.1)) (W64 (nyL l-1))*nxL l)+min (W64 (Int.tdiv (W64 (p.1*nxL l)) l.2.1)) (W64 (nxL l-1)))
def Atq (c:TCT Ce):TCT Ce:=(c.1,c.2.1,c.2.2.1,())
def zCe:TCT Ce:=(0,0,0,())
def A5l (l:TCT A8) (p:TCT cPt):Int:=bif Cd l != 0 then Cd l else bif fpt p.1 p.2.1 then 0 else 2
def Hy (l:TCT A8) (p:TCT cPt):Int:=bif A5l l p != 0 then A5l l p else bif onB l p then 0 else 5
def Kk (l:TCT A8) (p:TCT cPt):TCT Ce:=bif Hy l p==0 then Atq (Al (Co l) (Int.toNat (Tq l p)) (Ak Ce)) else zCe
abbrev A5m:PureT:=Be [A8,cPt] [Ce,cI] (fun x=>decide ((x.1.1.size:Int)≤B0 .i64)) (fun x=>(((Kk x.1 x.2.1).1,(Kk x.1 x.2.1).2.1,(Kk x.1 x.2.1).2.2.1,()),Hy x.1 x.2.1,()))
abbrev TCe:=Tree (TCTs [Ce,cI])
def S3 (e:Int):TCe:=.leaf (zCe,e,())
def Alz (l:TCT A8) (p:TCT cPt):TCe:=bif l.2.1 != 0 then bif l.2.2.1 != 0 then bif decide (0≤Tq l p∧Tq l p<((Co l).length:Int)) then .leaf (Atq (Al (Co l) (Int.toNat (Tq l p)) (Ak Ce)),0,()) else .fail else .fail else .fail
def A13 (l:TCT A8) (p:TCT cPt):TCe:=bif inR p.1 0 l.2.1 then bif !inR p.2.1 0 l.2.2.1 then S3 5 else Alz l p else S3 5
def Atr (l:TCT A8) (p:TCT cPt):TCe:=szT l (bif Cd l != 0 then bif Cd l != 0 then S3 (Cd l) else A13 l p else bif u_ck p.1 p.2.1 != 0 then S3 2 else A13 l p)
theorem Ats (x:TCTs [A8,cPt]):Dh (Aj1 2 Tryz.prog ((70,Ld)::(120,s_inR)::plPs) [(193,Tryz.f193),(47,Tryz.f47),(61,Tryz.f61)]) 7 (.fn 193) (Eg [A8,cPt] x) C4 0 (Ir Tryz.prog [Ce,cI])=Atr x.1 x.2.1:=by kernel_rfl
theorem Ad9 {a b c d:Int} (h0:0≤a) (h1:a≤c) (h2:0≤b) (h3:b≤d):a*b≤c*d:=Int.mul_le_mul h1 h3 h2 (by omega)
theorem A5n {y ny l:Int} (hl:1≤l∧l≤4194304) (hy:0≤y∧y≤l) (hn:1≤ny∧ny≤16):0≤min (W64 (Int.tdiv (W64 (y*ny)) l)) (W64 (ny-1))∧min (W64 (Int.tdiv (W64 (y*ny)) l)) (W64 (ny-1))≤ny-1:=by
 have h1:0≤y*ny:=Int.mul_nonneg hy.1 (by omega)
 have h2:y*ny≤4194304*16:=Ad9 hy.1 (by omega) (by omega) hn.2
 rw [B5 (n:=y*ny) (by omega) (by omega),Int.tdiv_eq_ediv_of_nonneg h1]
 have h3:=Int.ediv_nonneg h1 (show 0≤l by omega)
 have h4:=Int.ediv_le_self l h1
 rw [B5 (n:=y*ny / l) (by omega) (by omega),B5 (n:=ny-1) (by omega) (by omega)]
 omega
theorem Am0 {i k nx ny:Int} (hx:1≤nx∧nx≤16) (hy:1≤ny∧ny≤16) (hi:0≤i∧i≤nx-1) (hk:0≤k∧k≤ny-1):0≤W64 (W64 (k*nx)+i)∧W64 (W64 (k*nx)+i)<W64 (nx*ny):=by
 have h1:0≤k*nx:=Int.mul_nonneg hk.1 (by omega)
 have h2:k*nx≤(ny-1)*nx:=Int.mul_le_mul_of_nonneg_right hk.2 (by omega)
 have h3:nx*ny≤16*16:=Ad9 (by omega) hx.2 (by omega) hy.2
 have h4:(ny-1)*nx=nx*ny-nx:=by grind
 rw [B5 (n:=k*nx) (by omega) (by omega),B5 (n:=k*nx+i) (by omega) (by omega),B5 (n:=nx*ny) (by omega) (by omega)]
 omega
structure LawOk (l:TCT A8):Prop where
 w:65536≤l.2.1∧l.2.1≤4194304
 lg:65536≤l.2.2.1∧l.2.2.1≤4194304
 nx:1≤nxL l∧nxL l≤16
 ny:1≤nyL l∧nyL l≤16
 n:((Co l).length:Int)=W64 (nxL l*nyL l)
 hs:(Aw l).all Ft=true
 cs:(Co l).all Gm=true
 ap:apF l.2.1 l.2.2.1 (Bc l)=true
 hn:1≤(Aw l).length∧(Aw l).length≤12
theorem Am1 {l:TCT A8} (h:Cd l=0):LawOk l:=by
 have hn:=Q9 h
 unfold Cd at h
 cases hm:M1 l with
 | true=>rw [hm] at h;cases h
 | false =>
  rw [hm,cond_false] at h
  cases ho:okL l with
  | false=>rw [ho] at h;cases h
  | true =>
   unfold okL A9o A9p at ho
   simp only [Bool.and_eq_true,Gp,Bool.not_eq_true',decide_eq_false_iff_not,bne_eq_false_iff_eq] at ho
   obtain ⟨⟨_,hw,hl,_⟩,hp,⟨n1,n2,n3,n4,n5⟩,h1,h2,h3⟩:=ho
   exact ⟨hw,hl,⟨Int.not_lt.1 n1,Int.not_lt.1 n2⟩,⟨Int.not_lt.1 n3,Int.not_lt.1 n4⟩,n5,h1,h2,h3,hn.2,hn.1⟩
theorem Am2 {l:TCT A8} {p:TCT cPt} (h:Cd l=0) (ho:onB l p=true):Alz l p=.leaf (Atq (Al (Co l) (Int.toNat (Tq l p)) (Ak Ce)),0,()):=by
 have k:=Am1 h
 unfold onB at ho
 simp only [Bool.and_eq_true,Gp] at ho
 have hw:1≤l.2.1∧l.2.1≤4194304:=⟨Int.le_trans (by decide) k.w.1,k.w.2⟩
 have hl:1≤l.2.2.1∧l.2.2.1≤4194304:=⟨Int.le_trans (by decide) k.lg.1,k.lg.2⟩
 have hc:=Am0 k.nx k.ny (A5n hw ho.1 k.nx) (A5n hl ho.2 k.ny)
 rw [← k.n] at hc
 have e1:(l.2.1 != 0)=true:=by
  rw [bne_iff_ne];intro e;rw [e] at hw;exact absurd hw.1 (by decide)
 have e2:(l.2.2.1 != 0)=true:=by
  rw [bne_iff_ne];intro e;rw [e] at hl;exact absurd hl.1 (by decide)
 unfold Alz
 rw [e1,e2,decide_eq_true (show 0≤Tq l p∧Tq l p<((Co l).length:Int) from hc)]
 rfl
theorem Am3 {l:TCT A8} {p:TCT cPt} (h:Cd l=0):A13 l p=bif onB l p then .leaf (Atq (Al (Co l) (Int.toNat (Tq l p)) (Ak Ce)),0,()) else S3 5:=by
 cases ho:onB l p with
 | true =>
  have:=Am2 h ho
  unfold A13
  unfold onB at ho
  simp only [Bool.and_eq_true] at ho
  rw [ho.1,ho.2,this]
  rfl
 | false =>
  unfold A13
  unfold onB at ho
  cases h1:inR p.1 0 l.2.1 with
  | false=>rfl
  | true =>
   rw [h1,Bool.true_and] at ho
   rw [ho]
   rfl
def A9t (l:TCT A8) (p:TCT cPt):TCTs [Ce,cI]:=(((Kk l p).1,(Kk l p).2.1,(Kk l p).2.2.1,()),Hy l p,())
theorem B10 {l:TCT A8} {p:TCT cPt}:(bif A5l l p != 0 then S3 (A5l l p) else A13 l p:TCe).sat (fun y=>y=A9t l p):=by
 unfold A9t Kk Hy
 cases h1:A5l l p != 0 with
 | true =>
  have hne:(A5l l p==0)=false:=by
   rw [bne_iff_ne] at h1
   exact beq_eq_false_iff_ne.2 h1
  simp only [cond_true]
  rw [hne]
  exact rfl
 | false =>
  have hl:Cd l=0:=by
   unfold A5l at h1
   cases h2:Cd l != 0 with
   | true=>rw [h2,cond_true] at h1;rw [h2] at h1;cases h1
   | false=>exact bne_eq_false_iff_eq.1 h2
  simp only [cond_false]
  rw [Am3 hl]
  cases onB l p <;> exact rfl
theorem V6 (x y:Int):(u_ck x y != 0)=!fpt x y:=by unfold u_ck;cases fpt x y <;> rfl
def plCe:List (Nat×PureT):=(70,Ld)::(120,s_inR)::plPs
theorem puCe:Ci Tryz.prog plCe:=puOk_cons is_tChk.plain Ns (puOk_cons is_between2.plain q_between2 puPs)
theorem Att {l:TCT A8} {p:TCT cPt} (hs:(l.1.size:Int)≤B0 .i64):(Atr l p).sat (fun y=>y=A9t l p):=by
 have key:=B10 (l:=l) (p:=p)
 unfold Atr
 rw [E1 hs,V6]
 unfold A5l at key
 cases h:Cd l != 0 with
 | true =>
  rw [h] at key
  simp only [cond_true] at key ⊢
  rw [h] at key
  exact key
 | false =>
  rw [h] at key
  simp only [cond_false] at key ⊢
  cases hf:fpt p.1 p.2.1 with
  | true=>rw [hf] at key;exact key
  | false=>rw [hf] at key;exact key
theorem Am4:A7 Tryz.prog 193 A5m:=Bh (Rq (u:=2) Am puCe (fns_cons is_CellAt (fns_cons is_lchk (fns_cons is_lon A3)))) 7 (fun x=>Atr x.1 x.2.1) Ats fun x hok _=>Att (of_decide_eq_true hok)
end St
end V
end Go.Proofs.YtlangijnealfjaaGreat
namespace Go.Proofs.YtlangijnealfjaaGreat
open Go.RowKit
namespace V
namespace St
theorem is_cGround:FnIs Tryz.prog (62,Tryz.f62):=⟨Tryz.func62,by kernel_rfl,by kernel_rfl⟩
def A5 (g:TCT cGr):List (TCT A2):=g.2.1
def okG (g:TCT cGr):Bool:=(A5 g).all H8&&Gl g.2.2.1.1 g.2.2.1.2.1
def groE (g:TCT cGr):Int:=bif Cd g.1 != 0 then Cd g.1 else bif decide (((A5 g).length:Int)<1)||decide (((A5 g).length:Int)>8) then 6 else bif okG g then 0 else 2
abbrev Atu:PureT:=Be [cGr] [cI] (fun x=>decide ((x.1.1.1.size:Int)≤B0 .i64)) (fun x=>(groE x.1,()))
def plG:List (Nat×PureT):=[(105,To),(124,En),(121,A52)]
theorem puG:Ci Tryz.prog plG:=puOk_cons is_lCheck.plain Q7 (puOk_cons is_CheckBounce.plain Kb (puOk_cons is_cfBall.plain Akj (puOk_nil)))
def Am5 (g:TCT cGr):TEr:=bif okE (Gl g.2.2.1.1 g.2.2.1.2.1)!=0 then .leaf (2,()) else .leaf (0,())
def T_G (g:TCT cGr):TEr:=szT g.1 (bif Cd g.1 != 0 then .leaf (Cd g.1,()) else er (decide (((A5 g).length:Int)<1)) 6 (er (decide (((A5 g).length:Int)>8)) 6 (er ((A5 g).any (E0 ())) 2 (Am5 g))))
theorem B11 (x:TCTs [cGr]):Dh (ctx Tryz.prog plG [(62,Tryz.f62)]) 7 (.fn 62) (Eg [cGr] x) C4 0 (Ir Tryz.prog [cI])=T_G x.1:=by kernel_rfl
theorem B12 {g:TCT cGr} (hs:(g.1.1.size:Int)≤B0 .i64):(T_G g).sat (fun y=>y=(groE g,())):=by
 unfold T_G groE okG Am5
 have hq:(A5 g).any (E0 ())=!(A5 g).all H8:=Jr H8 _
 rw [E1 hs,hq,Vo,← M3]
 cases Cd g.1 != 0 with
 | true=>exact rfl
 | false =>
  simp only [cond_false]
  cases decide (((A5 g).length:Int)<1)||decide (((A5 g).length:Int)>8) with
  | true=>exact rfl
  | false=>cases (A5 g).all H8 <;> cases Gl g.2.2.1.1 g.2.2.1.2.1 <;> exact rfl
theorem Ba3:A7 Tryz.prog 62 Atu:=Bh (Ap Am puG (fns_cons is_cGround A3)) 7 (fun x=>T_G x.1) B11 fun x hok _=>B12 (of_decide_eq_true hok)
abbrev kGr:List SK:=[.d .s,.d cI,.d cI,.d cI,.d (.sl Bp),.d cI,.d cI,.d cI,.d cI,.d cI,.d (.sl Ce),.d (.sl A2),.d cI,.d cI]
def B66 (x:SKTs kGr):TCT cGr:=((x.1,x.2.1,x.2.2.1,x.2.2.2.1,x.2.2.2.2.1,((x.2.2.2.2.2.1,x.2.2.2.2.2.2.1,()),x.2.2.2.2.2.2.2.1,()),x.2.2.2.2.2.2.2.2.1,x.2.2.2.2.2.2.2.2.2.1,x.2.2.2.2.2.2.2.2.2.2.1,()),x.2.2.2.2.2.2.2.2.2.2.2.1,(x.2.2.2.2.2.2.2.2.2.2.2.2.1,x.2.2.2.2.2.2.2.2.2.2.2.2.2.1,()),())
def Il (g:TCT cGr):SKTs kGr:=(g.1.1,g.1.2.1,g.1.2.2.1,g.1.2.2.2.1,g.1.2.2.2.2.1,g.1.2.2.2.2.2.1.1.1,g.1.2.2.2.2.2.1.1.2.1,g.1.2.2.2.2.2.1.2.1,g.1.2.2.2.2.2.2.1,g.1.2.2.2.2.2.2.2.1,g.1.2.2.2.2.2.2.2.2.1,g.2.1,g.2.2.1.1,g.2.2.1.2.1,())
def A9u:Lay:={ keys:=[1,3],ks:=[.p 0 0 0 0,.d cI],bs:=[(0,64,kGr)],n:=39,nx:=1000,marks:=[] }
def Ba4:Lay:={ keys:=[1],ks:=[.p 0 0 0 0],bs:=[(0,64,kGr)],n:=39,nx:=1000,marks:=[] }
def B68:Lay:={ keys:=[2],ks:=[.d cI],bs:=[],n:=39,nx:=1000,marks:=[] }
def A9v:XE→Lay:=fun e=>match e with | .ret=>B68 | _=>Ba4
def Am6 (x:SKTs kGr) (i:Int):A9u.T:=(((),i,()),(x,()))
def Am7:A0 A9v:=⟨.ret,((2,()),())⟩
def Am8 (x:SKTs kGr):A0 A9v:=⟨.exit 0,(((),()),(x,()))⟩
def blX (x:SKTs kGr):List (TCT A2):=x.2.2.2.2.2.2.2.2.2.2.2.1
def Ada (b:TCT A2):Bool:=okE (Ie b.1 b.2.1)!=0
def Adb (g:A9u.T):Tree (A9u.T⊕A0 A9v):=bif decide (g.1.2.1<((blX g.2.1).length:Int)) then bif decide (0≤g.1.2.1∧g.1.2.1<((blX g.2.1).length:Int)) then
 bif Ada (Al (blX g.2.1) (Int.toNat g.1.2.1) (Ak A2)) then .leaf (.inr Am7) else .leaf (.inl (Am6 g.2.1 (W64 (g.1.2.1+1)))) else .fail else .leaf (.inr (Am8 g.2.1))
def Am9 (g:A9u.T):Nat:=(blX g.2.1).length+1
def Ama (x:SKTs kGr):Option (A0 A9v):=iter Adb ((blX x).length+1) (Am6 x 0)
def Atw (g:TCT cGr):TEr:=szT g.1 (bif Cd g.1 != 0 then szT g.1 (.leaf (Cd g.1,())) else er (decide (((A5 g).length:Int)<1)) 6 (er (decide (((A5 g).length:Int)>8)) 6 (
 bif isE .ret (Ama (Il g)) then .leaf ((C3 .ret (Ama (Il g))).1.1,()) else bif isE (.exit 0) (Ama (Il g)) then Am5 (B66 (C3 (.exit 0) (Ama (Il g))).2.1) else .fail)))
theorem Aty {g:TCT cGr} (hs:(g.1.1.size:Int)≤B0 .i64) (hb:((A5 g).length:Int)≤B0 .i64):(Atw g).sat (fun y=>y=(groE g,())):=by
 have hy:Ama (Il g)=some (bif (blX (Il g)).any Ada then Am7 else Am8 (Il g)):=Me (blX (Il g)) (Ak A2) (Am6 (Il g)) Ada Am7 (Am8 (Il g)) hb (fun _=>rfl)
 have hq:(blX (Il g)).any Ada=!(A5 g).all H8:=by
  rw [← Jr H8]
  exact Nk fun b _=>Vo _
 rw [hq] at hy
 unfold Atw groE okG
 rw [E1 hs,E1 hs,hy,← M3]
 cases Cd g.1 != 0 with
 | true=>exact rfl
 | false =>
  simp only [cond_false]
  cases decide (((A5 g).length:Int)<1)||decide (((A5 g).length:Int)>8) with
  | true=>exact rfl
  | false =>
   cases (A5 g).all H8 with
   | false=>exact rfl
   | true =>
    show (Am5 g).sat _
    unfold Am5
    rw [Vo]
    cases Gl g.2.2.1.1 g.2.2.1.2.1 <;> exact rfl
end St
end V
end Go.Proofs.YtlangijnealfjaaGreat
namespace Go.Proofs.YtlangijnealfjaaGreat
open Go.RowKit
namespace V
namespace St
theorem is_sOn:FnIs Tryz.prog (63,Tryz.f63):=⟨Tryz.func63,by kernel_rfl,by kernel_rfl⟩
abbrev A5o:PureT:=Be [A8,cPt] [.b] (fun _=>true) (fun x=>(onB x.1 x.2.1,()))
def B6b (l:TCT A8) (p:TCT cPt):TBo:=Py (decide (0≤p.1)) (Py (decide (p.1≤l.2.1)) (Py (decide (0≤p.2.1)) (.leaf (decide (p.2.1≤l.2.2.1),()))))
theorem B13 (l:TCT A8) (p:TCT cPt):onB l p=(decide (0≤p.1)&&(decide (p.1≤l.2.1)&&(decide (0≤p.2.1)&&decide (p.2.1≤l.2.2.1)))):=by
 unfold onB inR
 simp only [Bool.and_assoc]
theorem Ayw:A7 Tryz.prog 63 A5o:=Bh (Ap Am puOk_nil (fns_cons is_sOn A3)) 4 (fun x=>B6b x.1 x.2.1) (fun x=>by kernel_rfl) fun x _ _=>by
 show (B6b x.1 x.2.1).sat (fun y=>y=(onB x.1 x.2.1,()))
 rw [B13]
 exact G2 (G2 (G2 (A0o _)))
end St
end V
end Go.Proofs.YtlangijnealfjaaGreat
namespace Go.Proofs.YtlangijnealfjaaGreat
open Go.RowKit
namespace V
namespace St
theorem is_cState:FnIs Tryz.prog (64,Tryz.f64):=⟨Tryz.func64,by kernel_rfl,by kernel_rfl⟩
abbrev kSt:List SK:=[.d (.sl Au),.d (.sl .b),.d cI,.d cI,.d cI]
abbrev bsS:List BK:=[(0,64,kGr),(1,76,kSt)]
def plS1:List (Nat×PureT):=[(62,Atu),(125,Fv),(63,A5o)]
theorem puS1:Ci Tryz.prog plS1:=puOk_cons is_cGround.plain Ba3 (puOk_cons is_CheckMotion.plain Oe (puOk_cons is_sOn.plain Ayw (puOk_nil)))
def inN {β:Type} (n:Nat) (i:Int) (k:Tree β):Tree β:=bif decide (0≤i∧i<(n:Int)) then k else .fail
theorem Ea {β:Type} {n:Nat} {i:Int} {k:Tree β} (h:0≤i∧i<(n:Int)):inN n i k=k:=by unfold inN;rw [decide_eq_true h];rfl
def La (b:TCT A2) (m:TCT Au):Bool:=P8 b.1 b.2.1 m.1.1 m.1.2.1 m.2.1.1 m.2.1.2.1 m.2.2.1.1 m.2.2.1.2.1
def atM (m:TCT Au):TCT cPt:=(m.1.1,m.1.2.1,())
def A9w {β:Type} (no:Nat) (i:Int) (o:Bool) (m:TCT Au) (rt nx:Tree β):Tree β:=inN no i (bif o then bif !(m.2.1.1==0&&(m.2.1.2.1==0&&true)) then rt else nx else nx)
def W3 {β:Type} (nb no:Nat) (i:Int) (l:TCT A8) (b:TCT A2) (o:Bool) (m:TCT Au) (rt nx:Tree β):Tree β :=
 inN nb i (bif okE (La b m)!=0 then rt else inN no i (bif !o then bif !onB l (atM m) then rt else A9w no i o m rt nx else A9w no i o m rt nx))
def lwG (x:SKTs kGr):TCT A8:=(B66 x).1
noncomputable def B6d:Code:=(Aj (bodyOf Tryz.f64)).getD 0 .skip
def A5p:Lay:={ keys:=[2,3,30,31,32],ks:=[.p 0 0 0 0,.p 1 0 0 0,.d (.sl Au),.d cI,.d cI],bs:=bsS,n:=106,nx:=1000,marks:=[] }
def Ba6:Lay:={ keys:=[2,3],ks:=[.p 0 0 0 0,.p 1 0 0 0],bs:=bsS,n:=106,nx:=1000,marks:=[] }
def B6e:Lay:={ keys:=[4],ks:=[.d cI],bs:=[],n:=106,nx:=1000,marks:=[] }
def A2t:XE→Lay:=fun e=>match e with | .ret=>B6e | _=>Ba6
def Adc (x:SKTs kGr) (s:SKTs kSt) (m:List (TCT Au)) (n i:Int):A5p.T:=(((),(),m,n,i,()),(x,s,()))
def Add:A0 A2t:=⟨.ret,((2,()),())⟩
def Amb (x:SKTs kGr) (s:SKTs kSt):A0 A2t:=⟨.exit 0,(((),(),()),(x,s,()))⟩
def otS (s:SKTs kSt):List Bool:=s.2.1
def Ade (g:A5p.T):Tree (A5p.T⊕A0 A2t):=bif decide (g.1.2.2.2.2.1<g.1.2.2.2.1) then bif decide (0≤g.1.2.2.2.2.1∧g.1.2.2.2.2.1<((g.1.2.2.1:List (TCT Au)).length:Int)) then
 W3 (blX g.2.1).length (otS g.2.2.1).length g.1.2.2.2.2.1 (lwG g.2.1) (Al (blX g.2.1) (Int.toNat g.1.2.2.2.2.1) (Ak A2)) (Al (otS g.2.2.1) (Int.toNat g.1.2.2.2.2.1) (Ak .b)) (Al g.1.2.2.1 (Int.toNat g.1.2.2.2.2.1) (Ak Au))
  (.leaf (.inr Add)) (.leaf (.inl (Adc g.2.1 g.2.2.1 g.1.2.2.1 g.1.2.2.2.1 (W64 (g.1.2.2.2.2.1+1))))) else .fail else .leaf (.inr (Amb g.2.1 g.2.2.1))
def Amc (g:A5p.T):Nat:=(g.1.2.2.1:List (TCT Au)).length+1
theorem Ba7:Ax Tryz.prog 64 B6d (As A5p A2t (De [.ret,.exit 0] Ade Amc)):=Bo (Ap Am puS1 A3) 7 _ A5p A2t (fun e=>by cases e <;> exact Nat.le_refl _) [.ret,.exit 0] Ade Amc (fun g=>by kernel_rfl)
end St
end V
end Go.Proofs.YtlangijnealfjaaGreat
namespace Go.Proofs.YtlangijnealfjaaGreat
open Go.RowKit
namespace V
namespace St
def A2u:Lay:={ keys:=[2,3,5],ks:=[.p 0 0 0 0,.p 1 0 0 0,.d cI],bs:=bsS,n:=103,nx:=1000,marks:=[] }
def Ba8:Lay:={ keys:=[2,3],ks:=[.p 0 0 0 0,.p 1 0 0 0],bs:=bsS,n:=103,nx:=1000,marks:=[] }
def B6g:Lay:={ keys:=[4],ks:=[.d cI],bs:=[],n:=103,nx:=1000,marks:=[] }
def A00:XE→Lay:=fun e=>match e with | .ret=>B6g | _=>Ba8
def A5q (x:SKTs kGr) (s:SKTs kSt) (i:Int):A2u.T:=(((),(),i,()),(x,s,()))
def A5r:A0 A00:=⟨.ret,((2,()),())⟩
def Adf (x:SKTs kGr) (s:SKTs kSt):A0 A00:=⟨.exit 0,(((),(),()),(x,s,()))⟩
def msS (s:SKTs kSt):List (TCT Au):=s.1
def Adg (g:A2u.T):Tree (A2u.T⊕A0 A00):=bif decide (g.1.2.2.1<((blX g.2.1).length:Int)) then inN (msS g.2.2.1).length g.1.2.2.1 (
 W3 (blX g.2.1).length (otS g.2.2.1).length g.1.2.2.1 (lwG g.2.1) (Al (blX g.2.1) (Int.toNat g.1.2.2.1) (Ak A2)) (Al (otS g.2.2.1) (Int.toNat g.1.2.2.1) (Ak .b)) (Al (msS g.2.2.1) (Int.toNat g.1.2.2.1) (Ak Au))
  (.leaf (.inr A5r)) (.leaf (.inl (A5q g.2.1 g.2.2.1 (W64 (g.1.2.2.1+1)))))) else .leaf (.inr (Adf g.2.1 g.2.2.1))
def Amd (g:A2u.T):Nat:=(blX g.2.1).length+1
end St
end V
end Go.Proofs.YtlangijnealfjaaGreat
namespace Go.Proofs.YtlangijnealfjaaGreat
open Go.RowKit
namespace V
namespace St
def M9 (s:TCT cSt):SKTs kSt:=(s.1,s.2.1,s.2.2.1,s.2.2.2.1,s.2.2.2.2.1,())
def stOf (s:SKTs kSt):TCT cSt:=(s.1,s.2.1,s.2.2.1,s.2.2.2.1,s.2.2.2.2.1,())
def msT (s:TCT cSt):List (TCT Au):=s.1
def osT (s:TCT cSt):List Bool:=s.2.1
def okO (l:TCT A8) (b:TCT A2) (o:Bool) (m:TCT Au):Bool:=La b m&&(bif o then m.2.1.1==0&&(m.2.1.2.1==0&&true) else onB l (atM m))
def okS (g:TCT cGr) (os:List Bool) (i:Nat) (m:TCT Au):Bool:=okO g.1 (Al (A5 g) i (Ak A2)) (Al os i (Ak .b)) m
theorem A14 {G E:Type} {nb no:Nat} {i:Int} {l:TCT A8} {b:TCT A2} {o:Bool} {m:TCT Au} {rt:E} {nx:G} (h1:0≤i∧i<(nb:Int)) (h2:0≤i∧i<(no:Int)) :
  (W3 nb no i l b o m (.leaf (.inr rt)) (.leaf (.inl nx)):Tree (G⊕E)).run=some (bif okO l b o m then .inl nx else .inr rt):=by
 unfold W3 A9w okO
 rw [Ea h1,Vo,Ea h2,Ea h2]
 cases La b m with
 | false=>rfl
 | true =>
  cases o with
  | false=>cases onB l (atM m) <;> rfl
  | true=>cases m.2.1.1==0&&(m.2.1.2.1==0&&true) <;> rfl
def B6h (g:TCT cGr) (s:TCT cSt):Option (A0 A2t):=iter Ade ((msT s).length+1) (Adc (Il g) (M9 s) s.1 (msT s).length 0)
def B14 (g:TCT cGr) (s:TCT cSt):Option (A0 A00):=iter Adg ((A5 g).length+1) (A5q (Il g) (M9 s) 0)
theorem Atz {g:TCT cGr} {s:TCT cSt} (h1:(msT s).length=(A5 g).length) (h2:(osT s).length=(A5 g).length) (hm:((msT s).length:Int)≤B0 .i64) :
  B6h g s=some (bif I6 (okS g (osT s)) 0 (msT s) then Amb (Il g) (M9 s) else Add):=by
 refine W0 (msT s) (Ak Au) (fun i=>Adc (Il g) (M9 s) s.1 (msT s).length i) (okS g (osT s))
  (fun i m=>W3 (A5 g).length (osT s).length i g.1 (Al (A5 g) (Int.toNat i) (Ak A2)) (Al (osT s) (Int.toNat i) (Ak .b)) m (.leaf (.inr Add)) (.leaf (.inl (Adc (Il g) (M9 s) s.1 (msT s).length (W64 (i+1))))):Int→TCT Au→Tree (A5p.T⊕A0 A2t)) Add (Amb (Il g) (M9 s)) hm (fun i=>rfl) fun i hi=>?_
 rw [A14 (by omega) (by omega),show Int.toNat (i:Int)=i from rfl,E9 hi hm]
 rfl
theorem Au0 {g:TCT cGr} {s:TCT cSt} (h1:(msT s).length=(A5 g).length) (h2:(osT s).length=(A5 g).length) (hm:((msT s).length:Int)≤B0 .i64) :
  B14 g s=some (bif I6 (okS g (osT s)) 0 (msT s) then Adf (Il g) (M9 s) else A5r):=by
 unfold B14
 rw [← h1]
 refine W0 (msT s) (Ak Au) (fun i=>A5q (Il g) (M9 s) i) (okS g (osT s))
  (fun i m=>W3 (A5 g).length (osT s).length i g.1 (Al (A5 g) (Int.toNat i) (Ak A2)) (Al (osT s) (Int.toNat i) (Ak .b)) m (.leaf (.inr A5r)) (.leaf (.inl (A5q (Il g) (M9 s) (W64 (i+1))))):Int→TCT Au→Tree (A2u.T⊕A0 A00)) A5r (Adf (Il g) (M9 s)) hm (fun i=>?_) fun i hi=>?_
 ·show (bif decide (i<((A5 g).length:Int)) then inN (msT s).length i (W3 (A5 g).length (osT s).length i g.1 (Al (A5 g) (Int.toNat i) (Ak A2)) (Al (osT s) (Int.toNat i) (Ak .b)) (Al (msT s) (Int.toNat i) (Ak Au)) (.leaf (.inr A5r)) (.leaf (.inl (A5q (Il g) (M9 s) (W64 (i+1)))))) else .leaf (.inr (Adf (Il g) (M9 s))):Tree (A2u.T⊕A0 A00))=_
  rw [← h1]
  rfl
 ·rw [A14 (by omega) (by omega),show Int.toNat (i:Int)=i from rfl,E9 hi hm]
  rfl
def A2v (n:Int) (s:TCT cSt):Bool:=decide (s.2.2.1<0)||(decide (s.2.2.1≥n)||(decide (s.2.2.2.1<0)||(decide (s.2.2.2.1>8)||(decide (s.2.2.2.2.1<0)||decide (s.2.2.2.2.1>4000)))))
def A01 (g:TCT cGr) (s:TCT cSt):Bool:=(((msT s).length:Int)==((A5 g).length:Int))&&(((osT s).length:Int)==((A5 g).length:Int))
def vaE (g:TCT cGr) (s:TCT cSt):Int:=bif A01 g s then bif I6 (okS g (osT s)) 0 (msT s) then bif A2v (A5 g).length s then 2 else 0 else 2 else 17
def Gq (g:TCT cGr) (s:TCT cSt):Int:=bif groE g != 0 then groE g else vaE g s
abbrev B6i:PureT:=Be [cGr,cSt] [cI] (fun _=>true) (fun x=>(vaE x.1 x.2.1,()))
abbrev Adh:PureT:=Be [cGr,cSt] [cI] (fun x=>decide ((x.1.1.1.size:Int)≤B0 .i64)) (fun x=>(Gq x.1 x.2.1,()))
end St
end V
end Go.Proofs.YtlangijnealfjaaGreat
namespace Go.Proofs.YtlangijnealfjaaGreat
open Go.RowKit
namespace V
namespace St
def Ame (n:Int) (s:TCT cSt):TEr:=er (decide (s.2.2.1<0)) 2 (er (decide (s.2.2.1≥n)) 2 (er (decide (s.2.2.2.1<0)) 2 (er (decide (s.2.2.2.1>8)) 2 (er (decide (s.2.2.2.2.1<0)) 2 (er (decide (s.2.2.2.2.1>4000)) 2 (.leaf (0,())))))))
theorem Au1 (n:Int) (s:TCT cSt):Ame n s=er (A2v n s) 2 (.leaf (0,())):=by
 unfold Ame A2v
 rw [M3,M3,M3,M3,M3]
def Amf (g:TCT cGr) (s:TCT cSt) (k:TEr):TEr:=er (((msT s).length:Int)!=((A5 g).length:Int)) 17 (er (((osT s).length:Int)!=((A5 g).length:Int)) 17 k)
theorem Au2 (g:TCT cGr) (s:TCT cSt) (k:TEr):Amf g s k=er (!A01 g s) 17 k:=by
 unfold Amf A01
 rw [← M3]
 congr 1
 cases h1:((msT s).length:Int)==((A5 g).length:Int) <;> cases h2:((osT s).length:Int)==((A5 g).length:Int) <;> simp [bne,h1,h2]
theorem W4 {g:TCT cGr} {s:TCT cSt} (h:A01 g s=true):(msT s).length=(A5 g).length∧(osT s).length=(A5 g).length:=by
 unfold A01 at h
 simp only [Bool.and_eq_true,beq_iff_eq] at h
 omega
def Baa (g:TCT cGr) (y:Option (A0 A2t)):TEr:=bif isE .ret y then .leaf ((C3 .ret y).1.1,()) else bif isE (.exit 0) y then Ame (blX (C3 (.exit 0) y).2.1).length (stOf (C3 (.exit 0) y).2.2.1) else .fail
def Bab (g:TCT cGr) (y:Option (A0 A00)):TEr:=bif isE .ret y then .leaf ((C3 .ret y).1.1,()) else bif isE (.exit 0) y then Ame (blX (C3 (.exit 0) y).2.1).length (stOf (C3 (.exit 0) y).2.2.1) else .fail
def B15 (g:TCT cGr) (s:TCT cSt):TEr:=szT g.1 (bif groE g != 0 then .leaf (groE g,()) else Amf g s (Baa g (B6h g s)))
def B16 (g:TCT cGr) (s:TCT cSt):TEr:=Amf g s (Bab g (B14 g s))
theorem Amg {g:TCT cGr} {s:TCT cSt} {k:TEr} (h:A01 g s=true→k=bif I6 (okS g (osT s)) 0 (msT s) then Ame (A5 g).length s else .leaf (2,())):(Amf g s k).sat (fun y=>y=(vaE g s,())):=by
 rw [Au2]
 unfold vaE
 cases he:A01 g s with
 | false=>exact rfl
 | true =>
  rw [h he]
  cases I6 (okS g (osT s)) 0 (msT s) with
  | false=>exact rfl
  | true =>
   simp only [Bool.not_true,cond_true]
   rw [Au1]
   cases A2v (A5 g).length s <;> exact rfl
theorem Au3 {g:TCT cGr} {s:TCT cSt} (hs:(g.1.1.size:Int)≤B0 .i64) (hm:((msT s).length:Int)≤B0 .i64):(B15 g s).sat (fun y=>y=(Gq g s,())):=by
 unfold B15 Gq
 rw [E1 hs]
 cases groE g != 0 with
 | true=>exact rfl
 | false =>
  simp only [cond_false]
  refine Amg fun he=>?_
  obtain ⟨h1,h2⟩:=W4 he
  rw [Atz h1 h2 hm]
  cases I6 (okS g (osT s)) 0 (msT s) <;> rfl
theorem Au4 {g:TCT cGr} {s:TCT cSt} (hm:((msT s).length:Int)≤B0 .i64):(B16 g s).sat (fun y=>y=(vaE g s,())):=by
 unfold B16
 refine Amg fun he=>?_
 obtain ⟨h1,h2⟩:=W4 he
 rw [Au0 h1 h2 hm]
 cases I6 (okS g (osT s)) 0 (msT s) <;> rfl
noncomputable def Bac:Ctx:=Ib Tryz.prog plS1 [(64,Tryz.f64)] [((64,7),As A5p A2t (De [.ret,.exit 0] Ade Amc))]
theorem Au5:CtxOk Bac:=Cj Am puS1 (fns_cons is_cState A3) (Bw (by kernel_rfl) (by kernel_rfl) Ba7)
theorem Au6:A7 Tryz.prog 64 Adh:=Bh Au5 7 (fun x=>B15 x.1 x.2.1) (fun x=>by kernel_rfl) fun x hok hw=>Au3 (of_decide_eq_true hok) (G6 hw.2.1.1)
def plS2:List (Nat×PureT):=plS1
theorem puS2:Ci Tryz.prog plS2:=puS1
end St
end V
end Go.Proofs.YtlangijnealfjaaGreat
namespace Go.Proofs.YtlangijnealfjaaGreat
open Go.RowKit
namespace V
def An {S B:Type} (f:Nat→S→S⊕B):Nat→Nat→S→S⊕B
 | _,0,s=>.inl s
 | i,k+1,s=>match f i s with
  | .inl s'=>An f (i+1) k s'
  | .inr b=>.inr b
def Amj {G E S B:Type} (hd:Nat→S→G) (res:S⊕B→E) (i:Nat):S⊕B→G⊕E
 | .inl s=>.inl (hd (i+1) s)
 | .inr b=>.inr (res (.inr b))
theorem I7 {G E S B:Type} {st:G→Tree (G⊕E)} (n:Nat) (hd:Nat→S→G) (f:Nat→S→S⊕B) (res:S⊕B→E) (Inv:Nat→S→Prop)
  (h1:∀ i s,i<n→Inv i s→(st (hd i s)).run=some (Amj hd res i (f i s)))
  (h2:∀ i s s',i<n→Inv i s→f i s=.inl s'→Inv (i+1) s')
  (h3:∀ s,Inv n s→(st (hd n s)).run=some (.inr (res (.inl s)))) :
  ∀ (k i:Nat) (s:S),i+k=n→Inv i s→iter st (k+1) (hd i s)=some (res (An f i k s))
 | 0,i,s,hk,hi=>by
  have e:i=n:=by omega
  subst e
  exact Gy (h3 s hi)
 | k+1,i,s,hk,hi=>by
  have hlt:i<n:=by omega
  have hr:=h1 i s hlt hi
  unfold An
  cases hf:f i s with
  | inl s' =>
   rw [hf] at hr
   rw [O6 hr]
   exact I7 n hd f res Inv h1 h2 h3 k (i+1) s' (by omega) (h2 i s s' hlt hi hf)
  | inr b =>
   rw [hf] at hr
   exact Gy hr
theorem Az {S B:Type} {f:Nat→S→S⊕B} {Inv:Nat→S→Prop} {n:Nat} (h2:∀ i s s',i<n→Inv i s→f i s=.inl s'→Inv (i+1) s'):∀ (k i:Nat) (s s':S),i+k=n→Inv i s→An f i k s=.inl s'→Inv n s'
 | 0,i,s,s',hk,hi,h=>by
  have e:i=n:=by omega
  subst e
  cases h
  exact hi
 | k+1,i,s,s',hk,hi,h=>by
  unfold An at h
  cases hf:f i s with
  | inl t=>rw [hf] at h;exact Az h2 k (i+1) t s' (by omega) (h2 i s t (by omega) hi hf) h
  | inr b=>rw [hf] at h;cases h
theorem H9 {β:Type} {h w:List β} {b:Nat} (k:h.length+w.length≤1000000) (hb:b≤48):D4 h w b=true:=by
 rw [F2,decide_eq_true_iff]
 have h1:((h.length+w.length:Nat):Int)≤1000000:=by omega
 have h2:(b:Int)≤48:=by omega
 calc ((h.length+w.length:Nat):Int)*b≤1000000*48:=Int.mul_le_mul h1 h2 (by omega) (by decide)
  _≤140737488355328:=by decide
namespace St
theorem is_sLie:FnIs Tryz.prog (24,Tryz.f24):=⟨Tryz.func24,by kernel_rfl,by kernel_rfl⟩
theorem is_sStill:FnIs Tryz.prog (26,Tryz.f26):=⟨Tryz.func26,by kernel_rfl,by kernel_rfl⟩
theorem is_sstill:FnIs Tryz.prog (69,Tryz.f69):=⟨Tryz.func69,by kernel_rfl,by kernel_rfl⟩
abbrev kSo:List SK:=[.o 84 Au,.o 4 .b,.d cI,.d cI,.d cI]
noncomputable def B6j:Code:=(Aj (bodyOf Tryz.f24)).getD 0 .skip
abbrev Ayx:List BK:=[(0,64,kGr),(1,76,kSt),(3,76,kSo)]
def A9x:Lay:={ keys:=[2,4,7,27,28,29],ks:=[.p 0 0 0 0,.p 1 0 0 0,.p 3 0 0 0,.d (.sl cPt),.d cI,.d cI],bs:=Ayx,n:=48,nx:=1000,marks:=[] }
def Bae:Lay:={ keys:=[4,7],ks:=[.p 1 0 0 0,.p 3 0 0 0],bs:=[(1,76,kSt),(3,76,kSo)],n:=48,nx:=1000,marks:=[] }
def B6k:Lay:={ keys:=[4,5],ks:=[.p 1 0 0 0,.d cI],bs:=[(1,76,kSt)],n:=48,nx:=1000,marks:=[] }
def A2w:XE→Lay:=fun e=>match e with | .ret=>B6k | _=>Bae
def Baf:Lay:={ keys:=[1,2,4,6,7],ks:=[.d (.sl cPt),.p 0 0 0 0,.p 1 0 0 0,.p 3 0 0 0,.d cI],bs:=Ayx,n:=51,nx:=1000,marks:=[] }
def Bag:Lay:={ keys:=[4,6],ks:=[.p 1 0 0 0,.p 3 0 0 0],bs:=[(1,76,kSt),(3,76,kSo)],n:=51,nx:=1000,marks:=[] }
def B6l:Lay:={ keys:=[4,5],ks:=[.p 1 0 0 0,.d cI],bs:=[(1,76,kSt)],n:=51,nx:=1000,marks:=[] }
def Bah:XE→Lay:=fun e=>match e with | .ret=>B6l | _=>Bag
def A02 (p:TCT cPt):TCT Au:=((p.1,p.2.1,()),(0,0,()),(0,0,()),())
def Amk (p:TCT cPt):TCT cPt:=(p.1,p.2.1,())
def Ayy {β:Type} (p:TCT cPt) (ms:List (TCT Au)) (nx:List (TCT Au)→Tree β):Tree β:=bif D4 ms [A02 p] 48 then nx (ms++[A02 p]) else .fail
def Adi (x:SKTs kGr) (r q:SKTs kSt) (p:List (TCT cPt)) (n i:Int) (ms:List (TCT Au)):A9x.T:=(((),(),(),p,n,i,()),(x,r,(ms,q.2),()))
def Ayz:A0 A2w:=⟨.ret,(((),2,()),(([],[],0,0,0,()),()))⟩
def Az0 (r q:SKTs kSt) (ms:List (TCT Au)):A0 A2w:=⟨.exit 0,(((),(),()),(r,(ms,q.2),()))⟩
abbrev TLi:=Tree (A9x.T⊕A0 A2w)
def W5 (x:SKTs kGr) (r q:SKTs kSt) (p:List (TCT cPt)) (n i:Int) (ms:List (TCT Au)):TLi:=bif decide (i<n) then inN p.length i (
 bif !onB (lwG x) (Amk (Al p (Int.toNat i) (Ak cPt))) then .leaf (.inr Ayz) else Ayy (Al p (Int.toNat i) (Ak cPt)) ms fun ms'=>.leaf (.inl (Adi x r q p n (W64 (i+1)) ms'))) else .leaf (.inr (Az0 r q ms))
def A5s (g:A9x.T):TLi:=W5 g.2.1 g.2.2.1 g.2.2.2.1 g.1.2.2.2.1 g.1.2.2.2.2.1 g.1.2.2.2.2.2.1 g.2.2.2.1.1
def Aml (g:A9x.T):Nat:=(g.1.2.2.2.1:List (TCT cPt)).length+1
theorem Bai:Ax Tryz.prog 24 B6j (As A9x A2w (De [.ret,.exit 0] A5s Aml)):=Bo (Ap Am puS1 A3) 7 _ A9x A2w (fun e=>by cases e <;> exact Nat.le_refl _) [.ret,.exit 0] A5s Aml (fun g=>by kernel_rfl)
abbrev TRl:=Tree (Baf.T⊕A0 Bah)
def Amm (l:TCT A8) (p:List (TCT cPt)) (i:Nat):Bool:=onB l (Amk (Al p i (Ak cPt)))
def f_li (l:TCT A8) (p:List (TCT cPt)) (i:Nat) (ms:List (TCT Au)):List (TCT Au)⊕Unit:=bif Amm l p i then .inl (ms++[A02 (Al p i (Ak cPt))]) else .inr ()
def A9y (r q:SKTs kSt):List (TCT Au)⊕Unit→A0 A2w
 | .inl ms=>Az0 r q ms
 | .inr _=>Ayz
theorem B17 {l:TCT A8} {p:List (TCT cPt)} (i:Nat) (s s':List (TCT Au)) (_:i<p.length) (hi:s.length=i) (h:f_li l p i s=.inl s'):s'.length=i+1:=by
 unfold f_li at h
 cases ho:Amm l p i with
 | true=>rw [ho] at h;cases h;simp [hi]
 | false=>rw [ho] at h;cases h
theorem B6m {x:SKTs kGr} {r q:SKTs kSt} {p:List (TCT cPt)} (hp:p.length≤100):iter A5s (p.length+1) (Adi x r q p p.length 0 [])=some (A9y r q (An (f_li (lwG x) p) 0 p.length [])):=by
 have hp':(p.length:Int)≤B0 .i64:=by show (p.length:Int)≤9223372036854775807;omega
 refine I7 p.length (fun i ms=>Adi x r q p p.length i ms) (f_li (lwG x) p) (A9y r q) (fun i ms=>ms.length=i) (fun i ms hi hl=>?_) B17 (fun ms hl=>?_) p.length 0 [] (by omega) rfl
 ·show (W5 x r q p p.length (i:Int) ms).run=_
  unfold W5 f_li Amm Ayy
  rw [decide_eq_true (show (i:Int)<(p.length:Int) by omega),Ea (by omega),show Int.toNat (i:Int)=i from rfl,H9 (by simp;omega) (by decide),E9 hi hp']
  cases onB (lwG x) (Amk (Al p i (Ak cPt))) <;> rfl
 ·show (W5 x r q p p.length (p.length:Int) ms).run=_
  unfold W5
  rw [decide_eq_false (show ¬ (p.length:Int)<(p.length:Int) by omega)]
  rfl
end St
end V
end Go.Proofs.YtlangijnealfjaaGreat
namespace Go.Proofs.YtlangijnealfjaaGreat
open Go.RowKit
namespace V
namespace St
abbrev plS3:List (Nat×PureT):=(64,Adh)::(132,Acs)::plS2
theorem puS3:Ci Tryz.prog plS3:=puOk_cons is_cState.plain Au6 (puOk_cons is_cfMot.plain Asv puS2)
def r0:SKTs kSt:=([],[],0,0,0,())
def q0 (p:List (TCT cPt)):SKTs kSt:=([],List.replicate (Int.toNat (p.length:Int)) false,0,0,0,())
def zS:TCT cSt:=([],[],0,0,0,())
abbrev TLs:=Tree (TCTs [cSt,cI])
def erS (c:Bool) (e:Int) (k:TLs):TLs:=bif c then .leaf (zS,e,()) else k
def B6n (g:TCT cGr) (p:List (TCT cPt)):Option (A0 A2w):=iter A5s (p.length+1) (Adi (Il g) r0 (q0 p) p p.length 0 [])
def mkT {β:Type} (n:Int) (k:Tree β):Tree β:=bif decide (0≤n∧n≤n∧n≤65536∧((1:Nat):Int)*n≤281474976710656) then k else .fail
theorem B18 {β:Type} {n:Int} {k:Tree β} (h0:0≤n) (h:n≤65536):mkT n k=k:=by
 unfold mkT
 rw [decide_eq_true (by omega)];rfl
def stO (s:SKTs kSo):TCT cSt:=(s.1,s.2.1,s.2.2.1,s.2.2.2.1,s.2.2.2.2.1,())
def Baj (y:Option (A0 A2w)):TLs:=bif isE .ret y then .leaf (stOf (C3 .ret y).2.1,(C3 .ret y).1.2.1,()) else bif isE (.exit 0) y then .leaf (stO (C3 (.exit 0) y).2.2.1,0,()) else .fail
def W6 (a b:Nat):Bool:=(a:Int)!=(b:Int)
def B19 (g:TCT cGr) (p:List (TCT cPt)):TLs:=szT g.1 (erS (groE g != 0) (groE g) (erS (W6 p.length (A5 g).length) 17 (mkT p.length (Baj (B6n g p)))))
def B6o (p:List (TCT cPt)):List (TCT Au)⊕Unit→TCTs [cSt,cI]
 | .inl ms=>((ms,List.replicate p.length false,0,0,0,()),0,())
 | .inr _=>(zS,2,())
def Et (g:TCT cGr) (p:List (TCT cPt)):TCTs [cSt,cI]:=bif groE g != 0 then (zS,groE g,()) else bif W6 p.length (A5 g).length then (zS,17,()) else B6o p (An (f_li g.1 p) 0 p.length [])
def etaS (s:TCT cSt):TCT cSt:=(s.1,s.2.1,s.2.2.1,s.2.2.2.1,s.2.2.2.2.1,())
abbrev Az1:PureT:=Be [cGr,.sl cPt] [cSt,cI] (fun x=>decide ((x.1.1.1.size:Int)≤B0 .i64)) (fun x=>(etaS (Et x.1 x.2.1).1,(Et x.1 x.2.1).2.1,()))
theorem Adj {g:TCT cGr} (h:groE g=0):1≤(A5 g).length∧(A5 g).length≤8:=by
 unfold groE at h
 cases h1:Cd g.1 != 0 with
 | true=>rw [h1,cond_true] at h;rw [h] at h1;cases h1
 | false =>
  rw [h1,cond_false] at h
  cases h2:decide (((A5 g).length:Int)<1)||decide (((A5 g).length:Int)>8) with
  | true=>rw [h2] at h;cases h
  | false =>
   rw [Bool.or_eq_false_iff,decide_eq_false_iff_not,decide_eq_false_iff_not] at h2
   omega
theorem B1a {a b:Nat} (h:W6 a b=false):a=b:=by
 unfold W6 at h
 have:=bne_eq_false_iff_eq.1 h
 omega
theorem Au8 {g:TCT cGr} {p:List (TCT cPt)} {k:TLs} (h:groE g=0→p.length=(A5 g).length→p.length≤8→k=.leaf (B6o p (An (f_li g.1 p) 0 p.length []))) :
  (bif groE g != 0 then .leaf (zS,groE g,()) else erS (W6 p.length (A5 g).length) 17 k:TLs).sat (fun y=>y=(etaS (Et g p).1,(Et g p).2.1,())):=by
 show Tree.sat (fun y=>y=Et g p) _
 unfold Et
 cases h1:groE g != 0 with
 | true=>exact rfl
 | false =>
  simp only [cond_false]
  unfold erS
  cases h2:W6 p.length (A5 g).length with
  | true=>exact rfl
  | false =>
   have e:=B1a h2
   have h0:groE g=0:=bne_eq_false_iff_eq.1 h1
   have:=Adj h0
   rw [h h0 e (by omega)]
   exact rfl
theorem Au9 {g:TCT cGr} {p:List (TCT cPt)} (hs:(g.1.1.size:Int)≤B0 .i64):(B19 g p).sat (fun y=>y=(etaS (Et g p).1,(Et g p).2.1,())):=by
 unfold B19
 rw [E1 hs]
 refine Au8 fun _ e hp=>?_
 have hy:B6n g p=some (A9y r0 (q0 p) (An (f_li g.1 p) 0 p.length [])):=B6m (by omega)
 rw [B18 (by omega) (by omega),hy]
 cases An (f_li g.1 p) 0 p.length [] <;> rfl
noncomputable def Bak:Ctx:=Ib Tryz.prog plS3 [(24,Tryz.f24)] [((24,8),As A9x A2w (De [.ret,.exit 0] A5s Aml))]
theorem Aua:CtxOk Bak:=Cj Am puS3 (fns_cons is_sLie A3) (Bw (by kernel_rfl) (by kernel_rfl) Bai)
theorem Az2:A7 Tryz.prog 24 Az1:=Bh Aua 7 (fun x=>B19 x.1 x.2.1) (fun x=>by kernel_rfl) fun x hok _=>Au9 (of_decide_eq_true hok)
def Df (s:TCT cSt):Bool:=(msT s).all Ey
abbrev A2x:PureT:=Be [cSt] [.b] (fun _=>true) (fun x=>(Df x.1,()))
theorem Agk (s:TCT cSt):(!(msT s).any (Ez ()))=Df s:=by
 have:(msT s).any (Ez ())=!(msT s).all Ey:=Jr Ey _
 rw [this,Bool.not_not]
 rfl
theorem Amn:A7 Tryz.prog 69 A2x:=Bh (Ap Am puS3 (fns_cons is_sstill (fns_cons is_still1 A3))) 7 (fun x=>.leaf (!(msT x.1).any (Ez ()),())) (fun x=>by kernel_rfl) fun x _ _=>by
 show _=_
 rw [Agk]
def A9z:Lay:={ keys:=[1,3],ks:=[.p 0 0 0 0,.d cI],bs:=[(0,76,kSt)],n:=19,nx:=1000,marks:=[] }
def Bal:Lay:={ keys:=[],ks:=[],bs:=[],n:=19,nx:=1000,marks:=[] }
def B6q:Lay:={ keys:=[2],ks:=[.d .b],bs:=[],n:=19,nx:=1000,marks:=[] }
def Aa0:XE→Lay:=fun e=>match e with | .ret=>B6q | _=>Bal
def Amo (s:SKTs kSt) (i:Int):A9z.T:=(((),i,()),(s,()))
def Amp:A0 Aa0:=⟨.ret,((false,()),())⟩
def Amq:A0 Aa0:=⟨.exit 0,((),())⟩
def A5t (m:TCT Au):Bool:=!(m.2.1.1==0&&(m.2.1.2.1==0&&true))
theorem Adk (m:TCT Au):A5t m=!Ey m:=by unfold A5t Ey;rw [Bool.and_true]
def Adl (g:A9z.T):Tree (A9z.T⊕A0 Aa0):=bif decide (g.1.2.1<((msS g.2.1).length:Int)) then bif decide (0≤g.1.2.1∧g.1.2.1<((msS g.2.1).length:Int)) then
 bif A5t (Al (msS g.2.1) (Int.toNat g.1.2.1) (Ak Au)) then .leaf (.inr Amp) else .leaf (.inl (Amo g.2.1 (W64 (g.1.2.1+1)))) else .fail else .leaf (.inr Amq)
def Amr (g:A9z.T):Nat:=(msS g.2.1).length+1
def Auc (s:TCT cSt):Option (A0 Aa0):=iter Adl ((msT s).length+1) (Amo (M9 s) 0)
def B1b (s:TCT cSt):TBo:=bif isE .ret (Auc s) then .leaf ((C3 .ret (Auc s)).1.1,()) else bif isE (.exit 0) (Auc s) then .leaf (true,()) else .fail
def plS4:List (Nat×PureT):=(69,A2x)::plS3
theorem puS4:Ci Tryz.prog plS4:=puOk_cons is_sstill.plain Amn (puS3)
abbrev Aud:PureT:=Be [cGr,cSt] [.b,cI] (fun x=>decide ((x.1.1.1.size:Int)≤B0 .i64)) (fun x=>(bif Gq x.1 x.2.1 != 0 then false else Df x.2.1,Gq x.1 x.2.1,()))
theorem Agl {g:TCT cGr} {s:TCT cSt}:(bif Gq g s != 0 then .leaf (false,Gq g s,()) else .leaf (Df s,0,()):Tree (TCTs [.b,cI])).sat (fun y=>y=(bif Gq g s != 0 then false else Df s,Gq g s,())):=by
 cases h:Gq g s != 0 with
 | true=>exact rfl
 | false =>
  have:=bne_eq_false_iff_eq.1 h
  simp only [cond_false]
  rw [this]
  exact rfl
theorem Aue:A7 Tryz.prog 26 Aud:=Bh (Ap Am puS4 (fns_cons is_sStill A3)) 7 (fun x=>szT x.1.1 (bif Gq x.1 x.2.1 != 0 then .leaf (false,Gq x.1 x.2.1,()) else .leaf (Df x.2.1,0,()))) (fun x=>by kernel_rfl) fun x hok _=>by
 rw [E1 (of_decide_eq_true hok)]
 exact Agl
end St
end V
end Go.Proofs.YtlangijnealfjaaGreat
