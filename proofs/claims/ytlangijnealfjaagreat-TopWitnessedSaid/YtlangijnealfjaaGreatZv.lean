import Derived.Test.YtlangijnealfjaaGreatZn
namespace Go.Proofs.YtlangijnealfjaaGreat
open Go.RowKit
namespace V
namespace Wi
open St
theorem is_ixMk:FnIs Tryz.prog (140,Tryz.f140):=⟨Tryz.func140,by kernel_rfl,by kernel_rfl⟩
theorem is_cfMk:FnIs Tryz.prog (79,Tryz.f79):=⟨Tryz.func79,by kernel_rfl,by kernel_rfl⟩
theorem is_sg1:FnIs Tryz.prog (142,Tryz.f142):=⟨Tryz.func142,by kernel_rfl,by kernel_rfl⟩
theorem is_sg11:FnIs Tryz.prog (143,Tryz.f143):=⟨Tryz.func143,by kernel_rfl,by kernel_rfl⟩
theorem is_sg2:FnIs Tryz.prog (145,Tryz.f145):=⟨Tryz.func145,by kernel_rfl,by kernel_rfl⟩
theorem is_sg21:FnIs Tryz.prog (146,Tryz.f146):=⟨Tryz.func146,by kernel_rfl,by kernel_rfl⟩
theorem is_sg3:FnIs Tryz.prog (148,Tryz.f148):=⟨Tryz.func148,by kernel_rfl,by kernel_rfl⟩
theorem is_othr:FnIs Tryz.prog (147,Tryz.f147):=⟨Tryz.func147,by kernel_rfl,by kernel_rfl⟩
theorem is_crsh:FnIs Tryz.prog (144,Tryz.f144):=⟨Tryz.func144,by kernel_rfl,by kernel_rfl⟩
theorem is_crsh1:FnIs Tryz.prog (202,Tryz.f202):=⟨Tryz.func202,by kernel_rfl,by kernel_rfl⟩
theorem is_crsh11:FnIs Tryz.prog (203,Tryz.f203):=⟨Tryz.func203,by kernel_rfl,by kernel_rfl⟩
theorem is_late:FnIs Tryz.prog (149,Tryz.f149):=⟨Tryz.func149,by kernel_rfl,by kernel_rfl⟩
theorem is_late1:FnIs Tryz.prog (204,Tryz.f204):=⟨Tryz.func204,by kernel_rfl,by kernel_rfl⟩
theorem is_late11:FnIs Tryz.prog (205,Tryz.f205):=⟨Tryz.func205,by kernel_rfl,by kernel_rfl⟩
abbrev cMk:TC:=.st [cI,cI,cI,cI]
abbrev cSc:TC:=.st [.st [.sl cMk,.sl cMk,.sl cMk,.sl cMk,.sl cMk,.sl cMk],cI,cI]
def kd0 (s:TCT cSc):List (TCT cMk):=s.1.1
def kd1 (s:TCT cSc):List (TCT cMk):=s.1.2.1
def kd2 (s:TCT cSc):List (TCT cMk):=s.1.2.2.1
def kd3 (s:TCT cSc):List (TCT cMk):=s.1.2.2.2.1
def kd4 (s:TCT cSc):List (TCT cMk):=s.1.2.2.2.2.1
def kd5 (s:TCT cSc):List (TCT cMk):=s.1.2.2.2.2.2.1
def scB (s:TCT cSc):Int:=s.2.1
def scL (s:TCT cSc):Int:=s.2.2.1
def mK (m:TCT cMk):Int:=m.1
def mB (m:TCT cMk):Int:=m.2.1
def mF (m:TCT cMk):Int:=m.2.2.1
def mT (m:TCT cMk):Int:=m.2.2.2.1
def B5z (s:TCT cSc) (m:TCT cMk):Bool:=decide (W64 (mT m-mF m)>scL s)
def Amc (s:TCT cSc) (m:TCT cMk):Bool:=mB m != scB s
def Bgc (s:TCT cSc) (m:TCT cMk):Bool:=!Amc s m
def Aj6 (m h:TCT cMk):Bool:=decide (mF m≤mT h)&&decide (mF h≤mT m)
def Af5 (s:TCT cSc) (m:TCT cMk):Bool:=(kd3 s).any (Aj6 m)
def pLt (s:TCT cSc) (m o:TCT cMk):Bool:=Amc s o&&decide (mF o≤mF m)
def Qb (s:TCT cSc) (m:TCT cMk):Bool:=decide (mF m>mF (As (kd0 s) 0 (Aq cMk)))&&(kd5 s).any (pLt s m)
theorem Aj7 {G E α:Type} {st:G→Tree (G⊕E)} (l:List α) (d:α) (hd:Int→G) (p:α→Bool) (rt:Int→E) (ex:E) (hl:(l.length:Int)≤B7 .i64)
  (h1:∀ i:Nat,i<l.length→(st (hd (i:Int))).run=some (bif p (As l i d) then .inr (rt (i:Int)) else .inl (hd (W64 ((i:Int)+1))))) (h2:(st (hd (l.length:Int))).run=some (.inr ex)) :
  iter st (l.length+1) (hd 0)=some (bif l.any p then rt (l.findIdx p:Int) else ex):=by
 have key:∀ (n i f:Nat),i+n=l.length→n+1≤f→iter st f (hd (i:Int))=some (bif (l.drop i).any p then rt ((i+(l.drop i).findIdx p:Nat):Int) else ex):=by
  intro n
  induction n with
  | zero =>
   intro i f hn hf
   obtain ⟨f,rfl⟩:∃ g,f=g+1:=⟨f-1,by omega⟩
   have e:i=l.length:=by omega
   subst e
   rw [List.drop_length]
   exact G7 h2
  | succ n ih =>
   intro i f hn hf
   obtain ⟨f,rfl⟩:∃ g,f=g+1:=⟨f-1,by omega⟩
   have hi:i<l.length:=by omega
   have hs:=h1 i hi
   have hd':l.drop i=l[i]::l.drop (i+1):=List.drop_eq_getElem_cons hi
   rw [De hi] at hs
   rw [hd',List.any_cons,List.findIdx_cons]
   cases hp:p l[i] with
   | true =>
    rw [hp] at hs
    exact G7 hs
   | false =>
    rw [hp] at hs
    have hmx:B7 .i64=9223372036854775807:=rfl
    have hw:W64 ((i:Int)+1)=((i+1:Nat):Int):=Be (n:=(i:Int)+1) (by omega) (by omega)
    rw [hw] at hs
    rw [Ez hs,ih (i+1) f (by omega) (by omega),Bool.false_or,cond_false,show i+((l.drop (i+1)).findIdx p+1)=i+1+(l.drop (i+1)).findIdx p by omega]
 have:=key l.length 0 (l.length+1) (Nat.zero_add _) (Nat.le_refl _)
 rw [List.drop_zero,Nat.zero_add] at this
 exact this
noncomputable def Dy:Code:=(Al (bodyOf Tryz.f140)).getD 0 .skip
theorem Hb:Al (bodyOf Tryz.f140)=[Dy]:=by kernel_rfl
theorem L8:keyOf Dy=2:=by kernel_rfl
def LM (f:SK) (bs:List BK) (nx:Nat):Lay:={ keys:=[0,1,7,8],ks:=[.d (.sl cMk),f,.d cI,.d cI],bs:=bs,n:=19,nx:=nx,marks:=[] }
def RM (bs:List BK) (nx:Nat):Lay:={ keys:=[4],ks:=[.d cI],bs:=bs,n:=19,nx:=nx,marks:=[] }
def XM (bs:List BK) (nx:Nat):Lay:={ keys:=[],ks:=[],bs:=bs,n:=19,nx:=nx,marks:=[] }
def EM (bs:List BK) (nx:Nat):XE→Lay:=fun e=>match e with | .ret=>RM bs nx | _=>XM bs nx
theorem Wl (f:SK) (bs:List BK) (nx:Nat) (e:XE):(LM f bs nx).nx≤(EM bs nx e).nx:=by cases e <;> exact Nat.le_refl _
abbrev CM (f:SK) (bs:List BK) (nx:Nat):Type:=(LM f bs nx).T⊕A1 (EM bs nx)
def hdM (f:SK) (bs:List BK) (nx:Nat) (l:List (TCT cMk)) (c:SKT f) (b:BTs bs) (n i:Int):(LM f bs nx).T:=((l,c,n,i,()),b)
def rtM (bs:List BK) (nx:Nat) (b:BTs bs) (i:Int):A1 (EM bs nx):=⟨.ret,((i,()),b)⟩
def exM (bs:List BK) (nx:Nat) (b:BTs bs):A1 (EM bs nx):=⟨.exit 0,((),b)⟩
def nxM (f:SK) (bs:List BK) (nx:Nat) (g:(LM f bs nx).T):Tree (CM f bs nx):=.leaf (.inl (hdM f bs nx g.1.1 g.1.2.1 g.2 g.1.2.2.1 (W64 (g.1.2.2.2.1+1))))
def fdM (f:SK) (bs:List BK) (nx:Nat) (g:(LM f bs nx).T):Tree (CM f bs nx):=.leaf (.inr (rtM bs nx g.2 g.1.2.2.2.1))
def Pz (f:SK) (bs:List BK) (nx:Nat) (k:(LM f bs nx).T→TCT cMk→Tree (CM f bs nx)) (g:(LM f bs nx).T):Tree (CM f bs nx) :=
 bif decide (g.1.2.2.2.1<g.1.2.2.1) then bif decide (0≤g.1.2.2.2.1∧g.1.2.2.2.1<((g.1.1:List (TCT cMk)).length:Int)) then k g (As g.1.1 (Int.toNat g.1.2.2.2.1) (Aq cMk)) else .fail else .leaf (.inr (exM bs nx g.2))
def Bjv (f:SK) (bs:List BK) (nx:Nat) (p:SKT f→BTs bs→TCT cMk→Bool) (g:(LM f bs nx).T) (m:TCT cMk):Tree (CM f bs nx):=bif p g.1.2.1 g.2 m then fdM f bs nx g else nxM f bs nx g
def stM (f:SK) (bs:List BK) (nx:Nat) (p:SKT f→BTs bs→TCT cMk→Bool):(LM f bs nx).T→Tree (CM f bs nx):=Pz f bs nx (Bjv f bs nx p)
def fuM (f:SK) (bs:List BK) (nx:Nat) (g:(LM f bs nx).T):Nat:=(g.1.1:List (TCT cMk)).length+1
theorem Avw {f:SK} {bs:List BK} {nx:Nat} {k:(LM f bs nx).T→TCT cMk→Tree (CM f bs nx)} {p:TCT cMk→Bool} {l:List (TCT cMk)} {c:SKT f} {b:BTs bs} (hl:(l.length:Int)≤B7 .i64)
  (hk:∀ (i:Nat),i<l.length→(k (hdM f bs nx l c b (l.length:Int) (i:Int)) (As l i (Aq cMk))).run=(bif p (As l i (Aq cMk)) then fdM f bs nx (hdM f bs nx l c b (l.length:Int) (i:Int)) else nxM f bs nx (hdM f bs nx l c b (l.length:Int) (i:Int))).run) :
  iter (Pz f bs nx k) (l.length+1) (hdM f bs nx l c b (l.length:Int) 0)=some (bif l.any p then rtM bs nx b (l.findIdx p:Int) else exM bs nx b) :=
 Aj7 l (Aq cMk) (fun i=>hdM f bs nx l c b (l.length:Int) i) p (rtM bs nx b) (exM bs nx b) hl (fun i hi=>by
  show (bif decide ((i:Int)<(l.length:Int)) then bif decide (0≤(i:Int)∧(i:Int)<(l.length:Int)) then k (hdM f bs nx l c b (l.length:Int) (i:Int)) (As l (Int.toNat (i:Int)) (Aq cMk)) else .fail else .leaf (.inr (exM bs nx b)):Tree (CM f bs nx)).run=_
  rw [decide_eq_true (show (i:Int)<(l.length:Int) by omega),decide_eq_true (show 0≤(i:Int)∧(i:Int)<(l.length:Int) by omega),show Int.toNat (i:Int)=i by omega,cond_true,cond_true,hk i hi]
  cases p (As l i (Aq cMk)) <;> rfl) (by
  show (bif decide ((l.length:Int)<(l.length:Int)) then _ else .leaf (.inr (exM bs nx b)):Tree (CM f bs nx)).run=_
  rw [decide_eq_false (Int.lt_irrefl _)];rfl)
theorem B3e {f:SK} {bs:List BK} {nx:Nat} {p:SKT f→BTs bs→TCT cMk→Bool} {l:List (TCT cMk)} {c:SKT f} {b:BTs bs} (hl:(l.length:Int)≤B7 .i64) :
  iter (stM f bs nx p) (l.length+1) (hdM f bs nx l c b (l.length:Int) 0)=some (bif l.any (p c b) then rtM bs nx b (l.findIdx (p c b):Int) else exM bs nx b) :=
 Avw hl fun _ _=>rfl
def aM {bs:List BK} {nx:Nat} (y:Option (A1 (EM bs nx))):Tree (TCTs [.b]) :=
 bif isE .ret y then .leaf (decide ((C2 .ret y).1.1≥0),()) else bif isE (.exit 0) y then .leaf (decide ((-1:Int)≥0),()) else .fail
theorem A42 {bs:List BK} {nx:Nat} {b:BTs bs} {q:Bool} {i:Nat}:(aM (some (bif q then rtM bs nx b (i:Int) else exM bs nx b))).sat fun y=>y=(q,()):=by
 cases q with
 | true =>
  show (Tree.leaf (decide ((i:Int)≥0),()):Tree (TCTs [.b])).sat _
  rw [decide_eq_true (show (i:Int)≥0 by omega)]
  exact rfl
 | false=>exact rfl
abbrev Ge:List BK:=[(0,184,[.r cSc 0])]
abbrev Hu:SK:=.f 143 [] [.p 0 0 0 0]
abbrev Xd:SKT Hu→BTs Ge→TCT cMk→Bool:=fun _ b m=>B5z b.1.1 m
noncomputable abbrev Aj8:St→Tree (XE×St):=Ar (LM Hu Ge 1000) (EM Ge 1000) (D7 [.ret,.exit 0] (stM Hu Ge 1000 Xd) (fuM Hu Ge 1000))
noncomputable def Tq:Ctx:=ctx Tryz.prog [] [(143,Tryz.f143)]
theorem Af6:CtxOk Tq:=Ap Ak puOk_nil (fns_cons is_sg11 A0)
theorem Bb5 (g:(LM Hu Ge 1000).T):evC Tryz.prog (D1 Tq 6) Tq.pures 140 Tq.u (fun _=>none) Dy ((LM Hu Ge 1000).of g) (Db (LM Hu Ge 1000) (EM Ge 1000))=stM Hu Ge 1000 Xd g:=by kernel_rfl
theorem Bb6:Aw Tryz.prog 140 Dy Aj8:=B8 (X:=Tq) Af6 6 _ _ _ (Wl Hu Ge 1000) [.ret,.exit 0] _ _ Bb5
noncomputable def Bb7:Ctx:=G4 Tryz.prog [] [(142,Tryz.f142),(79,Tryz.f79),(140,Tryz.f140),(143,Tryz.f143)] [((140,2),Aj8)]
theorem Amd:CtxOk Bb7:=Bs Ak puOk_nil (fns_cons is_sg1 (fns_cons is_cfMk (fns_cons is_ixMk (fns_cons is_sg11 A0)))) (A8 (Az (by kernel_rfl)) (A8 (Az (by kernel_rfl)) (A8 (E6 (ds:=[Dy]) Hb ⟨Dk (k:=2) L8 rfl Bb6,trivial⟩) (A8 (Az (by kernel_rfl)) (Dd)))))
abbrev Avx:PureT:=Ha [.r cSc 0] [.b] (fun _=>true) (fun x=>((kd0 x.1).any (Xd ((),((),())) ((x.1,()),())),()))
theorem Bb8:A6 Tryz.prog 142 Avx:=Ji Amd 8 (fun x=>aM (iter (stM Hu Ge 1000 Xd) ((kd0 x.1).length+1) (hdM Hu Ge 1000 (kd0 x.1) ((),((),())) ((x.1,()),()) ((kd0 x.1).length:Int) 0))) (fun x=>by kernel_rfl) fun x _ hw=>by
 have hl:((kd0 x.1).length:Int)≤B7 .i64:=Dl (hw.1.1.1)
 rw [B3e hl]
 exact A42
abbrev If:List BK:=[(0,184,[.r cSc 0])]
abbrev Kf:SK:=.f 146 [] [.p 0 0 0 0]
abbrev A6c:SKT Kf→BTs If→TCT cMk→Bool:=fun _ b m=>Bgc b.1.1 m
noncomputable abbrev Avy:St→Tree (XE×St):=Ar (LM Kf If 1000) (EM If 1000) (D7 [.ret,.exit 0] (stM Kf If 1000 A6c) (fuM Kf If 1000))
noncomputable def A1g:Ctx:=ctx Tryz.prog [] [(146,Tryz.f146),(147,Tryz.f147)]
theorem Ame:CtxOk A1g:=Ap Ak puOk_nil (fns_cons is_sg21 (fns_cons is_othr A0))
theorem Bgd (g:(LM Kf If 1000).T):evC Tryz.prog (D1 A1g 6) A1g.pures 140 A1g.u (fun _=>none) Dy ((LM Kf If 1000).of g) (Db (LM Kf If 1000) (EM If 1000))=stM Kf If 1000 A6c g:=by kernel_rfl
theorem Bge:Aw Tryz.prog 140 Dy Avy:=B8 (X:=A1g) Ame 6 _ _ _ (Wl Kf If 1000) [.ret,.exit 0] _ _ Bgd
noncomputable def Bgf:Ctx:=G4 Tryz.prog [] [(145,Tryz.f145),(79,Tryz.f79),(140,Tryz.f140),(146,Tryz.f146),(147,Tryz.f147)] [((140,2),Avy)]
theorem Avz:CtxOk Bgf:=Bs Ak puOk_nil (fns_cons is_sg2 (fns_cons is_cfMk (fns_cons is_ixMk (fns_cons is_sg21 (fns_cons is_othr A0))))) (A8 (Az (by kernel_rfl)) (A8 (Az (by kernel_rfl)) (A8 (E6 (ds:=[Dy]) Hb ⟨Dk (k:=2) L8 rfl Bge,trivial⟩) (A8 (Az (by kernel_rfl)) (A8 (Az (by kernel_rfl)) (Dd))))))
abbrev B60:PureT:=Ha [.r cSc 0] [.b] (fun _=>true) (fun x=>((kd5 x.1).any (A6c ((),((),())) ((x.1,()),())),()))
theorem Bgg:A6 Tryz.prog 145 B60:=Ji Avz 8 (fun x=>aM (iter (stM Kf If 1000 A6c) ((kd5 x.1).length+1) (hdM Kf If 1000 (kd5 x.1) ((),((),())) ((x.1,()),()) ((kd5 x.1).length:Int) 0))) (fun x=>by kernel_rfl) fun x _ hw=>by
 have hl:((kd5 x.1).length:Int)≤B7 .i64:=Dl (hw.1.1.2.2.2.2.2.1)
 rw [B3e hl]
 exact A42
abbrev Ih:List BK:=[]
abbrev Kg:SK:=.f 147 [.r cSc 0] []
abbrev A6d:SKT Kg→BTs Ih→TCT cMk→Bool:=fun c _ m=>Amc c.1.1 m
noncomputable abbrev Aw0:St→Tree (XE×St):=Ar (LM Kg Ih 1000) (EM Ih 1000) (D7 [.ret,.exit 0] (stM Kg Ih 1000 A6d) (fuM Kg Ih 1000))
noncomputable def A1h:Ctx:=ctx Tryz.prog [] [(147,Tryz.f147)]
theorem Amf:CtxOk A1h:=Ap Ak puOk_nil (fns_cons is_othr A0)
theorem Bgh (g:(LM Kg Ih 1000).T):evC Tryz.prog (D1 A1h 6) A1h.pures 140 A1h.u (fun _=>none) Dy ((LM Kg Ih 1000).of g) (Db (LM Kg Ih 1000) (EM Ih 1000))=stM Kg Ih 1000 A6d g:=by kernel_rfl
theorem Bgi:Aw Tryz.prog 140 Dy Aw0:=B8 (X:=A1h) Amf 6 _ _ _ (Wl Kg Ih 1000) [.ret,.exit 0] _ _ Bgh
noncomputable def Bgj:Ctx:=G4 Tryz.prog [] [(148,Tryz.f148),(79,Tryz.f79),(140,Tryz.f140),(147,Tryz.f147)] [((140,2),Aw0)]
theorem Aw1:CtxOk Bgj:=Bs Ak puOk_nil (fns_cons is_sg3 (fns_cons is_cfMk (fns_cons is_ixMk (fns_cons is_othr A0)))) (A8 (Az (by kernel_rfl)) (A8 (Az (by kernel_rfl)) (A8 (E6 (ds:=[Dy]) Hb ⟨Dk (k:=2) L8 rfl Bgi,trivial⟩) (A8 (Az (by kernel_rfl)) (Dd)))))
abbrev B61:PureT:=Ha [.r cSc 0] [.b] (fun _=>true) (fun x=>((kd5 x.1).any (A6d ((x.1,()),()) ()),()))
theorem Bgk:A6 Tryz.prog 148 B61:=Ji Aw1 8 (fun x=>aM (iter (stM Kg Ih 1000 A6d) ((kd5 x.1).length+1) (hdM Kg Ih 1000 (kd5 x.1) ((x.1,()),()) () ((kd5 x.1).length:Int) 0))) (fun x=>by kernel_rfl) fun x _ hw=>by
 have hl:((kd5 x.1).length:Int)≤B7 .i64:=Dl (hw.1.1.2.2.2.2.2.1)
 rw [B3e hl]
 exact A42
abbrev Bo:List BK:=[(0,184,[.r cSc 0])]
abbrev C3:SK:=.f 202 [] [.p 0 0 0 0]
abbrev Bn:List BK:=[(0,184,[.r cSc 0]),(1000,98,[.d cI,.d cI,.d cI,.d cI])]
abbrev Ch:SK:=.f 203 [] [.p 1000 0 0 0]
def Ii (g:(LM Ch Bn 2000).T) (h:TCT cMk):Tree (CM Ch Bn 2000):=bif decide (mF g.2.2.1≤mT h) then bif decide (mF h≤mT g.2.2.1) then fdM Ch Bn 2000 g else nxM Ch Bn 2000 g else nxM Ch Bn 2000 g
theorem A26 (g:(LM Ch Bn 2000).T) (h:TCT cMk):Ii g h=bif Aj6 g.2.2.1 h then fdM Ch Bn 2000 g else nxM Ch Bn 2000 g:=by unfold Ii Aj6;cases decide (mF g.2.2.1≤mT h) <;> rfl
noncomputable abbrev A43:St→Tree (XE×St):=Ar (LM Ch Bn 2000) (EM Bn 2000) (D7 [.ret,.exit 0] (Pz Ch Bn 2000 Ii) (fuM Ch Bn 2000))
noncomputable def Oz:Ctx:=ctx Tryz.prog [] [(203,Tryz.f203)]
theorem Abc:CtxOk Oz:=Ap Ak puOk_nil (fns_cons is_crsh11 A0)
theorem Aw2 (g:(LM Ch Bn 2000).T):evC Tryz.prog (D1 Oz 6) Oz.pures 140 Oz.u (fun _=>none) Dy ((LM Ch Bn 2000).of g) (Db (LM Ch Bn 2000) (EM Bn 2000))=Pz Ch Bn 2000 Ii g:=by kernel_rfl
theorem Aw3:Aw Tryz.prog 140 Dy A43:=B8 (X:=Oz) Abc 6 _ _ _ (Wl Ch Bn 2000) [.ret,.exit 0] _ _ Aw2
noncomputable def P0:Ctx:=G4 Tryz.prog [] [(202,Tryz.f202),(79,Tryz.f79),(140,Tryz.f140),(203,Tryz.f203)] [((140,2),A43)]
theorem Abd:CtxOk P0:=Bs Ak puOk_nil (fns_cons is_crsh1 (fns_cons is_cfMk (fns_cons is_ixMk (fns_cons is_crsh11 A0)))) (A8 (Az (by kernel_rfl)) (A8 (Az (by kernel_rfl)) (A8 (E6 (ds:=[Dy]) Hb ⟨Dk (k:=2) L8 rfl Aw3,trivial⟩) (A8 (Az (by kernel_rfl)) (Dd)))))
def A1i (g:(LM C3 Bo 1000).T) (y:Option (A1 (EM Bn 2000))):Tree (CM C3 Bo 1000):=bif isE .ret y then (bif decide ((C2 .ret y).1.1≥0) then .leaf (.inr (rtM Bo 1000 ((C2 .ret y).2.1,()) g.1.2.2.2.1)) else .leaf (.inl (hdM C3 Bo 1000 g.1.1 g.1.2.1 ((C2 .ret y).2.1,()) g.1.2.2.1 (W64 (g.1.2.2.2.1+1))))) else bif isE (.exit 0) y then (bif decide ((-1:Int)≥0) then .leaf (.inr (rtM Bo 1000 ((C2 (.exit 0) y).2.1,()) g.1.2.2.2.1)) else .leaf (.inl (hdM C3 Bo 1000 g.1.1 g.1.2.1 ((C2 (.exit 0) y).2.1,()) g.1.2.2.1 (W64 (g.1.2.2.2.1+1))))) else .fail
def Va (g:(LM C3 Bo 1000).T) (m:TCT cMk):Tree (CM C3 Bo 1000):=A1i g (iter (Pz Ch Bn 2000 Ii) ((kd3 g.2.1.1).length+1) (hdM Ch Bn 2000 (kd3 g.2.1.1) ((),((),())) ((g.2.1.1,()),m,()) ((kd3 g.2.1.1).length:Int) 0))
theorem B3f (g:(LM C3 Bo 1000).T):evC Tryz.prog (D1 P0 12) P0.pures 140 P0.u (fun _=>none) Dy ((LM C3 Bo 1000).of g) (Db (LM C3 Bo 1000) (EM Bo 1000))=Pz C3 Bo 1000 Va g:=by kernel_rfl
noncomputable abbrev Abe:St→Tree (XE×St):=Ar (LM C3 Bo 1000) (EM Bo 1000) (D7 [.ret,.exit 0] (Pz C3 Bo 1000 Va) (fuM C3 Bo 1000))
theorem B3g:Aw Tryz.prog 140 Dy Abe:=B8 (X:=P0) Abd 12 _ _ _ (Wl C3 Bo 1000) [.ret,.exit 0] _ _ B3f
noncomputable def B3h:Ctx:=G4 Tryz.prog [] [(144,Tryz.f144),(79,Tryz.f79),(140,Tryz.f140),(202,Tryz.f202),(203,Tryz.f203)] [((140,2),Abe)]
theorem Af7:CtxOk B3h:=Bs Ak puOk_nil (fns_cons is_crsh (fns_cons is_cfMk (fns_cons is_ixMk (fns_cons is_crsh1 (fns_cons is_crsh11 A0))))) (A8 (Az (by kernel_rfl)) (A8 (Az (by kernel_rfl)) (A8 (E6 (ds:=[Dy]) Hb ⟨Dk (k:=2) L8 rfl B3g,trivial⟩) (A8 (Az (by kernel_rfl)) (A8 (Az (by kernel_rfl)) (Dd))))))
theorem Abf {l:List (TCT cMk)} {c:SKT C3} {u:SKTs [.r cSc 0]} {n j:Int} {m:TCT cMk} {q:Bool} {i:Nat}:A1i (hdM C3 Bo 1000 l c (u,()) n j) (some (bif q then rtM Bn 2000 (u,m,()) (i:Int) else exM Bn 2000 (u,m,())))=bif q then fdM C3 Bo 1000 (hdM C3 Bo 1000 l c (u,()) n j) else nxM C3 Bo 1000 (hdM C3 Bo 1000 l c (u,()) n j):=by
 cases q with
 | true =>
  show (bif decide ((i:Int)≥0) then fdM C3 Bo 1000 (hdM C3 Bo 1000 l c (u,()) n j) else nxM C3 Bo 1000 (hdM C3 Bo 1000 l c (u,()) n j))=_
  rw [decide_eq_true (show (i:Int)≥0 by omega),cond_true]
 | false=>rfl
abbrev Aj9:PureT:=Ha [.r cSc 0] [.b] (fun _=>true) (fun x=>((kd0 x.1).any (Af5 x.1),()))
theorem B3i:A6 Tryz.prog 144 Aj9:=Ji Af7 14 (fun x=>aM (iter (Pz C3 Bo 1000 Va) ((kd0 x.1).length+1) (hdM C3 Bo 1000 (kd0 x.1) ((),((),())) ((x.1,()),()) ((kd0 x.1).length:Int) 0))) (fun x=>by kernel_rfl) fun x _ hw=>by
 have hl:((kd0 x.1).length:Int)≤B7 .i64:=Dl (hw.1.1.1)
 have hl2:((kd3 x.1).length:Int)≤B7 .i64:=Dl (hw.1.1.2.2.2.1)
 rw [Avw (p:=Af5 x.1) hl (fun i hi=>by
  show (A1i _ (iter (Pz Ch Bn 2000 Ii) ((kd3 x.1).length+1) (hdM Ch Bn 2000 (kd3 x.1) ((),((),())) ((x.1,()),As (kd0 x.1) i (Aq cMk),()) ((kd3 x.1).length:Int) 0))).run=_
  rw [Avw (p:=Aj6 (As (kd0 x.1) i (Aq cMk))) hl2 (fun j _=>congrArg Tree.run (A26 _ _)),Abf]
  rfl)]
 exact A42
abbrev C6:List BK:=[(0,184,[.r cSc 0]),(1,99,[.d (.sl cMk)])]
abbrev Ci:SK:=.f 204 [] [.p 1 0 0 0,.p 0 0 0 0]
abbrev Ca:List BK:=[(0,184,[.r cSc 0]),(1,99,[.d (.sl cMk)]),(1000,98,[.d cI,.d cI,.d cI,.d cI])]
abbrev D4:SK:=.f 205 [] [.p 0 0 0 0,.p 1000 0 0 0]
def K0 (g:(LM D4 Ca 2000).T) (h:TCT cMk):Tree (CM D4 Ca 2000):=bif (mB h != scB g.2.1.1) then bif decide (mF h≤mF g.2.2.2.1) then fdM D4 Ca 2000 g else nxM D4 Ca 2000 g else nxM D4 Ca 2000 g
theorem A6e (g:(LM D4 Ca 2000).T) (h:TCT cMk):K0 g h=bif pLt g.2.1.1 g.2.2.2.1 h then fdM D4 Ca 2000 g else nxM D4 Ca 2000 g:=by unfold K0 pLt Amc;cases (mB h != scB g.2.1.1) <;> rfl
noncomputable abbrev Abg:St→Tree (XE×St):=Ar (LM D4 Ca 2000) (EM Ca 2000) (D7 [.ret,.exit 0] (Pz D4 Ca 2000 K0) (fuM D4 Ca 2000))
noncomputable def Tr:Ctx:=ctx Tryz.prog [] [(205,Tryz.f205),(147,Tryz.f147)]
theorem Af8:CtxOk Tr:=Ap Ak puOk_nil (fns_cons is_late11 (fns_cons is_othr A0))
theorem B3j (g:(LM D4 Ca 2000).T):evC Tryz.prog (D1 Tr 6) Tr.pures 140 Tr.u (fun _=>none) Dy ((LM D4 Ca 2000).of g) (Db (LM D4 Ca 2000) (EM Ca 2000))=Pz D4 Ca 2000 K0 g:=by kernel_rfl
theorem B3k:Aw Tryz.prog 140 Dy Abg:=B8 (X:=Tr) Af8 6 _ _ _ (Wl D4 Ca 2000) [.ret,.exit 0] _ _ B3j
noncomputable def Ts:Ctx:=G4 Tryz.prog [] [(204,Tryz.f204),(79,Tryz.f79),(140,Tryz.f140),(205,Tryz.f205),(147,Tryz.f147)] [((140,2),Abg)]
theorem Af9:CtxOk Ts:=Bs Ak puOk_nil (fns_cons is_late1 (fns_cons is_cfMk (fns_cons is_ixMk (fns_cons is_late11 (fns_cons is_othr A0))))) (A8 (Az (by kernel_rfl)) (A8 (Az (by kernel_rfl)) (A8 (E6 (ds:=[Dy]) Hb ⟨Dk (k:=2) L8 rfl B3k,trivial⟩) (A8 (Az (by kernel_rfl)) (A8 (Az (by kernel_rfl)) (Dd))))))
def A6f (g:(LM Ci C6 1000).T) (y:Option (A1 (EM Ca 2000))):Tree (CM Ci C6 1000):=bif isE .ret y then (bif decide ((C2 .ret y).1.1≥0) then .leaf (.inr (rtM C6 1000 ((C2 .ret y).2.1,(C2 .ret y).2.2.1,()) g.1.2.2.2.1)) else .leaf (.inl (hdM Ci C6 1000 g.1.1 g.1.2.1 ((C2 .ret y).2.1,(C2 .ret y).2.2.1,()) g.1.2.2.1 (W64 (g.1.2.2.2.1+1))))) else bif isE (.exit 0) y then (bif decide ((-1:Int)≥0) then .leaf (.inr (rtM C6 1000 ((C2 (.exit 0) y).2.1,(C2 (.exit 0) y).2.2.1,()) g.1.2.2.2.1)) else .leaf (.inl (hdM Ci C6 1000 g.1.1 g.1.2.1 ((C2 (.exit 0) y).2.1,(C2 (.exit 0) y).2.2.1,()) g.1.2.2.1 (W64 (g.1.2.2.2.1+1))))) else .fail
def A1j (g:(LM Ci C6 1000).T) (m:TCT cMk):Tree (CM Ci C6 1000):=bif decide ((0:Int)≤0∧0<((g.2.2.1.1:List (TCT cMk)).length:Int)) then bif decide (mF m>mF (As g.2.2.1.1 0 (Aq cMk))) then A6f g (iter (Pz D4 Ca 2000 K0) ((kd5 g.2.1.1).length+1) (hdM D4 Ca 2000 (kd5 g.2.1.1) ((),((),(),())) ((g.2.1.1,()),(g.2.2.1.1,()),m,()) ((kd5 g.2.1.1).length:Int) 0)) else nxM Ci C6 1000 g else .fail
theorem Bb9 (g:(LM Ci C6 1000).T):evC Tryz.prog (D1 Ts 12) Ts.pures 140 Ts.u (fun _=>none) Dy ((LM Ci C6 1000).of g) (Db (LM Ci C6 1000) (EM C6 1000))=Pz Ci C6 1000 A1j g:=by kernel_rfl
noncomputable abbrev Aja:St→Tree (XE×St):=Ar (LM Ci C6 1000) (EM C6 1000) (D7 [.ret,.exit 0] (Pz Ci C6 1000 A1j) (fuM Ci C6 1000))
theorem Bba:Aw Tryz.prog 140 Dy Aja:=B8 (X:=Ts) Af9 12 _ _ _ (Wl Ci C6 1000) [.ret,.exit 0] _ _ Bb9
noncomputable def Bbb:Ctx:=G4 Tryz.prog [] [(149,Tryz.f149),(79,Tryz.f79),(140,Tryz.f140),(204,Tryz.f204),(205,Tryz.f205),(147,Tryz.f147)] [((140,2),Aja)]
theorem Amg:CtxOk Bbb:=Bs Ak puOk_nil (fns_cons is_late (fns_cons is_cfMk (fns_cons is_ixMk (fns_cons is_late1 (fns_cons is_late11 (fns_cons is_othr A0)))))) (A8 (Az (by kernel_rfl)) (A8 (Az (by kernel_rfl)) (A8 (E6 (ds:=[Dy]) Hb ⟨Dk (k:=2) L8 rfl Bba,trivial⟩) (A8 (Az (by kernel_rfl)) (A8 (Az (by kernel_rfl)) (A8 (Az (by kernel_rfl)) (Dd)))))))
theorem Afa {l:List (TCT cMk)} {c:SKT Ci} {u:SKTs [.r cSc 0]} {v:SKTs [.d (.sl cMk)]} {n j:Int} {m:TCT cMk} {q:Bool} {i:Nat}:A6f (hdM Ci C6 1000 l c (u,v,()) n j) (some (bif q then rtM Ca 2000 (u,v,m,()) (i:Int) else exM Ca 2000 (u,v,m,())))=bif q then fdM Ci C6 1000 (hdM Ci C6 1000 l c (u,v,()) n j) else nxM Ci C6 1000 (hdM Ci C6 1000 l c (u,v,()) n j):=by
 cases q with
 | true =>
  show (bif decide ((i:Int)≥0) then fdM Ci C6 1000 (hdM Ci C6 1000 l c (u,v,()) n j) else nxM Ci C6 1000 (hdM Ci C6 1000 l c (u,v,()) n j))=_
  rw [decide_eq_true (show (i:Int)≥0 by omega),cond_true]
 | false=>rfl
abbrev Aw4:PureT:=Ha [.r cSc 0] [.b] (fun _=>true) (fun x=>((kd0 x.1).any (Qb x.1),()))
theorem Bbc:A6 Tryz.prog 149 Aw4:=Ji Amg 14 (fun x=>aM (iter (Pz Ci C6 1000 A1j) ((kd0 x.1).length+1) (hdM Ci C6 1000 (kd0 x.1) ((),((),(),())) ((x.1,()),(kd0 x.1,()),()) ((kd0 x.1).length:Int) 0))) (fun x=>by kernel_rfl) fun x _ hw=>by
 have hl:((kd0 x.1).length:Int)≤B7 .i64:=Dl (hw.1.1.1)
 have hl2:((kd5 x.1).length:Int)≤B7 .i64:=Dl (hw.1.1.2.2.2.2.2.1)
 rw [Avw (p:=Qb x.1) hl (fun i hi=>by
  show (bif decide ((0:Int)≤0∧0<((kd0 x.1).length:Int)) then bif decide (mF (As (kd0 x.1) i (Aq cMk))>mF (As (kd0 x.1) 0 (Aq cMk))) then A6f _ (iter (Pz D4 Ca 2000 K0) ((kd5 x.1).length+1) (hdM D4 Ca 2000 (kd5 x.1) ((),((),(),())) ((x.1,()),(kd0 x.1,()),As (kd0 x.1) i (Aq cMk),()) ((kd5 x.1).length:Int) 0)) else nxM Ci C6 1000 _ else .fail).run=_
  rw [Avw (p:=pLt x.1 (As (kd0 x.1) i (Aq cMk))) hl2 (fun j _=>congrArg Tree.run (A6e _ _)),Afa,decide_eq_true (show (0:Int)≤0∧0<((kd0 x.1).length:Int) by omega)]
  unfold Qb
  cases decide (mF (As (kd0 x.1) i (Aq cMk))>mF (As (kd0 x.1) 0 (Aq cMk))) <;> rfl)]
 exact A42
end Wi
end V
end Go.Proofs.YtlangijnealfjaaGreat
