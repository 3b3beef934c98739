import Derived.Test.YtcfanlgpkefogaaGreatBA
namespace Go.Proofs.YtcfanlgpkefogaaGreat
open Go.RowKit
namespace V
namespace St
noncomputable def Bfd:Code:=(Ak (bodyOf Tryz.f13)).getD 0 .skip
abbrev kPt:List SK:=[.d cI,.d cI]
def A92:Lay:={ keys:=[4,17,18,19],ks:=[.p 2 0 0 0,.d (.sl Bg),.d cI,.d cI],bs:=[(2,31,kPt)],n:=39,nx:=1000,marks:=[] }
def Bjr:Lay:={ keys:=[4],ks:=[.p 2 0 0 0],bs:=[(2,31,kPt)],n:=39,nx:=1000,marks:=[] }
def A5o:XE→Lay:=fun _=>Bjr
def As6 (m:List (TCT Bg)) (n i:Int) (p:SKTs kPt):A92.T:=(((),m,n,i,()),(p,()))
def As7 (p:SKTs kPt):A0 A5o:=⟨.exit 0,(((),()),(p,()))⟩
def As8 (p:SKTs kPt) (m:TCT Bg):SKTs kPt:=(W64 (p.1+m.2.1.1),W64 (p.2.1+m.2.1.2.1),())
def Yu (m:List (TCT Bg)) (n i:Int) (p:SKTs kPt):Tree (A92.T⊕A0 A5o):=bif decide (i<n) then inN m.length i (.leaf (.inl (As6 m n (W64 (i+1)) (As8 p (B7 m (Int.toNat i) (B9 Bg)))))) else .leaf (.inr (As7 p))
def Ahp (g:A92.T):Tree (A92.T⊕A0 A5o):=Yu g.1.2.1 g.1.2.2.1 g.1.2.2.2.1 g.2.1
def As9 (g:A92.T):Nat:=(g.1.2.1:List (TCT Bg)).length+1
theorem Bjs:Bc Tryz.prog 13 Bfd (Bd A92 A5o (E5 [.exit 0] Ahp As9)):=Bv (B6 Aw puS1 A1) 7 _ A92 A5o (fun e=>by cases e <;> exact Nat.le_refl _) [.exit 0] Ahp As9 (fun g=>by kernel_rfl)
def Ads (m:List (TCT Bg)) (i:Nat) (p:SKTs kPt):SKTs kPt⊕Unit:=.inl (As8 p (B7 m i (B9 Bg)))
def p0:SKTs kPt:=(0,0,())
def gP:SKTs kPt⊕Unit→SKTs kPt
 | .inl p=>p
 | .inr _=>p0
def B9q (r:SKTs kPt⊕Unit):A0 A5o:=As7 (gP r)
def Yv (m:List (TCT Bg)):SKTs kPt:=gP (B8 (Ads m) 0 m.length p0)
def Bfe (s:TCT cSt):Option (A0 A5o):=iter Ahp ((msT s).length+1) (As6 s.1 (msT s).length 0 p0)
theorem B0x {s:TCT cSt} (hm:((msT s).length:Int)≤Bo .i64):Bfe s=some (As7 (Yv (msT s))):=by
 refine Hk (msT s).length (fun i p=>As6 s.1 (msT s).length i p) (Ads (msT s)) B9q (fun _ _=>True) (fun i p hi _=>?_) (fun _ _ _ _ _ _=>trivial) (fun p _=>?_) (msT s).length 0 p0 (by omega) trivial
 ·show (Yu (msT s) (msT s).length (i:Int) p).run=_
  unfold Yu Ads
  rw [decide_eq_true (show (i:Int)<((msT s).length:Int) by omega),E2 (by omega),show Int.toNat (i:Int)=i from rfl,Ec hi hm]
  rfl
 ·show (Yu (msT s) (msT s).length ((msT s).length:Int) p).run=_
  unfold Yu
  rw [decide_eq_false (show ¬ ((msT s).length:Int)<((msT s).length:Int) by omega)]
  rfl
abbrev TPe:=Tree (TCTs [cPt,cI])
def lfP (p:SKTs kPt) (e:Int):TPe:=.leaf ((p.1,p.2.1,()),e,())
def Bjt (y:Option (A0 A5o)):TPe:=bif isE (.exit 0) y then lfP (D4 (.exit 0) y).2.1 0 else .fail
def totR (g:TCT cGr) (s:TCT cSt):SKTs kPt:=bif Db g s != 0 then p0 else Yv (msT s)
abbrev Bff:PureT:=Bz [cGr,cSt] [cPt,cI] (fun x=>decide ((x.1.1.1.size:Int)≤Bo .i64)) (fun x=>(((totR x.1 x.2.1).1,(totR x.1 x.2.1).2.1,()),Db x.1 x.2.1,()))
theorem B0y {g:TCT cGr} {s:TCT cSt} {k:TPe} (h:k=lfP (Yv (msT s)) 0):(bif Db g s != 0 then lfP p0 (Db g s) else k).sat (fun y=>y=(((totR g s).1,(totR g s).2.1,()),Db g s,())):=by
 unfold totR
 cases hs:Db g s != 0 with
 | true=>exact rfl
 | false =>
  have:=bne_eq_false_iff_eq.1 hs
  simp only [cond_false]
  rw [this,h]
  exact rfl
noncomputable def Bju:Ctx:=Ie Tryz.prog plS4 [(13,Tryz.f13)] [((13,5),Bd A92 A5o (E5 [.exit 0] Ahp As9))]
theorem B0z:CtxOk Bju:=D6 Aw puS4 (fns_cons is_sTotal A1) (Cl (by kernel_rfl) (by kernel_rfl) Bjs)
theorem A93:A5 Tryz.prog 13 Bff:=C5 B0z 7 (fun x=>szT x.1.1 (bif Db x.1 x.2.1 != 0 then lfP p0 (Db x.1 x.2.1) else Bjt (Bfe x.2.1))) (fun x=>by kernel_rfl) fun x hok hw=>by
 rw [Dh (of_decide_eq_true hok)]
 refine B0y ?_
 rw [B0x (G3 hw.2.1.1)]
 rfl
end St
end V
end Go.Proofs.YtcfanlgpkefogaaGreat
namespace Go.Proofs.YtcfanlgpkefogaaGreat
open Go.RowKit
namespace V
def isL {A B:Type}:Option (A⊕B)→Bool
 | some (.inl _)=>true
 | _=>false
def isR {A B:Type}:Option (A⊕B)→Bool
 | some (.inr _)=>true
 | _=>false
def gL {A B:Type} (d:A):Option (A⊕B)→A
 | some (.inl a)=>a
 | _=>d
def gR {A B:Type} (d:B):Option (A⊕B)→B
 | some (.inr b)=>b
 | _=>d
def FLay.dfl (F:FLay):F.T:=(dflKs F.ks,Bd9 F.bs)
theorem Yw {α:Type} {t:Tree α} {R S:α→Prop} (h:t.sat R) (k:∀ x,R x→S x):t.sat S:=by
 induction t with
 | leaf a=>exact k a h
 | need p t ih=>exact ⟨h.1,ih h.2⟩
 | br c t e i1 i2=>exact ⟨fun x=>i1 (h.1 x),fun x=>i2 (h.2 x)⟩
 | fail=>exact h
def B9r {L:FLay} {E:Bool→FLay} (c:L.T→Bool) (r:L.T→(E true).T) (g:L.T):Tree (Ev E):=.br (c g) (.leaf ⟨true,r g⟩) .fail
theorem V5 {X:Ctx} (hX:CtxOk X) {f:FuncId} (m:Nat) {probe:B0→List AV→Option (List Nat)} {L:FLay} {E:Bool→FLay} (hE:∀ b,L.nx≤(E b).nx) (c:L.T→Bool) (r:L.T→(E true).T) (T:L.T→Tree (Ev E))
  (he:∀ g,P9 X (E1 X m) f (ofKs L.ks g.1 L.nx) (L.lay.hp g) (L.lay.of g).nx (X0 E)=T g)
  (h:∀ g,L.lay.WF g→c g=true→(T g).run=some ⟨true,r g⟩):C3 X.P f (Ly probe L E (B9r c r)) :=
 Abw hX m hE fun g R hw hf=>by
  rw [he]
  cases hc:c g with
  | false=>exact (hf.2 hc).elim
  | true=>exact Yw (Tree.sat_run (h g hw hc) (hf.1 hc)) fun x hx _=>hx
namespace St
theorem is_rolls:FnIs Tryz.prog (137,Tryz.f137):=⟨Tryz.func137,by kernel_rfl,by kernel_rfl⟩
theorem is_flies:FnIs Tryz.prog (98,Tryz.f98):=⟨Tryz.func98,by kernel_rfl,by kernel_rfl⟩
theorem is_knock:FnIs Tryz.prog (100,Tryz.f100):=⟨Tryz.func100,by kernel_rfl,by kernel_rfl⟩
theorem is_must:FnIs Tryz.prog (49,Tryz.f49):=⟨Tryz.func49,by kernel_rfl,by kernel_rfl⟩
theorem is_gslow:FnIs Tryz.prog (101,Tryz.f101):=⟨Tryz.func101,by kernel_rfl,by kernel_rfl⟩
theorem is_gmove:FnIs Tryz.prog (102,Tryz.f102):=⟨Tryz.func102,by kernel_rfl,by kernel_rfl⟩
theorem is_gsettle:FnIs Tryz.prog (50,Tryz.f50):=⟨Tryz.func50,by kernel_rfl,by kernel_rfl⟩
theorem is_gbump:FnIs Tryz.prog (103,Tryz.f103):=⟨Tryz.func103,by kernel_rfl,by kernel_rfl⟩
theorem is_gtick:FnIs Tryz.prog (54,Tryz.f54):=⟨Tryz.func54,by kernel_rfl,by kernel_rfl⟩
theorem is_Tick1:FnIs Tryz.prog (53,Tryz.f53):=⟨Tryz.func53,by kernel_rfl,by kernel_rfl⟩
theorem is_Strike1:FnIs Tryz.prog (46,Tryz.f46):=⟨Tryz.func46,by kernel_rfl,by kernel_rfl⟩
theorem is_run1:FnIs Tryz.prog (107,Tryz.f107):=⟨Tryz.func107,by kernel_rfl,by kernel_rfl⟩
abbrev kGm (f:Nat):List SK:=[.d .s,.d cI,.d cI,.d cI,.d (.sl Bt),.d cI,.d cI,.d cI,.d cI,.d cI,.d (.sl Dc),.d (.sl A2),.d cI,.d cI,.d (.sl A6),.w 2 60 Bg,.o 4 .b,.d cI,.d cI,.d cI,.d cI,.f f [] [.p 1 0 0 0]]
abbrev bsG (f:Nat):List BK:=[(0,137,kGm f),(1,48,[.o 58 cKn])]
abbrev GM:Type:=SKTs (kGm 0)
abbrev Kns:Type:=List (TCT cKn)
abbrev B5:Type:=List (TCT Bg)
def gmX (m:GM):SKTs kGr:=(m.1,m.2.1,m.2.2.1,m.2.2.2.1,m.2.2.2.2.1,m.2.2.2.2.2.1,m.2.2.2.2.2.2.1,m.2.2.2.2.2.2.2.1,m.2.2.2.2.2.2.2.2.1,m.2.2.2.2.2.2.2.2.2.1,m.2.2.2.2.2.2.2.2.2.2.1,m.2.2.2.2.2.2.2.2.2.2.2.1,m.2.2.2.2.2.2.2.2.2.2.2.2.1,m.2.2.2.2.2.2.2.2.2.2.2.2.2.1,())
def gmP (m:GM):List (TCT A6):=m.2.2.2.2.2.2.2.2.2.2.2.2.2.2.1
def gmM (m:GM):B5:=m.2.2.2.2.2.2.2.2.2.2.2.2.2.2.2.1
def gmO (m:GM):List Bool:=m.2.2.2.2.2.2.2.2.2.2.2.2.2.2.2.2.1
def gmW (m:GM):Int:=m.2.2.2.2.2.2.2.2.2.2.2.2.2.2.2.2.2.1
def gmF (m:GM):Int:=m.2.2.2.2.2.2.2.2.2.2.2.2.2.2.2.2.2.2.1
def gmT (m:GM):Int:=m.2.2.2.2.2.2.2.2.2.2.2.2.2.2.2.2.2.2.2.1
def gmS (m:GM):Int:=m.2.2.2.2.2.2.2.2.2.2.2.2.2.2.2.2.2.2.2.2.1
def gmU (m:GM) (ms:B5) (os:List Bool):GM:=(m.1,m.2.1,m.2.2.1,m.2.2.2.1,m.2.2.2.2.1,m.2.2.2.2.2.1,m.2.2.2.2.2.2.1,m.2.2.2.2.2.2.2.1,m.2.2.2.2.2.2.2.2.1,m.2.2.2.2.2.2.2.2.2.1,m.2.2.2.2.2.2.2.2.2.2.1,m.2.2.2.2.2.2.2.2.2.2.2.1,m.2.2.2.2.2.2.2.2.2.2.2.2.1,m.2.2.2.2.2.2.2.2.2.2.2.2.2.1,m.2.2.2.2.2.2.2.2.2.2.2.2.2.2.1,ms,os,m.2.2.2.2.2.2.2.2.2.2.2.2.2.2.2.2.2.1,m.2.2.2.2.2.2.2.2.2.2.2.2.2.2.2.2.2.2.1,m.2.2.2.2.2.2.2.2.2.2.2.2.2.2.2.2.2.2.2.1,m.2.2.2.2.2.2.2.2.2.2.2.2.2.2.2.2.2.2.2.2.1,m.2.2.2.2.2.2.2.2.2.2.2.2.2.2.2.2.2.2.2.2.2.1,())
def gmB (m:GM):List (TCT A2):=blX (gmX m)
def gmL (m:GM):TCT A9:=lwG (gmX m)
abbrev GB:Type:=GM×SKTs [.o 0 cKn]×Unit
def gb (m:GM) (k:Kns):GB:=(m,(k,()),())
def plGm:List (Nat×PureT):=(79,A8u)::(18,A8s)::(19,Ax0)::(39,Awv)::(138,Awz)::(99,Aaq)::plS4
def B10:List AV→List Nat
 | []=>[]
 | .own i::l=>i::B10 l
 | _::l=>B10 l
def M6 (hp:B0) (args:List AV):Option (List Nat):=match args with
 | .ptr id _ _ _::_=>match hp id with
  | some (.blk b)=>match nth b.cs 21 with
   | some (.fn _ _ [.ptr k _ _ _])=>match hp k with
    | some (.blk c)=>some (id::k::(B10 b.cs++B10 c.cs))
    | _=>none
   | _=>none
  | _=>none
 | _=>none
def A94 (f:Nat):FLay:={ ks:=[.p 0 0 0 0,.d cI],bs:=bsG f,nx:=1000 }
def Bjv (f:Nat):FLay:={ ks:=[.d .b],bs:=bsG f,nx:=1000 }
def FN:FLay:={ ks:=[.i 49 .i64],bs:=[],nx:=1000 }
def A29 (f:Nat) (b:Bool):FLay:=bif b then Bjv f else FN
def inO {β:Type} (n:Nat) (i:Int) (k:Tree β):Tree β:=inN n i (bif decide (Int.toNat i<n) then k else .fail)
theorem G9 {β:Type} {n:Nat} {i:Int} {k:Tree β} (h:0≤i∧i<(n:Int)):inO n i k=k:=by
 unfold inO
 rw [E2 h,decide_eq_true (by omega)];rfl
def Cp (ms:B5) (os:List Bool) (i:Nat):Bool:=!B7 os i (B9 .b)&&Ql (B7 ms i (B9 Bg))
def Ff (w fl i:Int):Bool:=(i==w)&&decide (fl>0)
def A2a (ms:B5) (os:List Bool) (i:Int):Bool:=decide (0≤i∧i<(os.length:Int)∧i<(ms.length:Int))
def lfB (f:Nat) (b:Bool) (x:GB):Tree (Ev (A29 f)):=.leaf ⟨true,((b,()),x)⟩
def T_ro (f:Nat) (i:Int) (m:GM) (x:GB):Tree (Ev (A29 f)):=inO (gmO m).length i (bif !B7 (gmO m) (Int.toNat i) (B9 .b) then inO (gmM m).length i (lfB f (Ql (B7 (gmM m) (Int.toNat i) (B9 Bg))) x) else lfB f false x)
abbrev C_ro (f:Nat) (g:(A94 f).T):Bool:=A2a g.2.1.2.2.2.2.2.2.2.2.2.2.2.2.2.2.2.1 g.2.1.2.2.2.2.2.2.2.2.2.2.2.2.2.2.2.2.1 g.1.2.1
def V_ro (f:Nat) (g:(A94 f).T):(A29 f true).T:=((Cp g.2.1.2.2.2.2.2.2.2.2.2.2.2.2.2.2.2.1 g.2.1.2.2.2.2.2.2.2.2.2.2.2.2.2.2.2.2.1 (Int.toNat g.1.2.1),()),g.2)
def C_fl (f:Nat) (_:(A94 f).T):Bool:=true
def V_fl (f:Nat) (g:(A94 f).T):(A29 f true).T:=((Ff g.2.1.2.2.2.2.2.2.2.2.2.2.2.2.2.2.2.2.2.1 g.2.1.2.2.2.2.2.2.2.2.2.2.2.2.2.2.2.2.2.2.1 g.1.2.1,()),g.2)
def T_fl (f:Nat) (i:Int) (m:GM) (x:GB):Tree (Ev (A29 f)):=bif i==gmW m then lfB f (decide (gmF m>0)) x else lfB f false x
theorem Py {f:Nat} (b:Bool):1000≤(A29 f b).nx:=by cases b <;> exact Nat.le_refl _
theorem Adt {f:Nat} {g:(A94 f).T} (h:C_ro f g=true):(T_ro f g.1.2.1 g.2.1 g.2).run=some ⟨true,V_ro f g⟩:=by
 have hd:0≤g.1.2.1∧g.1.2.1<((gmO g.2.1).length:Int)∧g.1.2.1<((gmM g.2.1).length:Int):=of_decide_eq_true h
 unfold V_ro
 show (T_ro f g.1.2.1 g.2.1 g.2).run=some (⟨true,((Cp (gmM g.2.1) (gmO g.2.1) (Int.toNat g.1.2.1),()),g.2)⟩:Ev (A29 f))
 unfold T_ro Cp
 rw [G9 ⟨hd.1,hd.2.1⟩,G9 ⟨hd.1,hd.2.2⟩]
 cases B7 (gmO g.2.1) (Int.toNat g.1.2.1) (B9 .b) <;> rfl
theorem Adu {f:Nat} {g:(A94 f).T}:(T_fl f g.1.2.1 g.2.1 g.2).run=some ⟨true,V_fl f g⟩:=by
 unfold V_fl
 show (T_fl f g.1.2.1 g.2.1 g.2).run=some (⟨true,((Ff (gmW g.2.1) (gmF g.2.1) g.1.2.1,()),g.2)⟩:Ev (A29 f))
 unfold T_fl Ff
 cases g.1.2.1==gmW g.2.1 <;> rfl
abbrev sp_ro (f:Nat):B0→Nat→List AV→Tree (Out×B0×Nat):=Ly M6 (A94 f) (A29 f) (B9r (fun g=>A2a g.2.1.2.2.2.2.2.2.2.2.2.2.2.2.2.2.2.1 g.2.1.2.2.2.2.2.2.2.2.2.2.2.2.2.2.2.2.1 g.1.2.1) (V_ro f))
abbrev sp_fl (f:Nat):B0→Nat→List AV→Tree (Out×B0×Nat):=Ly M6 (A94 f) (A29 f) (B9r (fun _=>true) (V_fl f))
theorem puGm:De Tryz.prog plGm:=puOk_cons is_sOn.plain B62 (puOk_cons is_CellAt.plain Ari (puOk_cons is_Slow.plain Bcv (puOk_cons is_Step.plain Bct (puOk_cons is_Bump.plain Bcu (puOk_cons is_Settle.plain Aw3 puS4)))))
noncomputable def Bjw:Ctx:=ctx Tryz.prog plGm [(137,Tryz.f137),(98,Tryz.f98)]
theorem Pz:CtxOk Bjw:=B6 Aw puGm (fns_cons is_rolls (fns_cons is_flies A1))
theorem Hd:C3 Tryz.prog 137 (sp_ro 53):=V5 Pz 6 Py (C_ro 53) (V_ro 53) (fun g=>T_ro 53 g.1.2.1 g.2.1 g.2) (fun g=>by kernel_rfl) fun _ _ h=>Adt h
theorem He:C3 Tryz.prog 98 (sp_fl 53):=V5 Pz 6 Py (C_fl 53) (V_fl 53) (fun g=>T_fl 53 g.1.2.1 g.2.1 g.2) (fun g=>by kernel_rfl) fun _ _ _=>Adu
theorem Xn:C3 Tryz.prog 137 (sp_ro 46):=V5 Pz 6 Py (C_ro 46) (V_ro 46) (fun g=>T_ro 46 g.1.2.1 g.2.1 g.2) (fun g=>by kernel_rfl) fun _ _ h=>Adt h
theorem Xo:C3 Tryz.prog 98 (sp_fl 46):=V5 Pz 6 Py (C_fl 46) (V_fl 46) (fun g=>T_fl 46 g.1.2.1 g.2.1 g.2) (fun g=>by kernel_rfl) fun _ _ _=>Adu
theorem Hf:C3 Tryz.prog 137 (sp_ro 107):=V5 Pz 6 Py (C_ro 107) (V_ro 107) (fun g=>T_ro 107 g.1.2.1 g.2.1 g.2) (fun g=>by kernel_rfl) fun _ _ h=>Adt h
theorem Hg:C3 Tryz.prog 98 (sp_fl 107):=V5 Pz 6 Py (C_fl 107) (V_fl 107) (fun g=>T_fl 107 g.1.2.1 g.2.1 g.2) (fun g=>by kernel_rfl) fun _ _ _=>Adu
end St
end V
end Go.Proofs.YtcfanlgpkefogaaGreat
namespace Go.Proofs.YtcfanlgpkefogaaGreat
open Go.RowKit
namespace V
def Yx {L:FLay} {E:Bool→FLay} {A:Type} (Y:L.T→Option (A⊕Int)) (mk:L.T→A→(E true).T) (pn:Int→(E false).T) (d:A) (g:L.T):Tree (Ev E) :=
 .br (isL (Y g)) (.leaf ⟨true,mk g (gL d (Y g))⟩) (.br (isR (Y g)) (.leaf ⟨false,pn (gR 0 (Y g))⟩) .fail)
def A2b {L:FLay} {E:Bool→FLay} {A:Type} (mk:L.T→A→(E true).T) (pn:Int→(E false).T) (g:L.T):A⊕Int→Ev E
 | .inl a=>⟨true,mk g a⟩
 | .inr e=>⟨false,pn e⟩
theorem Asa {L:FLay} {E:Bool→FLay} {A:Type} {Y:L.T→Option (A⊕Int)} {mk:L.T→A→(E true).T} {pn:Int→(E false).T} {d:A} {g:L.T} {R:Ev E→Prop} (h:(Yx Y mk pn d g).sat R):∃ z,Y g=some z∧R (A2b mk pn g z):=by
 unfold Yx at h
 obtain ⟨h1,h2⟩:=h
 cases hF:Y g with
 | none =>
  rw [hF] at h2
  exact ((h2 rfl).2 rfl).elim
 | some z =>
  cases z with
  | inl a=>rw [hF] at h1;exact ⟨_,rfl,h1 rfl⟩
  | inr b=>rw [hF] at h2;exact ⟨_,rfl,(h2 rfl).1 rfl⟩
theorem Ko {X:Ctx} (hX:CtxOk X) {f:FuncId} (m:Nat) {probe:B0→List AV→Option (List Nat)} {L:FLay} {E:Bool→FLay} (hE:∀ b,L.nx≤(E b).nx) {A:Type} (Y:L.T→Option (A⊕Int)) (mk:L.T→A→(E true).T) (pn:Int→(E false).T) (d:A) (T:L.T→Tree (Ev E))
  (he:∀ g,P9 X (E1 X m) f (ofKs L.ks g.1 L.nx) (L.lay.hp g) (L.lay.of g).nx (X0 E)=T g)
  (h:∀ g z,L.lay.WF g→Y g=some z→(T g).run=some (A2b mk pn g z)):C3 X.P f (Ly probe L E (Yx Y mk pn d)) :=
 Abw hX m hE fun g R hw hf=>by
  rw [he]
  obtain ⟨z,hz,hr⟩:=Asa hf
  exact Yw (Tree.sat_run (h g z hw hz) hr) fun x hx _=>hx
namespace St
def nBx (m:GM):Nat:=(gmB m).length
def Alm (m:GM):Bool:=decide ((m.1.size:Int)≤Bo .i64)&&(decide ((gmM m).length=nBx m)&&(decide ((gmO m).length=nBx m)&&decide (nBx m≤8)))
structure OkGM (m:GM):Prop where
 sz:(m.1.size:Int)≤Bo .i64
 ms:(gmM m).length=nBx m
 os:(gmO m).length=nBx m
 n:nBx m≤8
theorem Ej {m:GM}:Alm m=true ↔ OkGM m:=by
 unfold Alm
 simp only [Bool.and_eq_true,decide_eq_true_eq]
 exact ⟨fun h=>⟨h.1,h.2.1,h.2.2.1,h.2.2.2⟩,fun h=>⟨h.sz,h.ms,h.os,h.n⟩⟩
def FL_g (f:Nat):FLay:={ ks:=[.p 0 0 0 0],bs:=bsG f,nx:=1000 }
def Bjx (f:Nat):FLay:={ ks:=[],bs:=bsG f,nx:=1000 }
def FE_u (f:Nat) (b:Bool):FLay:=bif b then Bjx f else FN
theorem I2 {f:Nat} (b:Bool):1000≤(FE_u f b).nx:=by cases b <;> exact Nat.le_refl _
def pnU (f:Nat) (e:Int):(FE_u f false).T:=((e,()),())
def mkU (f:Nat) (x:GB):(FE_u f true).T:=((),x)
def spG (f:Nat):List (Nat×(B0→Nat→List AV→Tree (Out×B0×Nat))):=[(137,sp_ro f),(98,sp_fl f)]
theorem Mg {P:Program} {f g:Nat} {sp sq:B0→Nat→List AV→Tree (Out×B0×Nat)} (h:Plain P f) (k:C3 P f sp) (h2:Plain P g) (k2:C3 P g sq):∀ p ∈ [(f,sp),(g,sq)],Plain P p.1∧C3 P p.1 p.2:=fun p hp=>by
 simp only [List.mem_cons,List.not_mem_nil,or_false] at hp
 rcases hp with rfl | rfl
 ·exact ⟨h,k⟩
 ·exact ⟨h2,k2⟩
theorem K7 {P:Program} {fns:List (Nat×Func)}:∀ p ∈ fns,∀ d ∈ Ak (bodyOf p.2),∀ g,D7 ([]:List ((Nat×Nat)×(St→Tree (XE×St)))) p.1 (keyOf d)=some g→Bc P p.1 d g:=fun _ _ _ _ _ h=>by simp [D7] at h
noncomputable def Bjy (f:Nat):Ctx:=Ua Tryz.prog plGm [(49,Tryz.f49)] [] (spG f)
theorem Ahq {f:Nat} (h1:C3 Tryz.prog 137 (sp_ro f)) (h2:C3 Tryz.prog 98 (sp_fl f)):CtxOk (Bjy f):=Gn Aw puGm (fns_cons is_must A1) K7 (Mg is_rolls.plain h1 is_flies.plain h2)
noncomputable def Asb:Code:=(Ak (bodyOf Tryz.f101)).getD 0 .skip
def Aln (f:Nat):Lay:={ keys:=[0,13,14],ks:=[.p 0 0 0 0,.d cI,.d cI],bs:=bsG f,n:=80,nx:=2000,marks:=[] }
def Bjz (f:Nat):Lay:={ keys:=[],ks:=[],bs:=bsG f,n:=80,nx:=2000,marks:=[] }
def Bk0:Lay:={ keys:=[],ks:=[],bs:=[],n:=80,nx:=2000,marks:=[] }
def Adv (f:Nat):XE→Lay:=fun e=>match e with | .panic _=>Bk0 | _=>Bjz f
def Ld (l:TCT A9) (m:TCT Bg):TCTs [cPt,cI]:=Je (W64 (m.2.1.1+(Ju l m.1).2.1)) (W64 (m.2.1.2.1+(Ju l m.1).2.2.1)) (Ju l m.1).1
def A2c (l:TCT A9) (m:TCT Bg):TCT Bg:=(m.1,((Ld l m).1.1,(Ld l m).1.2.1,()),m.2.2.1,())
def A8 (ms:B5) (i:Nat):TCT Bg:=B7 ms i (B9 Bg)
def gk (x:GB):Kns:=x.2.1.1
def Qq (f:Nat) (x:GB) (n i:Int) (ms:B5):(Aln f).T:=(((),n,i,()),(gb (gmU x.1 ms (gmO x.1)) (gk x)))
def Asd (f:Nat) (x:GB) (ms:B5):A0 (Adv f):=⟨.exit 0,((),(gb (gmU x.1 ms (gmO x.1)) (gk x)))⟩
def Ase (f:Nat) (e:Int):A0 (Adv f):=⟨.panic (.ifc 49 (.int .i64 e)),((),())⟩
abbrev TSw (f:Nat):=Tree ((Aln f).T⊕A0 (Adv f))
def inT {β:Type} (n:Nat) (i:Int) (k:Tree β):Tree β:=bif decide (Int.toNat i<n) then k else .fail
theorem Adw {β:Type} {n:Nat} {i:Int} {k:Tree β} (h:0≤i∧i<(n:Int)):inT n i k=k:=by unfold inT;rw [decide_eq_true (by omega)];rfl
def Asf (f:Nat) (x:GB) (n i:Int) (ms:B5):TSw f :=
 bif Fy (gmL x.1) (A8 ms (Int.toNat i)).1 != 0 then .leaf (.inr (Ase f (Fy (gmL x.1) (A8 ms (Int.toNat i)).1))) else inT ms.length i (inT ms.length i (
  bif (Ld (gmL x.1) (A8 ms (Int.toNat i))).2.1 != 0 then .leaf (.inr (Ase f 4)) else inT ms.length i (.leaf (.inl (Qq f x n (W64 (i+1)) (By ms (Int.toNat i) (A2c (gmL x.1) (A8 ms (Int.toNat i)))))))))
def szG {β:Type} (m:GM) (k:Tree β):Tree β:=bif decide ((m.1.size:Int)≤Bo .i64) then k else .fail
def Yy (f:Nat) (x:GB) (n i:Int) (ms:B5):TSw f:=bif decide (i<n) then bif A2a ms (gmO x.1) i then
 bif !Cp ms (gmO x.1) (Int.toNat i) then .leaf (.inl (Qq f x n (W64 (i+1)) ms)) else bif Ff (gmW x.1) (gmF x.1) i then .leaf (.inl (Qq f x n (W64 (i+1)) ms)) else
 inO ms.length i (szG x.1 (Asf f x n i ms)) else .fail else .leaf (.inr (Asd f x ms))
def Asg (f:Nat) (g:(Aln f).T):TSw f:=Yy f g.2 g.1.2.1 g.1.2.2.1 (gmM g.2.1)
def fu_sw (f:Nat) (g:(Aln f).T):Nat:=Int.toNat g.1.2.1+1
def sm_sw (f:Nat):St→Tree (XE×St):=Bd (Aln f) (Adv f) (finP 49 .i64 [.exit 0] (Asg f) (fu_sw f))
theorem Ahr {f:Nat} (e:XE):(Aln f).nx≤(Adv f e).nx:=by cases e <;> exact Nat.le_refl _
theorem B9s:Bc Tryz.prog 101 Asb (sm_sw 53):=Hx (Ahq Hd He) 7 _ _ _ Ahr _ _ _ _ (fu_sw 53) (fun g=>by kernel_rfl)
theorem B9t:Bc Tryz.prog 101 Asb (sm_sw 107):=Hx (Ahq Hf Hg) 7 _ _ _ Ahr _ _ _ _ (fu_sw 107) (fun g=>by kernel_rfl)
def A95 (m:GM) (i:Nat) (ms:B5):B5⊕Int :=
 bif !Cp ms (gmO m) i||Ff (gmW m) (gmF m) i then .inl ms else bif Fy (gmL m) (A8 ms i).1 != 0 then .inr (Fy (gmL m) (A8 ms i).1) else
 bif (Ld (gmL m) (A8 ms i)).2.1 != 0 then .inr 4 else .inl (By ms i (A2c (gmL m) (A8 ms i)))
def Yz (f:Nat) (x:GB):B5⊕Int→A0 (Adv f)
 | .inl ms=>Asd f x ms
 | .inr e=>Ase f e
theorem C7 {α:Type}:∀ (l:List α) (i:Nat) (x:α),(By l i x).length=l.length
 | [],_,_=>rfl
 | _::_,0,_=>rfl
 | _::l,i+1,x=>by simp only [By,List.length_cons,C7 l i x]
theorem Ash {m:GM} {n:Nat} (i:Nat) (s s':B5) (_:i<n) (hi:s.length=n) (h:A95 m i s=.inl s'):s'.length=n:=by
 unfold A95 at h
 cases h1:!Cp s (gmO m) i||Ff (gmW m) (gmF m) i with
 | true=>rw [h1] at h;cases h;exact hi
 | false =>
  rw [h1] at h
  cases h2:Fy (gmL m) (A8 s i).1 != 0 with
  | true=>rw [h2] at h;cases h
  | false =>
   rw [h2] at h
   cases h3:(Ld (gmL m) (A8 s i)).2.1 != 0 with
   | true=>rw [h3] at h;cases h
   | false=>rw [h3] at h;cases h;rw [C7];exact hi
theorem A5p {ms:B5} {os:List Bool} {i n:Nat} (h:i<n) (h1:ms.length=n) (h2:os.length=n):A2a ms os (i:Int)=true:=by
 unfold A2a
 exact decide_eq_true (by omega)
theorem Bfg {f:Nat} {x:GB} {ms:B5} (hx:OkGM x.1) (hm:ms.length=nBx x.1):iter (Asg f) (nBx x.1+1) (Qq f x (nBx x.1) 0 ms)=some (Yz f x (B8 (A95 x.1) 0 (nBx x.1) ms)):=by
 have hn:(nBx x.1:Int)≤Bo .i64:=by have:=hx.n;show (nBx x.1:Int)≤9223372036854775807;omega
 refine Hk (nBx x.1) (fun i ms=>Qq f x (nBx x.1) i ms) (A95 x.1) (Yz f x) (fun _ ms=>ms.length=nBx x.1) (fun i ms hi hl=>?_) Ash (fun ms hl=>?_) (nBx x.1) 0 ms (by omega) hm
 ·show (Yy f (gb (gmU x.1 ms (gmO x.1)) (gk x)) (nBx x.1) (i:Int) ms).run=_
  have e:∀ y z,Qq f (gb (gmU x.1 ms (gmO x.1)) (gk x)) (nBx x.1) y z=Qq f x (nBx x.1) y z:=fun _ _=>rfl
  unfold Yy
  have hin:=A5p hi hl hx.os
  show Tree.run (bif decide ((i:Int)<(nBx x.1:Int)) then bif A2a ms (gmO x.1) (i:Int) then bif !Cp ms (gmO x.1) i then .leaf (.inl (Qq f x (nBx x.1) (W64 ((i:Int)+1)) ms)) else bif Ff (gmW x.1) (gmF x.1) i then .leaf (.inl (Qq f x (nBx x.1) (W64 ((i:Int)+1)) ms)) else
   inO ms.length i (szG x.1 (Asf f x (nBx x.1) i ms)) else .fail else .leaf (.inr (Asd f x ms)):TSw f)=_
  have hsz:∀ k:TSw f,szG x.1 k=k:=fun k=>by unfold szG;rw [decide_eq_true hx.sz];rfl
  rw [decide_eq_true (show (i:Int)<(nBx x.1:Int) by omega),hin,G9 (by omega),hsz,Ec hi hn]
  unfold A95 Asf
  rw [Adw (by omega),Adw (by omega),Adw (by omega),show Int.toNat (i:Int)=i from rfl,Ec hi hn]
  cases Cp ms (gmO x.1) i with
  | false=>rfl
  | true =>
   cases Ff (gmW x.1) (gmF x.1) i with
   | true=>rfl
   | false =>
    simp only [Bool.not_true,Bool.or_self,cond_true,cond_false]
    cases Fy (gmL x.1) (A8 ms i).1 != 0 with
    | true=>rfl
    | false =>
     simp only [cond_false]
     cases (Ld (gmL x.1) (A8 ms i)).2.1 != 0 <;> rfl
 ·show (Yy f (gb (gmU x.1 ms (gmO x.1)) (gk x)) (nBx x.1) (nBx x.1) ms).run=_
  unfold Yy
  rw [decide_eq_false (show ¬ (nBx x.1:Int)<(nBx x.1:Int) by omega)]
  rfl
end St
end V
end Go.Proofs.YtcfanlgpkefogaaGreat
namespace Go.Proofs.YtcfanlgpkefogaaGreat
open Go.RowKit
namespace V
namespace St
noncomputable def Bk1 (f:Nat):Ctx:=Ua Tryz.prog plGm [(101,Tryz.f101)] [((101,1),sm_sw f)] (spG f)
theorem Ahs {f:Nat} (h1:C3 Tryz.prog 137 (sp_ro f)) (h2:C3 Tryz.prog 98 (sp_fl f)) (hl:Bc Tryz.prog 101 Asb (sm_sw f)):CtxOk (Bk1 f) :=
 Gn Aw puGm (fns_cons is_gslow A1) (Cl (by kernel_rfl) (by kernel_rfl) hl) (Mg is_rolls.plain h1 is_flies.plain h2)
def Asi (f:Nat) (x:GB):Option (A0 (Adv f)):=iter (Asg f) (nBx x.1+1) (Qq f x (nBx x.1) 0 (gmM x.1))
def T_slw (f:Nat) (x:GB):Tree (Ev (FE_u f)):=bif isP 49 .i64 (Asi f x) then .leaf ⟨false,pnU f (panO 49 .i64 (Asi f x)).1⟩ else bif isE (.exit 0) (Asi f x) then .leaf ⟨true,((),(D4 (.exit 0) (Asi f x)).2)⟩ else .fail
def Z0 (x:GB):Option (B5⊕Int):=bif Alm x.1 then some (B8 (A95 x.1) 0 (nBx x.1) (gmM x.1)) else none
def Adx (f:Nat) (x:GB) (ms:B5):(FE_u f true).T:=mkU f (gb (gmU x.1 ms (gmO x.1)) (gk x))
abbrev sp_slw (f:Nat):B0→Nat→List AV→Tree (Out×B0×Nat):=Ly M6 (FL_g f) (FE_u f) (Yx (fun g:(FL_g f).T=>Z0 g.2) (fun g=>Adx f g.2) (pnU f) [])
theorem Aht {f:Nat} {g:(FL_g f).T} {z:B5⊕Int} (h:Z0 g.2=some z):(T_slw f g.2).run=some (A2b (L:=FL_g f) (E:=FE_u f) (fun g=>Adx f g.2) (pnU f) g z):=by
 unfold Z0 at h
 cases ho:Alm g.2.1 with
 | false=>rw [ho] at h;cases h
 | true =>
  rw [ho] at h
  cases h
  have hy:Asi f g.2=some (Yz f g.2 (B8 (A95 g.2.1) 0 (nBx g.2.1) (gmM g.2.1))):=Bfg (Ej.1 ho) (Ej.1 ho).ms
  unfold T_slw
  rw [hy]
  cases B8 (A95 g.2.1) 0 (nBx g.2.1) (gmM g.2.1) with
  | inl ms=>rfl
  | inr e =>
   have h1:isP 49 .i64 (some (Yz f g.2 (.inr e)))=true:=Pt
   have h2:panO 49 .i64 (some (Yz f g.2 (.inr e)))=⟨e,((),())⟩:=Kj
   rw [h1,h2]
   rfl
theorem Asj:C3 Tryz.prog 101 (sp_slw 53):=Ko (Ahs Hd He B9s) 6 I2 _ _ _ _ (fun g=>T_slw 53 g.2) (fun g=>by kernel_rfl) fun _ _ _ h=>Aht h
theorem Asl:C3 Tryz.prog 101 (sp_slw 107):=Ko (Ahs Hf Hg B9t) 6 I2 _ _ _ _ (fun g=>T_slw 107 g.2) (fun g=>by kernel_rfl) fun _ _ _ h=>Aht h
end St
end V
end Go.Proofs.YtcfanlgpkefogaaGreat
namespace Go.Proofs.YtcfanlgpkefogaaGreat
open Go.RowKit
namespace V
theorem Br {P:Program} {f:Nat} {fn:Func} {loops:List ((Nat×Nat)×(St→Tree (XE×St)))} (h:Ak (bodyOf fn)=[]):∀ d ∈ Ak (bodyOf fn),∀ g,D7 loops f (keyOf d)=some g→Bc P f d g:=by
 intro d hd
 rw [h] at hd
 cases hd
theorem Gk {P:Program} {loops:List ((Nat×Nat)×(St→Tree (XE×St)))}:∀ q ∈ ([]:List (Nat×Func)),∀ d ∈ Ak (bodyOf q.2),∀ g,D7 loops q.1 (keyOf d)=some g→Bc P q.1 d g:=fun _ h=>nomatch h
theorem Bj {P:Program} {f:Nat} {fn:Func} {rest:List (Nat×Func)} {loops:List ((Nat×Nat)×(St→Tree (XE×St)))} (h:∀ d ∈ Ak (bodyOf fn),∀ g,D7 loops f (keyOf d)=some g→Bc P f d g)
  (hr:∀ q ∈ rest,∀ d ∈ Ak (bodyOf q.2),∀ g,D7 loops q.1 (keyOf d)=some g→Bc P q.1 d g):∀ q ∈ (f,fn)::rest,∀ d ∈ Ak (bodyOf q.2),∀ g,D7 loops q.1 (keyOf d)=some g→Bc P q.1 d g:=by
 intro q hq
 rcases List.mem_cons.1 hq with rfl | hq
 ·exact h
 ·exact hr q hq
def B68 (P:Program) (f:Nat) (loops:List ((Nat×Nat)×(St→Tree (XE×St)))):List Code→Prop
 | []=>True
 | d::l=>(∀ g,D7 loops f (keyOf d)=some g→Bc P f d g)∧B68 P f loops l
theorem Jd {P:Program} {f:Nat} {fn:Func} {loops:List ((Nat×Nat)×(St→Tree (XE×St)))} {ds:List Code} (h:Ak (bodyOf fn)=ds) (ha:B68 P f loops ds):∀ d ∈ Ak (bodyOf fn),∀ g,D7 loops f (keyOf d)=some g→Bc P f d g:=by
 rw [h]
 clear h
 induction ds with
 | nil=>intro d hd;cases hd
 | cons a l ih =>
  intro d hd
  rcases List.mem_cons.1 hd with rfl | hd
  ·exact ha.1
  ·exact ih ha.2 d hd
theorem Hh {P:Program} {f:Nat} {d:Code} {loops:List ((Nat×Nat)×(St→Tree (XE×St)))} {k:Nat} {s:St→Tree (XE×St)} (hk:keyOf d=k) (ha:D7 loops f k=some s) (h:Bc P f d s):∀ g,D7 loops f (keyOf d)=some g→Bc P f d g:=by
 intro g hg
 rw [hk,ha] at hg
 cases hg
 exact h
namespace St
noncomputable def Ahu:Code:=(Ak (bodyOf Tryz.f102)).getD 0 .skip
def Alo (f:Nat):Lay:={ keys:=[0,12,13,14],ks:=[.p 0 0 0 0,.d (.sl A2),.d cI,.d cI],bs:=bsG f,n:=104,nx:=2000,marks:=[] }
def Bk3 (f:Nat):Lay:={ keys:=[0],ks:=[.p 0 0 0 0],bs:=bsG f,n:=104,nx:=2000,marks:=[] }
def Bfh:Lay:={ keys:=[],ks:=[],bs:=[],n:=104,nx:=3000,marks:=[] }
def A96 (f:Nat):XE→Lay:=fun e=>match e with | .panic _=>Bfh | _=>Bk3 f
def Mh (b:TCT A2) (m:TCT Bg):TCTs [Bg,cI]:=L6 (bm b m)
def F2 (bl:List (TCT A2)) (i:Nat):TCT A2:=B7 bl i (B9 A2)
def A3e (f:Nat) (x:GB) (bl:List (TCT A2)) (n i:Int) (ms:B5):(Alo f).T:=(((),bl,n,i,()),(gb (gmU x.1 ms (gmO x.1)) (gk x)))
def Asm (f:Nat) (x:GB) (ms:B5):A0 (A96 f):=⟨.exit 0,(((),()),(gb (gmU x.1 ms (gmO x.1)) (gk x)))⟩
def B69 (f:Nat) (e:Int):A0 (A96 f):=⟨.panic (.ifc 49 (.int .i64 e)),((),())⟩
abbrev TM1 (f:Nat):=Tree ((Alo f).T⊕A0 (A96 f))
def Asn (f:Nat) (x:GB) (bl:List (TCT A2)) (n i:Int) (ms:B5):TM1 f:=inO ms.length i (bif (Mh (F2 bl (Int.toNat i)) (A8 ms (Int.toNat i))).2.1 != 0 then .leaf (.inr (B69 f (Mh (F2 bl (Int.toNat i)) (A8 ms (Int.toNat i))).2.1)) else
 inO ms.length i (.leaf (.inl (A3e f x bl n (W64 (i+1)) (By ms (Int.toNat i) (Mh (F2 bl (Int.toNat i)) (A8 ms (Int.toNat i))).1)))))
def Ady (f:Nat) (x:GB) (bl:List (TCT A2)) (n i:Int) (ms:B5):TM1 f:=bif decide (i<n) then inN bl.length i (bif A2a ms (gmO x.1) i then bif Cp ms (gmO x.1) (Int.toNat i) then Asn f x bl n i ms else .leaf (.inl (A3e f x bl n (W64 (i+1)) ms)) else .fail) else .leaf (.inr (Asm f x ms))
def Aso (f:Nat) (g:(Alo f).T):TM1 f:=Ady f g.2 g.1.2.1 g.1.2.2.1 g.1.2.2.2.1 (gmM g.2.1)
def fu_m1 (f:Nat) (g:(Alo f).T):Nat:=Int.toNat g.1.2.2.1+1
def sm_m1 (f:Nat):St→Tree (XE×St):=Bd (Alo f) (A96 f) (finP 49 .i64 [.exit 0] (Aso f) (fu_m1 f))
theorem Ahv {f:Nat} (e:XE):(Alo f).nx≤(A96 f e).nx:=by cases e <;> first | exact Nat.le_refl _ | exact (by decide:(2000:Nat)≤3000)
def stE (bl:List (TCT A2)) (os:List Bool) (i:Nat) (ms:B5):B5⊕Int:=bif !Cp ms os i then .inl ms else bif (Mh (F2 bl i) (A8 ms i)).2.1 != 0 then .inr (Mh (F2 bl i) (A8 ms i)).2.1 else .inl (By ms i (Mh (F2 bl i) (A8 ms i)).1)
def V6 (f:Nat) (x:GB):B5⊕Int→A0 (A96 f)
 | .inl ms=>Asm f x ms
 | .inr e=>B69 f e
theorem Adz {bl:List (TCT A2)} {os:List Bool} {n:Nat} (i:Nat) (s s':B5) (_:i<n) (hi:s.length=n) (h:stE bl os i s=.inl s'):s'.length=n:=by
 unfold stE at h
 cases h1:!Cp s os i with
 | true=>rw [h1] at h;cases h;exact hi
 | false =>
  rw [h1] at h
  cases h3:(Mh (F2 bl i) (A8 s i)).2.1 != 0 with
  | true=>rw [h3] at h;cases h
  | false=>rw [h3] at h;cases h;rw [C7];exact hi
theorem Bfi {f:Nat} {x:GB} {ms:B5} (hx:OkGM x.1) (hm:ms.length=nBx x.1):iter (Aso f) (nBx x.1+1) (A3e f x (gmB x.1) (nBx x.1) 0 ms)=some (V6 f x (B8 (stE (gmB x.1) (gmO x.1)) 0 (nBx x.1) ms)):=by
 have hn:(nBx x.1:Int)≤Bo .i64:=by have:=hx.n;show (nBx x.1:Int)≤9223372036854775807;omega
 refine Hk (nBx x.1) (fun i ms=>A3e f x (gmB x.1) (nBx x.1) i ms) (stE (gmB x.1) (gmO x.1)) (V6 f x) (fun _ ms=>ms.length=nBx x.1) (fun i ms hi hl=>?_) Adz (fun ms hl=>?_) (nBx x.1) 0 ms (by omega) hm
 ·show Tree.run (bif decide ((i:Int)<(nBx x.1:Int)) then inN (nBx x.1) i (bif A2a ms (gmO x.1) i then bif Cp ms (gmO x.1) i then Asn f x (gmB x.1) (nBx x.1) i ms else .leaf (.inl (A3e f x (gmB x.1) (nBx x.1) (W64 ((i:Int)+1)) ms)) else .fail) else .leaf (.inr (Asm f x ms)):TM1 f)=_
  rw [decide_eq_true (show (i:Int)<(nBx x.1:Int) by omega),E2 (by omega),A5p hi hl hx.os,Ec hi hn]
  unfold stE Asn
  rw [G9 (by omega),G9 (by omega),show Int.toNat (i:Int)=i from rfl,Ec hi hn]
  cases Cp ms (gmO x.1) i with
  | false=>rfl
  | true =>
   simp only [Bool.not_true,cond_true,cond_false]
   cases (Mh (F2 (gmB x.1) i) (A8 ms i)).2.1 != 0 <;> rfl
 ·show (Ady f (gb (gmU x.1 ms (gmO x.1)) (gk x)) (gmB x.1) (nBx x.1) (nBx x.1) ms).run=_
  unfold Ady
  rw [decide_eq_false (show ¬ (nBx x.1:Int)<(nBx x.1:Int) by omega)]
  rfl
noncomputable def Ahw:Code:=(Ak (bodyOf Tryz.f102)).getD 1 .skip
def Alp (f:Nat):Lay:={ keys:=[0,52,53],ks:=[.p 0 0 0 0,.d cI,.d cI],bs:=bsG f,n:=104,nx:=3000,marks:=[] }
def Bk4 (f:Nat):Lay:={ keys:=[],ks:=[],bs:=bsG f,n:=104,nx:=3000,marks:=[] }
def Ae0 (f:Nat):XE→Lay:=fun e=>match e with | .panic _=>Bfh | _=>Bk4 f
abbrev S2:Type:=B5×List Bool×Kns
def kn (t s k b o:Int):TCT cKn:=(t,s,k,b,o,())
def Bfj (m:TCT Bg):TCT Bg:=(m.1,(0,0,()),m.2.2.1,())
def A3f (f:Nat) (x:GB) (n i:Int) (s:S2):(Alp f).T:=(((),n,i,()),(gb (gmU x.1 s.1 s.2.1) s.2.2))
def Asp (f:Nat) (x:GB) (s:S2):A0 (Ae0 f):=⟨.exit 2,((),(gb (gmU x.1 s.1 s.2.1) s.2.2))⟩
abbrev TM2 (f:Nat):=Tree ((Alp f).T⊕A0 (Ae0 f))
def Alq {β:Type} (ks:Kns) (k:TCT cKn) (t:Kns→Tree β):Tree β:=bif Eu ks [k] 40 then t (ks++[k]) else .fail
def Z1 (f:Nat) (x:GB) (n i:Int) (ms:B5) (os:List Bool) (ks:Kns):TM2 f:=bif decide (i<n) then inO os.length i (bif !B7 os (Int.toNat i) (B9 .b) then inO ms.length i (
 bif !onB (gmL x.1) (A8 ms (Int.toNat i)).1 then inO os.length i (inO ms.length i (Alq ks (kn (gmT x.1) (gmS x.1) 2 i 0) fun ks'=>.leaf (.inl (A3f f x n (W64 (i+1)) (By ms (Int.toNat i) (Bfj (A8 ms (Int.toNat i))),By os (Int.toNat i) true,ks')))))
 else .leaf (.inl (A3f f x n (W64 (i+1)) (ms,os,ks)))) else .leaf (.inl (A3f f x n (W64 (i+1)) (ms,os,ks)))) else .leaf (.inr (Asp f x (ms,os,ks)))
def Asq (f:Nat) (g:(Alp f).T):TM2 f:=Z1 f g.2 g.1.2.1 g.1.2.2.1 (gmM g.2.1) (gmO g.2.1) (gk g.2)
def fu_m2 (f:Nat) (g:(Alp f).T):Nat:=Int.toNat g.1.2.1+1
def sm_m2 (f:Nat):St→Tree (XE×St):=Bd (Alp f) (Ae0 f) (E5 [.exit 2] (Asq f) (fu_m2 f))
theorem Ahx {f:Nat} (e:XE):(Alp f).nx≤(Ae0 f e).nx:=by cases e <;> exact Nat.le_refl _
noncomputable def Bk5 (f:Nat) (c:Nat×Func):Ctx:=Ua Tryz.prog plGm [(49,Tryz.f49),(100,Tryz.f100),c] [] (spG f)
theorem F8 {f:Nat} {c:Nat×Func} (hc:FnIs Tryz.prog c) (h1:C3 Tryz.prog 137 (sp_ro f)) (h2:C3 Tryz.prog 98 (sp_fl f)):CtxOk (Bk5 f c):=Gn Aw puGm (fns_cons is_must (fns_cons is_knock (fns_cons hc A1))) K7 (Mg is_rolls.plain h1 is_flies.plain h2)
theorem B9u:Bc Tryz.prog 102 Ahu (sm_m1 53):=Hx (F8 is_Tick1 Hd He) 7 _ _ _ Ahv _ _ _ _ (fu_m1 53) (fun g=>by kernel_rfl)
theorem B9v:Bc Tryz.prog 102 Ahu (sm_m1 107):=Hx (F8 is_run1 Hf Hg) 7 _ _ _ Ahv _ _ _ _ (fu_m1 107) (fun g=>by kernel_rfl)
theorem B9w:Bc Tryz.prog 102 Ahw (sm_m2 53):=Bv (F8 is_Tick1 Hd He) 7 _ _ _ Ahx _ _ (fu_m2 53) (fun g=>by kernel_rfl)
theorem B9x:Bc Tryz.prog 102 Ahw (sm_m2 107):=Bv (F8 is_run1 Hf Hg) 7 _ _ _ Ahx _ _ (fu_m2 107) (fun g=>by kernel_rfl)
def lvE (l:TCT A9) (t st:Int) (i:Nat) (s:S2):S2⊕Int:=bif !B7 s.2.1 i (B9 .b) then bif !onB l (A8 s.1 i).1 then .inl (By s.1 i (Bfj (A8 s.1 i)),By s.2.1 i true,s.2.2++[kn t st 2 i 0]) else .inl s else .inl s
def Ae1 (f:Nat) (x:GB):S2⊕Int→A0 (Ae0 f)
 | .inl s=>Asp f x s
 | .inr _=>Asp f x ([],[],[])
structure Inv2 (n k:Nat) (i:Nat) (s:S2):Prop where
 m:s.1.length=n
 o:s.2.1.length=n
 k:s.2.2.length≤k+i
theorem Asr {l:TCT A9} {t st:Int} {n k:Nat} (i:Nat) (s s':S2) (_:i<n) (hi:Inv2 n k i s) (h:lvE l t st i s=.inl s'):Inv2 n k (i+1) s':=by
 unfold lvE at h
 have hk:=hi.k
 cases h1:!B7 s.2.1 i (B9 .b) with
 | false=>rw [h1] at h;cases h;exact ⟨hi.m,hi.o,by omega⟩
 | true =>
  rw [h1] at h
  cases h3:!onB l (A8 s.1 i).1 with
  | false=>rw [h3] at h;cases h;exact ⟨hi.m,hi.o,by omega⟩
  | true=>rw [h3] at h;cases h;exact ⟨by rw [C7];exact hi.m,by rw [C7];exact hi.o,by simp;omega⟩
theorem Bfk {f:Nat} {x:GB} {s:S2} {n k:Nat} (hn8:n≤8) (hk:k≤900000) (hs:Inv2 n k 0 s):iter (Asq f) (n+1) (A3f f x n 0 s)=some (Ae1 f x (B8 (lvE (gmL x.1) (gmT x.1) (gmS x.1)) 0 n s)):=by
 have hn:(n:Int)≤Bo .i64:=by show (n:Int)≤9223372036854775807;omega
 refine Hk n (fun i s=>A3f f x n i s) (lvE (gmL x.1) (gmT x.1) (gmS x.1)) (Ae1 f x) (Inv2 n k) (fun i s hi hl=>?_) Asr (fun s hl=>?_) n 0 s (by omega) hs
 ·show (Z1 f (gb (gmU x.1 s.1 s.2.1) s.2.2) n i s.1 s.2.1 s.2.2).run=_
  unfold Z1 lvE Alq
  have h1:=hl.m
  have h2:=hl.o
  have h3:=hl.k
  rw [decide_eq_true (show (i:Int)<(n:Int) by omega),G9 (by omega),G9 (by omega),G9 (by omega),G9 (by omega),show Int.toNat (i:Int)=i from rfl,Ec hi hn,Ng (by simp;omega) (by decide)]
  cases B7 s.2.1 i (B9 .b) with
  | true=>rfl
  | false =>
   show (bif !onB (gmL x.1) (A8 s.1 i).1 then _ else _:TM2 f).run=_
   simp only [Bool.not_false,cond_true]
   cases onB (gmL x.1) (A8 s.1 i).1 <;> rfl
 ·show (Z1 f (gb (gmU x.1 s.1 s.2.1) s.2.2) n n s.1 s.2.1 s.2.2).run=_
  unfold Z1
  rw [decide_eq_false (show ¬ (n:Int)<(n:Int) by omega)]
  rfl
end St
end V
end Go.Proofs.YtcfanlgpkefogaaGreat
namespace Go.Proofs.YtcfanlgpkefogaaGreat
open Go.RowKit
namespace V
theorem V7 {S B:Type} {f:Nat→S→S⊕B} (h:∀ i s,∃ s',f i s=.inl s'):∀ (k i:Nat) (s:S),∃ s',B8 f i k s=.inl s'
 | 0,_,s=>⟨s,rfl⟩
 | k+1,i,s=>by
  obtain ⟨s',hs⟩:=h i s
  unfold B8
  rw [hs]
  exact V7 h k (i+1) s'
namespace St
theorem Ahy {l:TCT A9} {t st:Int} (i:Nat) (s:S2):∃ s',lvE l t st i s=.inl s':=by
 unfold lvE
 cases !B7 s.2.1 i (B9 .b) with
 | false=>exact ⟨_,rfl⟩
 | true=>cases !onB l (A8 s.1 i).1 <;> exact ⟨_,rfl⟩
noncomputable def Bk6 (f:Nat):Ctx:=Ua Tryz.prog plGm [(102,Tryz.f102)] [((102,1),sm_m1 f),((102,9),sm_m2 f)] (spG f)
theorem Ahz {f:Nat} (h1:C3 Tryz.prog 137 (sp_ro f)) (h2:C3 Tryz.prog 98 (sp_fl f)) (hl:Bc Tryz.prog 102 Ahu (sm_m1 f)) (hm:Bc Tryz.prog 102 Ahw (sm_m2 f)):CtxOk (Bk6 f) :=
 Gn Aw puGm (fns_cons is_gmove A1) (Bj (Jd (ds:=[Ahu,Ahw]) (by kernel_rfl) ⟨Hh (k:=1) (by kernel_rfl) rfl hl,Hh (k:=9) (by kernel_rfl) rfl hm,trivial⟩) Gk) (Mg is_rolls.plain h1 is_flies.plain h2)
def mvF (bl:List (TCT A2)) (l:TCT A9) (t st:Int) (n:Nat) (s:S2):S2⊕Int:=match B8 (stE bl s.2.1) 0 n s.1 with
 | .inl ms=>B8 (lvE l t st) 0 n (ms,s.2.1,s.2.2)
 | .inr e=>.inr e
def gs (x:GB):S2:=(gmM x.1,gmO x.1,gk x)
def Bfl (f:Nat) (x:GB):Option (A0 (A96 f)):=iter (Aso f) (nBx x.1+1) (A3e f x (gmB x.1) (nBx x.1) 0 (gmM x.1))
def B9y (f:Nat) (x:GB):Option (A0 (Ae0 f)):=iter (Asq f) (nBx x.1+1) (A3f f x (nBx x.1) 0 (gs x))
abbrev TU (f:Nat):=Tree (Ev (FE_u f))
def B6a (f:Nat) (y:Option (A0 (Ae0 f))):TU f:=bif isE (.exit 2) y then .leaf ⟨true,((),(D4 (.exit 2) y).2)⟩ else .fail
def Ass (f:Nat) (y:Option (A0 (A96 f))):TU f:=bif isP 49 .i64 y then .leaf ⟨false,pnU f (panO 49 .i64 y).1⟩ else bif isE (.exit 0) y then B6a f (B9y f (D4 (.exit 0) y).2) else .fail
def T_mv (f:Nat) (x:GB):TU f:=Ass f (Bfl f x)
def Ov (x:GB):Bool:=Alm x.1&&decide ((gk x).length≤900000)
def A97 (x:GB):Option (S2⊕Int):=bif Ov x then some (mvF (gmB x.1) (gmL x.1) (gmT x.1) (gmS x.1) (nBx x.1) (gs x)) else none
def Ast (f:Nat) (x:GB) (s:S2):(FE_u f true).T:=mkU f (gb (gmU x.1 s.1 s.2.1) s.2.2)
abbrev sp_mv (f:Nat):B0→Nat→List AV→Tree (Out×B0×Nat):=Ly M6 (FL_g f) (FE_u f) (Yx (fun g:(FL_g f).T=>A97 g.2) (fun g=>Ast f g.2) (pnU f) ([],[],[]))
theorem Z2 {x:GB} (h:Ov x=true):OkGM x.1∧(gk x).length≤900000:=by
 unfold Ov at h
 simp only [Bool.and_eq_true,decide_eq_true_eq] at h
 exact ⟨Ej.1 h.1,h.2⟩
theorem Asu {f:Nat} {g:(FL_g f).T} {z:S2⊕Int} (h:A97 g.2=some z):(T_mv f g.2).run=some (A2b (L:=FL_g f) (E:=FE_u f) (fun g=>Ast f g.2) (pnU f) g z):=by
 unfold A97 at h
 cases ho:Ov g.2 with
 | false=>rw [ho] at h;cases h
 | true =>
  rw [ho] at h
  cases h
  obtain ⟨hg,hk⟩:=Z2 ho
  have hy:Bfl f g.2=some (V6 f g.2 (B8 (stE (gmB g.2.1) (gmO g.2.1)) 0 (nBx g.2.1) (gmM g.2.1))):=Bfi hg hg.ms
  unfold T_mv mvF
  rw [hy]
  show (Ass f (some (V6 f g.2 (B8 (stE (gmB g.2.1) (gmO g.2.1)) 0 (nBx g.2.1) (gmM g.2.1))))).run=some (A2b (L:=FL_g f) (E:=FE_u f) (fun g=>Ast f g.2) (pnU f) g (match B8 (stE (gmB g.2.1) (gmO g.2.1)) 0 (nBx g.2.1) (gmM g.2.1) with
   | .inl ms=>B8 (lvE (gmL g.2.1) (gmT g.2.1) (gmS g.2.1)) 0 (nBx g.2.1) (ms,gmO g.2.1,gk g.2)
   | .inr e=>.inr e))
  cases h1:B8 (stE (gmB g.2.1) (gmO g.2.1)) 0 (nBx g.2.1) (gmM g.2.1) with
  | inr e =>
   have h1:isP 49 .i64 (some (V6 f g.2 (.inr e)))=true:=Pt
   have h2:panO 49 .i64 (some (V6 f g.2 (.inr e)))=⟨e,((),())⟩:=Kj
   unfold Ass
   rw [h1,h2]
   rfl
  | inl ms =>
   have hms:ms.length=nBx g.2.1:=Bn (n:=nBx g.2.1) (Inv:=fun _ (s:B5)=>s.length=nBx g.2.1) Adz (nBx g.2.1) 0 _ _ (by omega) hg.ms h1
   have hz:B9y f (gb (gmU g.2.1 ms (gmO g.2.1)) (gk g.2))=some (Ae1 f (gb (gmU g.2.1 ms (gmO g.2.1)) (gk g.2)) (B8 (lvE (gmL g.2.1) (gmT g.2.1) (gmS g.2.1)) 0 (nBx g.2.1) (ms,gmO g.2.1,gk g.2))) :=
    Bfk (n:=nBx g.2.1) (x:=gb (gmU g.2.1 ms (gmO g.2.1)) (gk g.2)) (s:=(ms,gmO g.2.1,gk g.2)) (k:=(gk g.2).length) hg.n hk ⟨hms,hg.os,by simp⟩
   show (B6a f (B9y f (gb (gmU g.2.1 ms (gmO g.2.1)) (gk g.2)))).run=some (A2b (L:=FL_g f) (E:=FE_u f) (fun g=>Ast f g.2) (pnU f) g (B8 (lvE (gmL g.2.1) (gmT g.2.1) (gmS g.2.1)) 0 (nBx g.2.1) (ms,gmO g.2.1,gk g.2)))
   rw [hz]
   obtain ⟨s',hs'⟩:=V7 (Ahy (l:=gmL g.2.1) (t:=gmT g.2.1) (st:=gmS g.2.1)) (nBx g.2.1) 0 (ms,gmO g.2.1,gk g.2)
   rw [hs']
   rfl
theorem B11:C3 Tryz.prog 102 (sp_mv 53):=Ko (Ahz Hd He B9u B9w) 6 I2 _ _ _ _ (fun g=>T_mv 53 g.2) (fun g=>by kernel_rfl) fun _ _ _ h=>Asu h
theorem B12:C3 Tryz.prog 102 (sp_mv 107):=Ko (Ahz Hf Hg B9v B9x) 6 I2 _ _ _ _ (fun g=>T_mv 107 g.2) (fun g=>by kernel_rfl) fun _ _ _ h=>Asu h
end St
end V
end Go.Proofs.YtcfanlgpkefogaaGreat
namespace Go.Proofs.YtcfanlgpkefogaaGreat
open Go.RowKit
namespace V
def V8 (n:Nat) (p:TCT Ih):Prop:=0≤p.1∧p.1<p.2.1∧p.2.1<(n:Int)
theorem Asv {l:List (TCT A2)} {re dr:Int} {i k n:Nat} {s s':SS} (h:Fz l re dr i k s=some s') (hik:i<k) (hk:k<n) (hs:∀ p ∈ s.2,V8 n p):∀ p ∈ s'.2,V8 n p:=by
 unfold Fz at h
 cases h1:(Ch (bAt l s.1 i) (bAt l s.1 k) re dr).2.2.1==0 with
 | true =>
  rw [h1] at h
  simp only [cond_true,Option.some.injEq] at h
  subst h
  intro p hp
  rcases List.mem_append.1 hp with hp | hp
  ·exact hs p hp
  ·rw [List.mem_singleton] at hp
   subst hp
   exact ⟨Int.natCast_nonneg i,Int.ofNat_lt.2 hik,Int.ofNat_lt.2 hk⟩
 | false =>
  rw [h1,cond_false] at h
  cases h2:(Ch (bAt l s.1 i) (bAt l s.1 k) re dr).2.2.1==4 with
  | true=>rw [h2] at h;simp at h
  | false=>rw [h2] at h;simp only [cond_false,Option.some.injEq] at h;subst h;exact hs
theorem Asw {l:List (TCT A2)} {re dr:Int} {i n:Nat}:∀ (f k:Nat) (s s':SS),inR l re dr i f k s=some s'→i<k→k+f≤n→(∀ p ∈ s.2,V8 n p)→∀ p ∈ s'.2,V8 n p
 | 0,k,s,s',h,_,_,hs=>by rw [inR,Option.some.injEq] at h;subst h;exact hs
 | f+1,k,s,s',h,hik,hk,hs=>by
  rw [inR] at h
  cases h1:Fz l re dr i k s with
  | none=>rw [h1] at h;simp at h
  | some s1 =>
   rw [h1,Option.bind_some] at h
   exact Asw f (k+1) s1 s' h (by omega) (by omega) (Asv h1 hik (by omega) hs)
theorem Ai0 {l:List (TCT A2)} {re dr:Int}:∀ (f i:Nat) (s s':SS),Iq l re dr f i s=some s'→i+f=l.length→(∀ p ∈ s.2,V8 l.length p)→(∀ p ∈ s'.2,V8 l.length p)∧s'.1.length=s.1.length∧s'.2.length≤s.2.length+f*l.length
 | 0,i,s,s',h,_,hs=>by rw [Mr,Option.some.injEq] at h;subst h;exact ⟨hs,rfl,by omega⟩
 | f+1,i,s,s',h,hi,hs=>by
  rw [K8] at h
  cases h1:inR l re dr i (l.length-(i+1)) (i+1) s with
  | none=>rw [h1] at h;simp at h
  | some s1 =>
   rw [h1,Option.bind_some] at h
   have a:=Ajj _ _ _ _ h1
   have b:=Ai0 f (i+1) s1 s' h (by omega) (Asw _ _ _ _ h1 (by omega) (by omega) hs)
   refine ⟨b.1,b.2.1.trans a.1,?_⟩
   have e:(f+1)*l.length=f*l.length+l.length:=Nat.succ_mul f l.length
   omega
theorem Alr {l:List (TCT A2)} {s:List (TCT Bg)} {re dr:Int} (h:(Cf l s re dr).2.2.1=0) (hl:l.length≤8):(Cf l s re dr).1.length=s.length∧(Cf l s re dr).2.1.length≤64∧∀ p ∈ (Cf l s re dr).2.1,V8 l.length p:=by
 unfold Cf at h ⊢
 cases h1:Mq l s != 0 with
 | true=>rw [h1,cond_true] at h;exact absurd h (bne_iff_ne.1 h1)
 | false =>
  rw [h1,cond_false] at h
  simp only [cond_false]
  cases h2:!Hl re dr with
  | true=>rw [h2] at h;cases h
  | false =>
   rw [h2,cond_false] at h
   simp only [cond_false]
   cases h3:Iq l re dr l.length 0 (s,[]) with
   | none=>rw [h3] at h;cases h
   | some s' =>
    have a:=Ai0 _ _ _ _ h3 (by omega) (fun p hp=>nomatch hp)
    refine ⟨a.2.1,?_,a.1⟩
    have b:s'.2.length≤0+l.length*l.length:=a.2.2
    have c:l.length*l.length≤8*8:=Nat.mul_le_mul hl hl
    show s'.2.length≤64
    omega
end V
end Go.Proofs.YtcfanlgpkefogaaGreat
namespace Go.Proofs.YtcfanlgpkefogaaGreat
open Go.RowKit
namespace V
def unE {S:Type}:S⊕Empty→S
 | .inl s=>s
 | .inr e=>nomatch e
theorem Jn {S:Type} (x:S⊕Empty):x=.inl (unE x):=by
 cases x with
 | inl s=>rfl
 | inr e=>exact nomatch e
namespace St
abbrev kI:SK:=.o 3 cI
abbrev kBa:SK:=.o 70 A2
abbrev kMo:SK:=.o 60 Bg
noncomputable def A98:Code:=(Ak (bodyOf Tryz.f50)).getD 0 .skip
noncomputable def A99:Code:=(Ak (bodyOf Tryz.f50)).getD 1 .skip
noncomputable def A9a:Code:=(Ak (bodyOf Tryz.f50)).getD 2 .skip
def Als (f:Nat):Lay:={ keys:=[0,2,3,4,18,19,20],ks:=[.p 0 0 0 0,kI,kBa,kMo,.d (.sl A2),.d cI,.d cI],bs:=bsG f,n:=113,nx:=2000,marks:=[] }
def Bk7 (f:Nat):Lay:={ keys:=[0,2,3,4],ks:=[.p 0 0 0 0,kI,kBa,kMo],bs:=bsG f,n:=113,nx:=2000,marks:=[] }
def Ae2 (f:Nat):XE→Lay:=fun _=>Bk7 f
abbrev GA:Type:=List Int×List (TCT A2)×B5
def T9 (f:Nat) (x:GB) (bl:List (TCT A2)) (n i:Int) (s:GA):(Als f).T:=(((),s.1,s.2.1,s.2.2,bl,n,i,()),x)
def A9b (f:Nat) (x:GB) (s:GA):A0 (Ae2 f):=⟨.exit 0,(((),s.1,s.2.1,s.2.2,()),x)⟩
abbrev TS1 (f:Nat):=Tree ((Als f).T⊕A0 (Ae2 f))
def ap8 {β:Type} (w:List Int) (i:Int) (k:Tree β):Tree β:=bif Eu w [i] 8 then k else .fail
def B13 {β:Type} (w:List (TCT A2)) (i:TCT A2) (k:Tree β):Tree β:=bif Eu w [i] 16 then k else .fail
def B14 {β:Type} (w:B5) (i:TCT Bg) (k:Tree β):Tree β:=bif Eu w [i] 48 then k else .fail
theorem B9z {β:Type} {w:List Int} {i:Int} {k:Tree β} (h:w.length≤1000):ap8 w i k=k:=by unfold ap8;rw [Ng (by simp;omega) (by decide)];rfl
theorem B15 {β:Type} {w:List (TCT A2)} {i:TCT A2} {k:Tree β} (h:w.length≤1000):B13 w i k=k:=by unfold B13;rw [Ng (by simp;omega) (by decide)];rfl
theorem B16 {β:Type} {w:B5} {i:TCT Bg} {k:Tree β} (h:w.length≤1000):B14 w i k=k:=by unfold B14;rw [Ng (by simp;omega) (by decide)];rfl
def ga1 (i:Int) (b:TCT A2) (m:TCT Bg) (s:GA):GA:=(s.1++[i],s.2.1++[b],s.2.2++[m])
def Ae3 (f:Nat) (x:GB) (bl:List (TCT A2)) (n i:Int) (s:GA):TS1 f:=bif decide (i<n) then inN bl.length i (inO (gmO x.1).length i (
 bif !B7 (gmO x.1) (Int.toNat i) (B9 .b) then bif !Ff (gmW x.1) (gmF x.1) i then inO (gmM x.1).length i (ap8 s.1 i (B13 s.2.1 (F2 bl (Int.toNat i)) (B14 s.2.2 (A8 (gmM x.1) (Int.toNat i))
  (.leaf (.inl (T9 f x bl n (W64 (i+1)) (ga1 i (F2 bl (Int.toNat i)) (A8 (gmM x.1) (Int.toNat i)) s)))))))
 else .leaf (.inl (T9 f x bl n (W64 (i+1)) s)) else .leaf (.inl (T9 f x bl n (W64 (i+1)) s)))) else .leaf (.inr (A9b f x s))
def Asx (f:Nat) (g:(Als f).T):TS1 f:=Ae3 f g.2 g.1.2.2.2.2.1 g.1.2.2.2.2.2.1 g.1.2.2.2.2.2.2.1 (g.1.2.1,g.1.2.2.1,g.1.2.2.2.1)
def fu_s1 (f:Nat) (g:(Als f).T):Nat:=Int.toNat g.1.2.2.2.2.2.1+1
def sm_s1 (f:Nat):St→Tree (XE×St):=Bd (Als f) (Ae2 f) (E5 [.exit 0] (Asx f) (fu_s1 f))
theorem A5q {f:Nat} (e:XE):(Als f).nx≤(Ae2 f e).nx:=Nat.le_refl _
def gaE (bl:List (TCT A2)) (ms:B5) (os:List Bool) (w fl:Int) (i:Nat) (s:GA):GA⊕Empty:=.inl (bif !B7 os i (B9 .b)&&!Ff w fl i then ga1 i (F2 bl i) (A8 ms i) s else s)
def gaV (bl:List (TCT A2)) (w fl:Int) (n:Nat) (ms:B5) (os:List Bool):GA:=unE (B8 (gaE bl ms os w fl) 0 n ([],[],[]))
structure InvG (n i:Nat) (s:GA):Prop where
 b:s.2.1.length=s.1.length
 m:s.2.2.length=s.1.length
 k:s.1.length≤i
 r:∀ w ∈ s.1,0≤w∧w<(n:Int)
theorem Ae4 {bl:List (TCT A2)} {ms:B5} {os:List Bool} {w fl:Int} {n:Nat} (i:Nat) (s s':GA) (hi:i<n) (h:InvG n i s) (h2:gaE bl ms os w fl i s=.inl s'):InvG n (i+1) s':=by
 unfold gaE at h2
 have hb:=h.b
 have hm:=h.m
 have hk:=h.k
 cases hc:!B7 os i (B9 .b)&&!Ff w fl i with
 | false =>
  rw [hc] at h2
  simp only [cond_false,Sum.inl.injEq] at h2
  subst h2
  exact ⟨hb,hm,by omega,h.r⟩
 | true =>
  rw [hc] at h2
  simp only [cond_true,Sum.inl.injEq] at h2
  subst h2
  refine ⟨by simp [ga1,hb],by simp [ga1,hm],by simp [ga1];omega,fun v hv=>?_⟩
  rcases List.mem_append.1 hv with hv | hv
  ·exact h.r v hv
  ·rw [List.mem_singleton] at hv;subst hv;omega
theorem Ai1 {bl:List (TCT A2)} {w fl:Int} {n:Nat} {ms:B5} {os:List Bool}:InvG n n (gaV bl w fl n ms os) :=
 Bn (n:=n) (Inv:=InvG n) Ae4 n 0 _ _ (by omega) ⟨rfl,rfl,Nat.le_refl _,fun _ h=>absurd h List.not_mem_nil⟩ (Jn (B8 (gaE bl ms os w fl) 0 n ([],[],[])))
def Ba0 (f:Nat) (x:GB) (r:GA⊕Empty):A0 (Ae2 f):=A9b f x (unE r)
theorem Bfm {f:Nat} {x:GB} (hx:OkGM x.1):iter (Asx f) (nBx x.1+1) (T9 f x (gmB x.1) (nBx x.1) 0 ([],[],[]))=some (A9b f x (gaV (gmB x.1) (gmW x.1) (gmF x.1) (nBx x.1) (gmM x.1) (gmO x.1))):=by
 have hn8:=hx.n
 have hos:=hx.os
 have hms:=hx.ms
 have hn:(nBx x.1:Int)≤Bo .i64:=by show (nBx x.1:Int)≤9223372036854775807;omega
 refine Hk (nBx x.1) (fun i s=>T9 f x (gmB x.1) (nBx x.1) i s) (gaE (gmB x.1) (gmM x.1) (gmO x.1) (gmW x.1) (gmF x.1)) (Ba0 f x) (InvG (nBx x.1)) (fun i s hi hl=>?_) Ae4 (fun s hl=>?_) (nBx x.1) 0 ([],[],[]) (by omega) ⟨rfl,rfl,Nat.le_refl _,fun _ h=>absurd h List.not_mem_nil⟩
 ·show Tree.run (bif decide ((i:Int)<(nBx x.1:Int)) then inN (nBx x.1) i (inO (gmO x.1).length i (
   bif !B7 (gmO x.1) i (B9 .b) then bif !Ff (gmW x.1) (gmF x.1) i then inO (gmM x.1).length i (ap8 s.1 i (B13 s.2.1 (F2 (gmB x.1) i) (B14 s.2.2 (A8 (gmM x.1) i)
    (.leaf (.inl (T9 f x (gmB x.1) (nBx x.1) (W64 (i+1)) (ga1 i (F2 (gmB x.1) i) (A8 (gmM x.1) i) s)))))))
   else .leaf (.inl (T9 f x (gmB x.1) (nBx x.1) (W64 (i+1)) s)) else .leaf (.inl (T9 f x (gmB x.1) (nBx x.1) (W64 (i+1)) s)))) else .leaf (.inr (A9b f x s)):TS1 f)=_
  have h1:=hl.b
  have h2:=hl.m
  have h3:=hl.k
  rw [decide_eq_true (show (i:Int)<(nBx x.1:Int) by omega),E2 (by omega),G9 (by omega),G9 (by omega),B9z (by omega),B15 (by omega),B16 (by omega),Ec hi hn]
  unfold gaE
  cases B7 (gmO x.1) i (B9 .b) with
  | true=>rfl
  | false=>cases Ff (gmW x.1) (gmF x.1) i <;> rfl
 ·show (Ae3 f x (gmB x.1) (nBx x.1) (nBx x.1) s).run=_
  unfold Ae3
  rw [decide_eq_false (show ¬ (nBx x.1:Int)<(nBx x.1:Int) by omega)]
  rfl
def Alt (f:Nat):Lay:={ keys:=[0,2,4,7,75,76,77],ks:=[.p 0 0 0 0,.d (.sl cI),.d (.sl Bg),.d (.sl Ih),.d (.sl cI),.d cI,.d cI],bs:=bsG f,n:=113,nx:=3000,marks:=[] }
def Bk8 (f:Nat):Lay:={ keys:=[0,2,7],ks:=[.p 0 0 0 0,.d (.sl cI),.d (.sl Ih)],bs:=bsG f,n:=113,nx:=3000,marks:=[] }
def Ae5 (f:Nat):XE→Lay:=fun _=>Bk8 f
abbrev Prs:Type:=List (TCT Ih)
def Ai2 (f:Nat) (x:GB) (W:List Int) (M:B5) (P:Prs) (W2:List Int) (n i:Int) (ms:B5):(Alt f).T:=(((),W,M,P,W2,n,i,()),gb (gmU x.1 ms (gmO x.1)) (gk x))
def Asy (f:Nat) (x:GB) (W:List Int) (P:Prs) (ms:B5):A0 (Ae5 f):=⟨.exit 2,(((),W,P,()),gb (gmU x.1 ms (gmO x.1)) (gk x))⟩
abbrev TS2 (f:Nat):=Tree ((Alt f).T⊕A0 (Ae5 f))
def Z3 (f:Nat) (x:GB) (W:List Int) (M:B5) (P:Prs) (W2:List Int) (n i:Int) (ms:B5):TS2 f:=bif decide (i<n) then inN W2.length i (inN M.length i (inO ms.length (B7 W2 (Int.toNat i) (B9 cI)) (
 .leaf (.inl (Ai2 f x W M P W2 n (W64 (i+1)) (By ms (Int.toNat (B7 W2 (Int.toNat i) (B9 cI))) (A8 M (Int.toNat i)))))))) else .leaf (.inr (Asy f x W P ms))
def Asz (f:Nat) (g:(Alt f).T):TS2 f:=Z3 f g.2 g.1.2.1 g.1.2.2.1 g.1.2.2.2.1 g.1.2.2.2.2.1 g.1.2.2.2.2.2.1 g.1.2.2.2.2.2.2.1 (gmM g.2.1)
def fu_s2 (f:Nat) (g:(Alt f).T):Nat:=Int.toNat g.1.2.2.2.2.2.1+1
def sm_s2 (f:Nat):St→Tree (XE×St):=Bd (Alt f) (Ae5 f) (E5 [.exit 2] (Asz f) (fu_s2 f))
theorem A5r {f:Nat} (e:XE):(Alt f).nx≤(Ae5 f e).nx:=Nat.le_refl _
def scE (W:List Int) (M:B5) (i:Nat) (ms:B5):B5⊕Empty:=.inl (By ms (Int.toNat (B7 W i (B9 cI))) (A8 M i))
def scV (W:List Int) (M ms:B5):B5:=unE (B8 (scE W M) 0 W.length ms)
theorem At0 {W:List Int} {M:B5} {n k:Nat} (i:Nat) (s s':B5) (_:i<n) (h:s.length=k) (h2:scE W M i s=.inl s'):s'.length=k:=by
 cases h2
 rw [C7];exact h
theorem Ai3 {W:List Int} {M ms:B5}:(scV W M ms).length=ms.length :=
 Bn (n:=W.length) (Inv:=fun _ (s:B5)=>s.length=ms.length) At0 W.length 0 ms _ (by omega) rfl (Jn (B8 (scE W M) 0 W.length ms))
def Ba1 (f:Nat) (x:GB) (W:List Int) (P:Prs) (r:B5⊕Empty):A0 (Ae5 f):=Asy f x W P (unE r)
theorem Bfn {f:Nat} {x:GB} {W:List Int} {M:B5} {P:Prs} {ms:B5} {n:Nat} (hW:∀ w ∈ W,0≤w∧w<(n:Int)) (hM:M.length=W.length) (hms:ms.length=n) (hl:W.length≤1000) :
  iter (Asz f) (W.length+1) (Ai2 f x W M P W W.length 0 ms)=some (Asy f x W P (scV W M ms)):=by
 have hn:(W.length:Int)≤Bo .i64:=by show (W.length:Int)≤9223372036854775807;omega
 refine Hk W.length (fun i s=>Ai2 f x W M P W W.length i s) (scE W M) (Ba1 f x W P) (fun _ s=>s.length=n) (fun i s hi hs=>?_) At0 (fun s hs=>?_) W.length 0 ms (by omega) hms
 ·show (Z3 f (gb (gmU x.1 s (gmO x.1)) (gk x)) W M P W W.length i s).run=_
  have hw:=hW (B7 W i (B9 cI)) (by rw [E8 hi];exact List.getElem_mem hi)
  unfold Z3
  rw [decide_eq_true (show (i:Int)<(W.length:Int) by omega),E2 (by omega),E2 (by omega),show Int.toNat (i:Int)=i from rfl,G9 (by omega),Ec hi hn]
  rfl
 ·show (Z3 f (gb (gmU x.1 s (gmO x.1)) (gk x)) W M P W W.length W.length s).run=_
  unfold Z3
  rw [decide_eq_false (show ¬ (W.length:Int)<(W.length:Int) by omega)]
  rfl
def Alu (f:Nat):Lay:={ keys:=[0,2,94,95,96],ks:=[.p 0 0 0 0,.d (.sl cI),.d (.sl Ih),.d cI,.d cI],bs:=bsG f,n:=113,nx:=4000,marks:=[] }
def Bk9 (f:Nat):Lay:={ keys:=[],ks:=[],bs:=bsG f,n:=113,nx:=4000,marks:=[] }
def Ae6 (f:Nat):XE→Lay:=fun _=>Bk9 f
def Ai4 (f:Nat) (x:GB) (W:List Int) (P:Prs) (n i:Int) (ks:Kns):(Alu f).T:=(((),W,P,n,i,()),gb x.1 ks)
def At1 (f:Nat) (x:GB) (ks:Kns):A0 (Ae6 f):=⟨.exit 4,((),gb x.1 ks)⟩
abbrev TS3 (f:Nat):=Tree ((Alu f).T⊕A0 (Ae6 f))
def Mi (P:Prs) (i:Nat):TCT Ih:=B7 P i (B9 Ih)
def knP (t st:Int) (W:List Int) (p:TCT Ih):TCT cKn:=kn t st 0 (B7 W (Int.toNat p.1) (B9 cI)) (B7 W (Int.toNat p.2.1) (B9 cI))
def Z4 (f:Nat) (x:GB) (W:List Int) (P:Prs) (n i:Int) (ks:Kns):TS3 f:=bif decide (i<n) then inN P.length i (inN W.length (Mi P (Int.toNat i)).1 (inN W.length (Mi P (Int.toNat i)).2.1 (
 Alq ks (knP (gmT x.1) (gmS x.1) W (Mi P (Int.toNat i))) fun ks'=>.leaf (.inl (Ai4 f x W P n (W64 (i+1)) ks'))))) else .leaf (.inr (At1 f x ks))
def At2 (f:Nat) (g:(Alu f).T):TS3 f:=Z4 f g.2 g.1.2.1 g.1.2.2.1 g.1.2.2.2.1 g.1.2.2.2.2.1 (gk g.2)
def fu_s3 (f:Nat) (g:(Alu f).T):Nat:=Int.toNat g.1.2.2.2.1+1
def sm_s3 (f:Nat):St→Tree (XE×St):=Bd (Alu f) (Ae6 f) (E5 [.exit 4] (At2 f) (fu_s3 f))
theorem A5s {f:Nat} (e:XE):(Alu f).nx≤(Ae6 f e).nx:=Nat.le_refl _
def kpE (W:List Int) (P:Prs) (t st:Int) (i:Nat) (ks:Kns):Kns⊕Empty:=.inl (ks++[knP t st W (Mi P i)])
def kpV (W:List Int) (P:Prs) (t st:Int) (ks:Kns):Kns:=unE (B8 (kpE W P t st) 0 P.length ks)
theorem At3 {W:List Int} {P:Prs} {t st:Int} {n k:Nat} (i:Nat) (s s':Kns) (_:i<n) (h:s.length=k+i) (h2:kpE W P t st i s=.inl s'):s'.length=k+(i+1):=by
 cases h2
 simp only [List.length_append,List.length_singleton]
 omega
theorem Ai5 {W:List Int} {P:Prs} {t st:Int} {ks:Kns}:(kpV W P t st ks).length=ks.length+P.length :=
 Bn (n:=P.length) (Inv:=fun i (s:Kns)=>s.length=ks.length+i) At3 P.length 0 ks _ (by omega) rfl (Jn (B8 (kpE W P t st) 0 P.length ks))
def Ba2 (f:Nat) (x:GB) (r:Kns⊕Empty):A0 (Ae6 f):=At1 f x (unE r)
theorem Bfo {f:Nat} {x:GB} {W:List Int} {P:Prs} {ks:Kns} (hP:∀ p ∈ P,V8 W.length p) (hk:ks.length≤900000) (hl:P.length≤1000) :
  iter (At2 f) (P.length+1) (Ai4 f x W P P.length 0 ks)=some (At1 f x (kpV W P (gmT x.1) (gmS x.1) ks)):=by
 have hn:(P.length:Int)≤Bo .i64:=by show (P.length:Int)≤9223372036854775807;omega
 refine Hk P.length (fun i s=>Ai4 f x W P P.length i s) (kpE W P (gmT x.1) (gmS x.1)) (Ba2 f x) (fun i s=>s.length=ks.length+i) (fun i s hi hs=>?_) At3 (fun s hs=>?_) P.length 0 ks (by omega) rfl
 ·show (Z4 f (gb x.1 s) W P P.length i s).run=_
  have hp:=hP (Mi P i) (by unfold Mi;rw [E8 hi];exact List.getElem_mem hi)
  unfold Z4 Alq
  rw [decide_eq_true (show (i:Int)<(P.length:Int) by omega),E2 (by omega),show Int.toNat (i:Int)=i from rfl,E2 ⟨hp.1,Int.lt_trans hp.2.1 hp.2.2⟩,E2 ⟨Int.le_trans hp.1 (Int.le_of_lt hp.2.1),hp.2.2⟩,Ng (by simp;omega) (by decide),Ec hi hn]
  rfl
 ·show (Z4 f (gb x.1 s) W P P.length P.length s).run=_
  unfold Z4
  rw [decide_eq_false (show ¬ (P.length:Int)<(P.length:Int) by omega)]
  rfl
theorem Ba3:Bc Tryz.prog 50 A98 (sm_s1 53):=Bv (F8 is_Tick1 Hd He) 7 _ _ _ A5q _ _ (fu_s1 53) (fun g=>by kernel_rfl)
theorem Ba4:Bc Tryz.prog 50 A99 (sm_s2 53):=Bv (F8 is_Tick1 Hd He) 7 _ _ _ A5r _ _ (fu_s2 53) (fun g=>by kernel_rfl)
theorem Ba5:Bc Tryz.prog 50 A9a (sm_s3 53):=Bv (F8 is_Tick1 Hd He) 7 _ _ _ A5s _ _ (fu_s3 53) (fun g=>by kernel_rfl)
theorem Ba6:Bc Tryz.prog 50 A98 (sm_s1 46):=Bv (F8 is_Strike1 Xn Xo) 7 _ _ _ A5q _ _ (fu_s1 46) (fun g=>by kernel_rfl)
theorem Ba7:Bc Tryz.prog 50 A99 (sm_s2 46):=Bv (F8 is_Strike1 Xn Xo) 7 _ _ _ A5r _ _ (fu_s2 46) (fun g=>by kernel_rfl)
theorem Ba8:Bc Tryz.prog 50 A9a (sm_s3 46):=Bv (F8 is_Strike1 Xn Xo) 7 _ _ _ A5s _ _ (fu_s3 46) (fun g=>by kernel_rfl)
theorem Ba9:Bc Tryz.prog 50 A98 (sm_s1 107):=Bv (F8 is_run1 Hf Hg) 7 _ _ _ A5q _ _ (fu_s1 107) (fun g=>by kernel_rfl)
theorem Baa:Bc Tryz.prog 50 A99 (sm_s2 107):=Bv (F8 is_run1 Hf Hg) 7 _ _ _ A5r _ _ (fu_s2 107) (fun g=>by kernel_rfl)
theorem Bab:Bc Tryz.prog 50 A9a (sm_s3 107):=Bv (F8 is_run1 Hf Hg) 7 _ _ _ A5s _ _ (fu_s3 107) (fun g=>by kernel_rfl)
end St
end V
end Go.Proofs.YtcfanlgpkefogaaGreat
namespace Go.Proofs.YtcfanlgpkefogaaGreat
open Go.RowKit
namespace V
namespace St
def gmC (m:GM):TCT D3:=(m.2.2.2.2.2.2.2.2.2.2.2.2.1,m.2.2.2.2.2.2.2.2.2.2.2.2.2.1,())
noncomputable def A5t (f:Nat):Ctx:=Ua Tryz.prog plGm [(50,Tryz.f50),(49,Tryz.f49)] [((50,4),sm_s1 f),((50,12),sm_s2 f),((50,17),sm_s3 f)] (spG f)
theorem A5u {f:Nat} (h1:C3 Tryz.prog 137 (sp_ro f)) (h2:C3 Tryz.prog 98 (sp_fl f)) (l1:Bc Tryz.prog 50 A98 (sm_s1 f)) (l2:Bc Tryz.prog 50 A99 (sm_s2 f)) (l3:Bc Tryz.prog 50 A9a (sm_s3 f)):CtxOk (A5t f) :=
 Gn Aw puGm (fns_cons is_gsettle (fns_cons is_must A1)) (Bj (Jd (ds:=[A98,A99,A9a]) (by kernel_rfl) ⟨Hh (k:=4) (by kernel_rfl) rfl l1,Hh (k:=12) (by kernel_rfl) rfl l2,Hh (k:=17) (by kernel_rfl) rfl l3,trivial⟩) (Bj (Br (by kernel_rfl)) Gk)) (Mg is_rolls.plain h1 is_flies.plain h2)
def seG (bl:List (TCT A2)) (w fl:Int) (n:Nat) (s:S2):GA:=gaV bl w fl n s.1 s.2.1
def seS (bl:List (TCT A2)) (bc:TCT D3) (w fl:Int) (n:Nat) (s:S2):B3x:=Cf (seG bl w fl n s).2.1 (seG bl w fl n s).2.2 bc.1 bc.2.1
def seF (bl:List (TCT A2)) (bc:TCT D3) (t st w fl:Int) (n:Nat) (s:S2):(B5×Kns)⊕Int :=
 bif (seS bl bc w fl n s).2.2.1 != 0 then .inr (seS bl bc w fl n s).2.2.1 else .inl (scV (seG bl w fl n s).1 (seS bl bc w fl n s).1 s.1,kpV (seG bl w fl n s).1 (seS bl bc w fl n s).2.1 t st s.2.2)
def B6b (f:Nat) (y:Option (A0 (Ae6 f))):TU f:=bif isE (.exit 4) y then .leaf ⟨true,((),(D4 (.exit 4) y).2)⟩ else .fail
def Bac (f:Nat) (x:GB) (W:List Int) (P:Prs):Option (A0 (Ae6 f)):=iter (At2 f) (P.length+1) (Ai4 f x W P P.length 0 (gk x))
def Bfp (f:Nat) (y:Option (A0 (Ae5 f))):TU f:=bif isE (.exit 2) y then B6b f (Bac f (D4 (.exit 2) y).2 (D4 (.exit 2) y).1.2.1 (D4 (.exit 2) y).1.2.2.1) else .fail
def Bfq (f:Nat) (x:GB) (W:List Int) (M:B5) (P:Prs):Option (A0 (Ae5 f)):=iter (Asz f) (W.length+1) (Ai2 f x W M P W W.length 0 (gmM x.1))
def Ae7 (f:Nat) (x:GB) (W:List Int) (r:B3x):TU f:=bif r.2.2.1 != 0 then .leaf ⟨false,pnU f r.2.2.1⟩ else Bfp f (Bfq f x W r.1 r.2.1)
def Bfr (f:Nat) (y:Option (A0 (Ae2 f))):TU f:=bif isE (.exit 0) y then Ae7 f (D4 (.exit 0) y).2 (D4 (.exit 0) y).1.2.1 (Cf (D4 (.exit 0) y).1.2.2.1 (D4 (.exit 0) y).1.2.2.2.1 (gmC (D4 (.exit 0) y).2.1).1 (gmC (D4 (.exit 0) y).2.1).2.1) else .fail
def Bfs (f:Nat) (x:GB):Option (A0 (Ae2 f)):=iter (Asx f) (nBx x.1+1) (T9 f x (gmB x.1) (nBx x.1) 0 ([],[],[]))
def T_se (f:Nat) (x:GB):TU f:=Bfr f (Bfs f x)
def Rj (x:GB):Option ((B5×Kns)⊕Int):=bif Ov x then some (seF (gmB x.1) (gmC x.1) (gmT x.1) (gmS x.1) (gmW x.1) (gmF x.1) (nBx x.1) (gs x)) else none
def A9c (f:Nat) (x:GB) (s:B5×Kns):(FE_u f true).T:=mkU f (gb (gmU x.1 s.1 (gmO x.1)) s.2)
abbrev sp_se (f:Nat):B0→Nat→List AV→Tree (Out×B0×Nat):=Ly M6 (FL_g f) (FE_u f) (Yx (fun g:(FL_g f).T=>Rj g.2) (fun g=>A9c f g.2) (pnU f) ([],[]))
theorem V9 {bl:List (TCT A2)} {bc:TCT D3} {w fl:Int} {n:Nat} {s:S2} (hn:n≤8) (h:(seS bl bc w fl n s).2.2.1=0):(seS bl bc w fl n s).1.length=(seG bl w fl n s).1.length∧(seS bl bc w fl n s).2.1.length≤64∧∀ p ∈ (seS bl bc w fl n s).2.1,V8 (seG bl w fl n s).1.length p:=by
 have hg:InvG n n (seG bl w fl n s):=Ai1
 have a:=Alr (l:=(seG bl w fl n s).2.1) (s:=(seG bl w fl n s).2.2) (re:=bc.1) (dr:=bc.2.1) h (by rw [hg.b];have:=hg.k;omega)
 rw [hg.b] at a
 exact ⟨a.1.trans hg.m,a.2.1,a.2.2⟩
theorem Ae8 {f:Nat} {g:(FL_g f).T} {z:(B5×Kns)⊕Int} (h:Rj g.2=some z):(T_se f g.2).run=some (A2b (L:=FL_g f) (E:=FE_u f) (fun g=>A9c f g.2) (pnU f) g z):=by
 unfold Rj at h
 cases ho:Ov g.2 with
 | false=>rw [ho] at h;cases h
 | true =>
  rw [ho] at h
  cases h
  obtain ⟨hg,hk⟩:=Z2 ho
  unfold T_se
  rw [show Bfs f g.2=some (A9b f g.2 (seG (gmB g.2.1) (gmW g.2.1) (gmF g.2.1) (nBx g.2.1) (gs g.2))) from Bfm hg]
  show (Ae7 f g.2 (seG (gmB g.2.1) (gmW g.2.1) (gmF g.2.1) (nBx g.2.1) (gs g.2)).1 (seS (gmB g.2.1) (gmC g.2.1) (gmW g.2.1) (gmF g.2.1) (nBx g.2.1) (gs g.2))).run=_
  unfold seF Ae7
  have hn8:=hg.n
  cases he:(seS (gmB g.2.1) (gmC g.2.1) (gmW g.2.1) (gmF g.2.1) (nBx g.2.1) (gs g.2)).2.2.1 != 0 with
  | true=>rfl
  | false =>
   have hs:=V9 hn8 (bne_eq_false_iff_eq.1 he)
   have hi:InvG (nBx g.2.1) (nBx g.2.1) (seG (gmB g.2.1) (gmW g.2.1) (gmF g.2.1) (nBx g.2.1) (gs g.2)):=Ai1
   have hik:=hi.k
   simp only [cond_false]
   rw [show Bfq f g.2 (seG (gmB g.2.1) (gmW g.2.1) (gmF g.2.1) (nBx g.2.1) (gs g.2)).1 (seS (gmB g.2.1) (gmC g.2.1) (gmW g.2.1) (gmF g.2.1) (nBx g.2.1) (gs g.2)).1 (seS (gmB g.2.1) (gmC g.2.1) (gmW g.2.1) (gmF g.2.1) (nBx g.2.1) (gs g.2)).2.1=_ from Bfn hi.r hs.1 hg.ms (by omega)]
   show (B6b f (Bac f (gb (gmU g.2.1 (scV (seG (gmB g.2.1) (gmW g.2.1) (gmF g.2.1) (nBx g.2.1) (gs g.2)).1 (seS (gmB g.2.1) (gmC g.2.1) (gmW g.2.1) (gmF g.2.1) (nBx g.2.1) (gs g.2)).1 (gmM g.2.1)) (gmO g.2.1)) (gk g.2)) (seG (gmB g.2.1) (gmW g.2.1) (gmF g.2.1) (nBx g.2.1) (gs g.2)).1 (seS (gmB g.2.1) (gmC g.2.1) (gmW g.2.1) (gmF g.2.1) (nBx g.2.1) (gs g.2)).2.1)).run=_
   have hs64:=hs.2.1
   rw [show Bac f (gb (gmU g.2.1 (scV (seG (gmB g.2.1) (gmW g.2.1) (gmF g.2.1) (nBx g.2.1) (gs g.2)).1 (seS (gmB g.2.1) (gmC g.2.1) (gmW g.2.1) (gmF g.2.1) (nBx g.2.1) (gs g.2)).1 (gmM g.2.1)) (gmO g.2.1)) (gk g.2)) (seG (gmB g.2.1) (gmW g.2.1) (gmF g.2.1) (nBx g.2.1) (gs g.2)).1 (seS (gmB g.2.1) (gmC g.2.1) (gmW g.2.1) (gmF g.2.1) (nBx g.2.1) (gs g.2)).2.1=_ from Bfo (x:=gb (gmU g.2.1 (scV (seG (gmB g.2.1) (gmW g.2.1) (gmF g.2.1) (nBx g.2.1) (gs g.2)).1 (seS (gmB g.2.1) (gmC g.2.1) (gmW g.2.1) (gmF g.2.1) (nBx g.2.1) (gs g.2)).1 (gmM g.2.1)) (gmO g.2.1)) (gk g.2)) hs.2.2 hk (by omega)]
   rfl
theorem B17:C3 Tryz.prog 50 (sp_se 53):=Ko (A5u Hd He Ba3 Ba4 Ba5) 6 I2 _ _ _ _ (fun g=>T_se 53 g.2) (fun g=>by kernel_rfl) fun _ _ _ h=>Ae8 h
theorem B18:C3 Tryz.prog 50 (sp_se 46):=Ko (A5u Xn Xo Ba6 Ba7 Ba8) 6 I2 _ _ _ _ (fun g=>T_se 46 g.2) (fun g=>by kernel_rfl) fun _ _ _ h=>Ae8 h
theorem B19:C3 Tryz.prog 50 (sp_se 107):=Ko (A5u Hf Hg Ba9 Baa Bab) 6 I2 _ _ _ _ (fun g=>T_se 107 g.2) (fun g=>by kernel_rfl) fun _ _ _ h=>Ae8 h
end St
end V
end Go.Proofs.YtcfanlgpkefogaaGreat
namespace Go.Proofs.YtcfanlgpkefogaaGreat
open Go.RowKit
namespace V
namespace St
noncomputable def A3g:Code:=(Ak (bodyOf Tryz.f103)).getD 0 .skip
noncomputable def Z5:Code:=(Ak (bodyOf Tryz.f103)).getD 1 .skip
abbrev kBb:List SK:=[.d cI,.d cI]
def Ae9 (f:Nat):Lay:={ keys:=[0,2,3,13,14,15,24,25,26],ks:=[.p 0 0 0 0,.d cI,.p 2002 0 0 0,.d (.sl A2),.d cI,.d cI,.d (.sl A6),.d cI,.d cI],bs:=[(0,137,kGm f),(1,48,[.o 58 cKn]),(2002,70,kBb)],n:=81,nx:=3000,marks:=[] }
def Bft (f:Nat):Lay:={ keys:=[0,13,14,15],ks:=[.p 0 0 0 0,.d (.sl A2),.d cI,.d cI],bs:=bsG f,n:=81,nx:=3000,marks:=[] }
def Bfu:Lay:={ keys:=[],ks:=[],bs:=[],n:=81,nx:=4000,marks:=[] }
def A9d (f:Nat):XE→Lay:=fun e=>match e with | .panic _=>Bfu | _=>Bft f
def Aea (f:Nat):Lay:={ keys:=[0,13,14,15],ks:=[.p 0 0 0 0,.d (.sl A2),.d cI,.d cI],bs:=bsG f,n:=81,nx:=2000,marks:=[] }
def Bka (f:Nat):Lay:={ keys:=[],ks:=[],bs:=bsG f,n:=81,nx:=2000,marks:=[] }
def Aeb (f:Nat):XE→Lay:=fun e=>match e with | .panic _=>Bfu | _=>Bka f
theorem Ai6 {f:Nat} (e:XE):(Ae9 f).nx≤(A9d f e).nx:=by cases e <;> first | exact Nat.le_refl _ | exact (by decide:(3000:Nat)≤4000)
theorem Ai7 {f:Nat} (e:XE):(Aea f).nx≤(Aeb f e).nx:=by cases e <;> first | exact Nat.le_refl _ | exact (by decide:(2000:Nat)≤4000)
abbrev Dss:Type:=List (TCT A6)
abbrev MK:Type:=B5×Kns
def E6 (ps:Dss) (i:Nat):TCT A6:=B7 ps i (B9 A6)
def bmV (b:TCT A2) (m:TCT Bg) (d:TCT A6) (c:TCT D3):TCTs [Bg,cI]:=Wm (bm b m) d.1.1 d.1.2.1 d.2.1 c.1 c.2.1
structure Cb where
 i:Int
 b:TCT A2
 bl:List (TCT A2)
 n1:Int
 i1:Int
 ps:Dss
def gmb (m:GM) (k:Kns) (b:TCT A2):GM×SKTs [.o 0 cKn]×SKTs kBb×Unit:=(m,(k,()),b,())
def A9e (f:Nat) (x:GB) (c:Cb) (n k:Int) (s:MK):(Ae9 f).T:=(((),c.i,(),c.bl,c.n1,c.i1,c.ps,n,k,()),gmb (gmU x.1 s.1 (gmO x.1)) s.2 c.b)
def Z6 (f:Nat) (x:GB) (c:Cb) (s:MK):A0 (A9d f):=⟨.exit 2,(((),c.bl,c.n1,c.i1,()),gb (gmU x.1 s.1 (gmO x.1)) s.2)⟩
def A9f (f:Nat) (e:Int):A0 (A9d f):=⟨.panic (.ifc 49 (.int .i64 e)),((),())⟩
abbrev TB2 (f:Nat):=Tree ((Ae9 f).T⊕A0 (A9d f))
def Aec (f:Nat) (x:GB) (c:Cb) (n k:Int) (s:MK) (r:TCTs [Bg,cI]):TB2 f :=
 bif r.2.1==0 then inO s.1.length c.i (Alq s.2 (kn (gmT x.1) (gmS x.1) 1 c.i k) fun ks=>.leaf (.inl (A9e f x c n (W64 (k+1)) (By s.1 (Int.toNat c.i) r.1,ks))))
 else bif r.2.1==4 then .leaf (.inr (A9f f r.2.1)) else .leaf (.inl (A9e f x c n (W64 (k+1)) s))
def Z7 (f:Nat) (x:GB) (c:Cb) (n k:Int) (s:MK):TB2 f:=bif decide (k<n) then inN c.ps.length k (bif A2a s.1 (gmO x.1) c.i then
 bif !Cp s.1 (gmO x.1) (Int.toNat c.i) then .leaf (.inr (Z6 f x c s)) else bif Ff (gmW x.1) (gmF x.1) c.i then .leaf (.inr (Z6 f x c s)) else
 inO s.1.length c.i (Aec f x c n k s (bmV c.b (A8 s.1 (Int.toNat c.i)) (E6 c.ps (Int.toNat k)) (gmC x.1))) else .fail) else .leaf (.inr (Z6 f x c s))
def cb (f:Nat) (g:(Ae9 f).T):Cb:=⟨g.1.2.1,g.2.2.2.1,g.1.2.2.2.1,g.1.2.2.2.2.1,g.1.2.2.2.2.2.1,g.1.2.2.2.2.2.2.1⟩
def At4 (f:Nat) (g:(Ae9 f).T):TB2 f:=Z7 f (gb g.2.1 g.2.2.1.1) (cb f g) g.1.2.2.2.2.2.2.2.1 g.1.2.2.2.2.2.2.2.2.1 (gmM g.2.1,g.2.2.1.1)
def fu_b2 (f:Nat) (g:(Ae9 f).T):Nat:=Int.toNat g.1.2.2.2.2.2.2.2.1+1
def sm_b2 (f:Nat):St→Tree (XE×St):=Bd (Ae9 f) (A9d f) (finP 49 .i64 [.exit 2] (At4 f) (fu_b2 f))
def bpE (b:TCT A2) (c:TCT D3) (ps:Dss) (os:List Bool) (w fl t st:Int) (i:Nat) (k:Nat) (s:MK):MK⊕(MK⊕Int) :=
 bif !Cp s.1 os i||Ff w fl i then .inr (.inl s) else
 bif (bmV b (A8 s.1 i) (E6 ps k) c).2.1==0 then .inl (By s.1 i (bmV b (A8 s.1 i) (E6 ps k) c).1,s.2++[kn t st 1 i k]) else
 bif (bmV b (A8 s.1 i) (E6 ps k) c).2.1==4 then .inr (.inr (bmV b (A8 s.1 i) (E6 ps k) c).2.1) else .inl s
def A2d:MK⊕(MK⊕Int)→MK⊕Int
 | .inl s=>.inl s
 | .inr x=>x
def A5v (f:Nat) (x:GB) (c:Cb) (r:MK⊕(MK⊕Int)):A0 (A9d f):=match A2d r with
 | .inl s=>Z6 f x c s
 | .inr e=>A9f f e
structure InvK (n k:Nat) (i:Nat) (s:MK):Prop where
 m:s.1.length=n
 k:s.2.length≤k+i
theorem At5 {b:TCT A2} {c:TCT D3} {ps:Dss} {os:List Bool} {w fl t st:Int} {i n k0 m:Nat} (k:Nat) (s s':MK) (_:k<m) (hi:InvK n k0 k s) (h:bpE b c ps os w fl t st i k s=.inl s'):InvK n k0 (k+1) s':=by
 unfold bpE at h
 have hk:=hi.k
 cases h1:!Cp s.1 os i||Ff w fl i with
 | true=>rw [h1] at h;cases h
 | false =>
  rw [h1] at h
  cases h2:(bmV b (A8 s.1 i) (E6 ps k) c).2.1==0 with
  | true=>rw [h2] at h;cases h;exact ⟨by rw [C7];exact hi.m,by simp;omega⟩
  | false =>
   rw [h2] at h
   cases h3:(bmV b (A8 s.1 i) (E6 ps k) c).2.1==4 with
   | true=>rw [h3] at h;cases h
   | false=>rw [h3] at h;cases h;exact ⟨hi.m,by omega⟩
theorem Bfv {f:Nat} {x:GB} {c:Cb} {i n k0:Nat} {s:MK} (hci:c.i=(i:Int)) (hi:i<n) (hos:(gmO x.1).length=n) (hs:InvK n k0 0 s) (hk0:k0≤990000) (hps:c.ps.length≤1000) :
  iter (At4 f) (c.ps.length+1) (A9e f x c c.ps.length 0 s)=some (A5v f x c (B8 (bpE c.b (gmC x.1) c.ps (gmO x.1) (gmW x.1) (gmF x.1) (gmT x.1) (gmS x.1) i) 0 c.ps.length s)):=by
 have hn:(c.ps.length:Int)≤Bo .i64:=by show (c.ps.length:Int)≤9223372036854775807;omega
 refine Hk c.ps.length (fun k s=>A9e f x c c.ps.length k s) (bpE c.b (gmC x.1) c.ps (gmO x.1) (gmW x.1) (gmF x.1) (gmT x.1) (gmS x.1) i) (A5v f x c) (InvK n k0) (fun k s hk hl=>?_) At5 (fun s hl=>?_) c.ps.length 0 s (by omega) hs
 ·show (Z7 f (gb (gmU x.1 s.1 (gmO x.1)) s.2) c c.ps.length k s).run=_
  have h1:=hl.m
  have h2:=hl.k
  unfold Z7
  show Tree.run (bif decide ((k:Int)<(c.ps.length:Int)) then inN c.ps.length k (bif A2a s.1 (gmO x.1) c.i then
   bif !Cp s.1 (gmO x.1) (Int.toNat c.i) then .leaf (.inr (Z6 f x c s)) else bif Ff (gmW x.1) (gmF x.1) c.i then .leaf (.inr (Z6 f x c s)) else
   inO s.1.length c.i (Aec f x c c.ps.length k s (bmV c.b (A8 s.1 (Int.toNat c.i)) (E6 c.ps k) (gmC x.1))) else .fail) else .leaf (.inr (Z6 f x c s)):TB2 f)=_
  rw [hci,decide_eq_true (show (k:Int)<(c.ps.length:Int) by omega),E2 (by omega),A5p hi h1 hos,G9 (by omega),show Int.toNat (i:Int)=i from rfl]
  unfold Aec bpE Alq
  rw [hci,G9 (by omega),Ng (by simp;omega) (by decide),Ec hk hn,show Int.toNat (i:Int)=i from rfl]
  cases Cp s.1 (gmO x.1) i with
  | false=>rfl
  | true =>
   cases Ff (gmW x.1) (gmF x.1) i with
   | true=>rfl
   | false =>
    simp only [Bool.not_true,Bool.or_self,cond_true,cond_false]
    cases (bmV c.b (A8 s.1 i) (E6 c.ps k) (gmC x.1)).2.1==0 with
    | true=>rfl
    | false =>
     simp only [cond_false]
     cases (bmV c.b (A8 s.1 i) (E6 c.ps k) (gmC x.1)).2.1==4 <;> rfl
 ·show (Z7 f (gb (gmU x.1 s.1 (gmO x.1)) s.2) c c.ps.length c.ps.length s).run=_
  unfold Z7
  rw [decide_eq_false (show ¬ (c.ps.length:Int)<(c.ps.length:Int) by omega)]
  rfl
def At6 (f:Nat) (x:GB) (bl:List (TCT A2)) (n i:Int) (s:MK):(Aea f).T:=(((),bl,n,i,()),gb (gmU x.1 s.1 (gmO x.1)) s.2)
def B6c (f:Nat) (x:GB) (s:MK):A0 (Aeb f):=⟨.exit 0,((),gb (gmU x.1 s.1 (gmO x.1)) s.2)⟩
def B6d (f:Nat) (e:Int):A0 (Aeb f):=⟨.panic (.ifc 49 (.int .i64 e)),((),())⟩
abbrev TB1 (f:Nat):=Tree ((Aea f).T⊕A0 (Aeb f))
def Bfw (f:Nat) (r:(Bft f).T):(Aea f).T:=(((),r.1.2.1,r.1.2.2.1,W64 (r.1.2.2.2.1+1),()),r.2)
def At7 (f:Nat) (y:Option (A0 (A9d f))):TB1 f:=bif isP 49 .i64 y then .leaf (.inr (B6d f (panO 49 .i64 y).1)) else bif isE (.exit 2) y then .leaf (.inl (Bfw f (D4 (.exit 2) y))) else .fail
def Bfx (f:Nat) (x:GB) (c:Cb):Option (A0 (A9d f)):=iter (At4 f) (c.ps.length+1) (A9e f x c c.ps.length 0 (gmM x.1,gk x))
def cb1 (x:GB) (bl:List (TCT A2)) (n i:Int):Cb:=⟨i,F2 bl (Int.toNat i),bl,n,i,gmP x.1⟩
def Z8 (f:Nat) (x:GB) (bl:List (TCT A2)) (n i:Int):TB1 f:=bif decide (i<n) then inN bl.length i (At7 f (Bfx f x (cb1 x bl n i))) else .leaf (.inr (B6c f x (gmM x.1,gk x)))
def At8 (f:Nat) (g:(Aea f).T):TB1 f:=Z8 f g.2 g.1.2.1 g.1.2.2.1 g.1.2.2.2.1
def fu_b1 (f:Nat) (g:(Aea f).T):Nat:=Int.toNat g.1.2.2.1+1
def sm_b1 (f:Nat):St→Tree (XE×St):=Bd (Aea f) (Aeb f) (finP 49 .i64 [.exit 0] (At8 f) (fu_b1 f))
def Lt_b1 (f:Nat):Lp:=fun k=>bif Nat.beq k 4 then some (sm_b2 f) else none
theorem At9:Ak A3g=[Z5]:=by kernel_rfl
theorem Bad:keyOf Z5=4:=by kernel_rfl
theorem A9g {f:Nat} (h:Bc Tryz.prog 103 Z5 (sm_b2 f)):∀ d ∈ Ak A3g,∀ g,Lt_b1 f (keyOf d)=some g→Bc Tryz.prog 103 d g:=fun d hd g hg=>by
 rw [At9,List.mem_singleton] at hd
 subst hd
 rw [Bad] at hg
 cases hg
 exact h
theorem Ata:Bc Tryz.prog 103 Z5 (sm_b2 53):=Hx (F8 is_Tick1 Hd He) 7 _ _ _ Ai6 _ _ _ _ (fu_b2 53) (fun g=>by kernel_rfl)
theorem Atb:Bc Tryz.prog 103 Z5 (sm_b2 107):=Hx (F8 is_run1 Hf Hg) 7 _ _ _ Ai6 _ _ _ _ (fu_b2 107) (fun g=>by kernel_rfl)
theorem Bae:Bc Tryz.prog 103 A3g (sm_b1 53):=A20 (F8 is_Tick1 Hd He) 7 _ (Lt_b1 53) (A9g Ata) _ _ Ai7 _ _ _ _ (fu_b1 53) (fun g=>by kernel_rfl)
theorem Baf:Bc Tryz.prog 103 A3g (sm_b1 107):=A20 (F8 is_run1 Hf Hg) 7 _ (Lt_b1 107) (A9g Atb) _ _ Ai7 _ _ _ _ (fu_b1 107) (fun g=>by kernel_rfl)
def boE (bl:List (TCT A2)) (c:TCT D3) (ps:Dss) (os:List Bool) (w fl t st:Int) (i:Nat) (s:MK):MK⊕Int:=A2d (B8 (bpE (F2 bl i) c ps os w fl t st i) 0 ps.length s)
def Z9 (f:Nat) (x:GB):MK⊕Int→A0 (Aeb f)
 | .inl s=>B6c f x s
 | .inr e=>B6d f e
theorem Atc {b:TCT A2} {c:TCT D3} {ps:Dss} {os:List Bool} {w fl t st:Int} {i n k0 m:Nat}:∀ (j k:Nat) (s s':MK),k+j=m→InvK n k0 k s→A2d (B8 (bpE b c ps os w fl t st i) k j s)=.inl s'→InvK n k0 m s'
 | 0,k,s,s',hj,hi,h=>by
  have e:k=m:=by omega
  subst e
  cases h
  exact hi
 | j+1,k,s,s',hj,hi,h=>by
  unfold B8 at h
  cases hf:bpE b c ps os w fl t st i k s with
  | inl t1=>rw [hf] at h;exact Atc j (k+1) t1 s' (by omega) (At5 (m:=m) k s t1 (by omega) hi hf) h
  | inr y =>
   rw [hf] at h
   unfold bpE at hf
   have hk:=hi.k
   cases h1:!Cp s.1 os i||Ff w fl i with
   | true =>
    rw [h1] at hf
    cases hf
    cases h
    exact ⟨hi.m,by omega⟩
   | false =>
    rw [h1] at hf
    cases h2:(bmV b (A8 s.1 i) (E6 ps k) c).2.1==0 with
    | true=>rw [h2] at hf;cases hf
    | false =>
     rw [h2] at hf
     cases h3:(bmV b (A8 s.1 i) (E6 ps k) c).2.1==4 with
     | true=>rw [h3] at hf;cases hf;cases h
     | false=>rw [h3] at hf;cases hf
structure InvO (n k P:Nat) (i:Nat) (s:MK):Prop where
 m:s.1.length=n
 k:s.2.length≤k+i*P
theorem Atd {bl:List (TCT A2)} {c:TCT D3} {ps:Dss} {os:List Bool} {w fl t st:Int} {n k0 m:Nat} (i:Nat) (s s':MK) (_:i<m) (hi:InvO n k0 ps.length i s) (h:boE bl c ps os w fl t st i s=.inl s'):InvO n k0 ps.length (i+1) s':=by
 have a:=Atc (n:=n) (k0:=k0+i*ps.length) (m:=ps.length) ps.length 0 s s' (by omega) ⟨hi.m,by have:=hi.k;omega⟩ h
 have e:(i+1)*ps.length=i*ps.length+ps.length:=Nat.succ_mul i ps.length
 exact ⟨a.m,by have:=a.k;omega⟩
theorem Bfy {f:Nat} {x:GB} {s:MK} (hx:OkGM x.1) (hm:s.1.length=nBx x.1) (hk:s.2.length≤900000) (hps:(gmP x.1).length≤1000) :
  iter (At8 f) (nBx x.1+1) (At6 f x (gmB x.1) (nBx x.1) 0 s)=some (Z9 f x (B8 (boE (gmB x.1) (gmC x.1) (gmP x.1) (gmO x.1) (gmW x.1) (gmF x.1) (gmT x.1) (gmS x.1)) 0 (nBx x.1) s)):=by
 have hn8:=hx.n
 have hn:(nBx x.1:Int)≤Bo .i64:=by show (nBx x.1:Int)≤9223372036854775807;omega
 refine Hk (nBx x.1) (fun i s=>At6 f x (gmB x.1) (nBx x.1) i s) (boE (gmB x.1) (gmC x.1) (gmP x.1) (gmO x.1) (gmW x.1) (gmF x.1) (gmT x.1) (gmS x.1)) (Z9 f x) (InvO (nBx x.1) s.2.length (gmP x.1).length) (fun i s1 hi hl=>?_) Atd (fun s hl=>?_) (nBx x.1) 0 s (by omega) ⟨hm,by omega⟩
 ·show (Z8 f (gb (gmU x.1 s1.1 (gmO x.1)) s1.2) (gmB x.1) (nBx x.1) i).run=_
  have h2:=hl.k
  have h3:i*(gmP x.1).length≤8*1000:=Nat.mul_le_mul (by omega) hps
  have hy:Bfx f (gb (gmU x.1 s1.1 (gmO x.1)) s1.2) (cb1 (gb (gmU x.1 s1.1 (gmO x.1)) s1.2) (gmB x.1) (nBx x.1) i)=some (A5v f (gb (gmU x.1 s1.1 (gmO x.1)) s1.2) (cb1 (gb (gmU x.1 s1.1 (gmO x.1)) s1.2) (gmB x.1) (nBx x.1) i) (B8 (bpE (F2 (gmB x.1) i) (gmC x.1) (gmP x.1) (gmO x.1) (gmW x.1) (gmF x.1) (gmT x.1) (gmS x.1) i) 0 (gmP x.1).length s1)) :=
   Bfv (f:=f) (x:=gb (gmU x.1 s1.1 (gmO x.1)) s1.2) (c:=cb1 (gb (gmU x.1 s1.1 (gmO x.1)) s1.2) (gmB x.1) (nBx x.1) i) (i:=i) (n:=nBx x.1) (k0:=s.2.length+i*(gmP x.1).length) (s:=s1) rfl hi hx.os ⟨hl.m,by omega⟩ (by omega) hps
  unfold Z8
  rw [decide_eq_true (show (i:Int)<(nBx x.1:Int) by omega),E2 (n:=(gmB x.1).length) (by show 0≤(i:Int)∧(i:Int)<(nBx x.1:Int);omega),hy]
  unfold boE A5v
  cases A2d (B8 (bpE (F2 (gmB x.1) i) (gmC x.1) (gmP x.1) (gmO x.1) (gmW x.1) (gmF x.1) (gmT x.1) (gmS x.1) i) 0 (gmP x.1).length s1) with
  | inl s2 =>
   show (Tree.leaf (.inl (((),gmB x.1,(nBx x.1:Int),W64 ((i:Int)+1),()),gb (gmU x.1 s2.1 (gmO x.1)) s2.2)):TB1 f).run=_
   rw [Ec hi hn]
   rfl
  | inr e =>
   have h1:isP 49 .i64 (some (A9f f e))=true:=Pt
   have h2:panO 49 .i64 (some (A9f f e))=⟨e,((),())⟩:=Kj
   show (At7 f (some (A9f f e))).run=_
   unfold At7
   rw [h1,h2]
   rfl
 ·show (Z8 f (gb (gmU x.1 s.1 (gmO x.1)) s.2) (gmB x.1) (nBx x.1) (nBx x.1)).run=_
  unfold Z8
  rw [decide_eq_false (show ¬ (nBx x.1:Int)<(nBx x.1:Int) by omega)]
  rfl
end St
end V
end Go.Proofs.YtcfanlgpkefogaaGreat
namespace Go.Proofs.YtcfanlgpkefogaaGreat
open Go.RowKit
namespace V
namespace St
noncomputable def Bkb (f:Nat):Ctx:=Ua Tryz.prog plGm [(103,Tryz.f103)] [((103,1),sm_b1 f),((103,4),sm_b2 f)] (spG f)
theorem Ai8 {f:Nat} (h1:C3 Tryz.prog 137 (sp_ro f)) (h2:C3 Tryz.prog 98 (sp_fl f)) (l1:Bc Tryz.prog 103 A3g (sm_b1 f)) (l2:Bc Tryz.prog 103 Z5 (sm_b2 f)):CtxOk (Bkb f) :=
 Gn Aw puGm (fns_cons is_gbump A1) (Bj (Jd (ds:=[A3g,Z5]) (by kernel_rfl) ⟨Hh (k:=1) (by kernel_rfl) rfl l1,Hh (k:=4) (by kernel_rfl) rfl l2,trivial⟩) Gk) (Mg is_rolls.plain h1 is_flies.plain h2)
def Ate (f:Nat) (x:GB):Option (A0 (Aeb f)):=iter (At8 f) (nBx x.1+1) (At6 f x (gmB x.1) (nBx x.1) 0 (gmM x.1,gk x))
def T_bp (f:Nat) (x:GB):TU f:=bif isP 49 .i64 (Ate f x) then .leaf ⟨false,pnU f (panO 49 .i64 (Ate f x)).1⟩ else bif isE (.exit 0) (Ate f x) then .leaf ⟨true,((),(D4 (.exit 0) (Ate f x)).2)⟩ else .fail
def buF (bl:List (TCT A2)) (c:TCT D3) (ps:Dss) (t st w fl:Int) (n:Nat) (s:S2):MK⊕Int:=B8 (boE bl c ps s.2.1 w fl t st) 0 n (s.1,s.2.2)
def A2e (x:GB):Bool:=Ov x&&decide ((gmP x.1).length≤1000)
theorem A9h {x:GB} (h:A2e x=true):OkGM x.1∧(gk x).length≤900000∧(gmP x.1).length≤1000:=by
 unfold A2e at h
 simp only [Bool.and_eq_true,decide_eq_true_eq] at h
 have a:=Z2 h.1
 exact ⟨a.1,a.2,h.2⟩
def A9i (x:GB):Option (MK⊕Int):=bif A2e x then some (buF (gmB x.1) (gmC x.1) (gmP x.1) (gmT x.1) (gmS x.1) (gmW x.1) (gmF x.1) (nBx x.1) (gs x)) else none
abbrev sp_bp (f:Nat):B0→Nat→List AV→Tree (Out×B0×Nat):=Ly M6 (FL_g f) (FE_u f) (Yx (fun g:(FL_g f).T=>A9i g.2) (fun g=>A9c f g.2) (pnU f) ([],[]))
theorem Atf {f:Nat} {g:(FL_g f).T} {z:MK⊕Int} (h:A9i g.2=some z):(T_bp f g.2).run=some (A2b (L:=FL_g f) (E:=FE_u f) (fun g=>A9c f g.2) (pnU f) g z):=by
 unfold A9i at h
 cases ho:A2e g.2 with
 | false=>rw [ho] at h;cases h
 | true =>
  rw [ho] at h
  cases h
  obtain ⟨hg,hk,hp⟩:=A9h ho
  have hy:Ate f g.2=some (Z9 f g.2 (buF (gmB g.2.1) (gmC g.2.1) (gmP g.2.1) (gmT g.2.1) (gmS g.2.1) (gmW g.2.1) (gmF g.2.1) (nBx g.2.1) (gs g.2))):=Bfy hg hg.ms hk hp
  unfold T_bp
  rw [hy]
  cases buF (gmB g.2.1) (gmC g.2.1) (gmP g.2.1) (gmT g.2.1) (gmS g.2.1) (gmW g.2.1) (gmF g.2.1) (nBx g.2.1) (gs g.2) with
  | inl s=>rfl
  | inr e =>
   have h1:isP 49 .i64 (some (Z9 f g.2 (.inr e)))=true:=Pt
   have h2:panO 49 .i64 (some (Z9 f g.2 (.inr e)))=⟨e,((),())⟩:=Kj
   rw [h1,h2]
   rfl
theorem B1a:C3 Tryz.prog 103 (sp_bp 53):=Ko (Ai8 Hd He Bae Ata) 6 I2 _ _ _ _ (fun g=>T_bp 53 g.2) (fun g=>by kernel_rfl) fun _ _ _ h=>Atf h
theorem B1b:C3 Tryz.prog 103 (sp_bp 107):=Ko (Ai8 Hf Hg Baf Atb) 6 I2 _ _ _ _ (fun g=>T_bp 107 g.2) (fun g=>by kernel_rfl) fun _ _ _ h=>Atf h
end St
end V
end Go.Proofs.YtcfanlgpkefogaaGreat
namespace Go.Proofs.YtcfanlgpkefogaaGreat
open Go.RowKit
namespace V
def thY {A β:Type} (y:Option (A⊕Int)) (d:A) (pn:Int→Tree β) (k:A→Tree β):Tree β:=bif isL y then k (gL d y) else bif isR y then pn (gR 0 y) else .fail
theorem Qr {A β:Type} {y:Option (A⊕Int)} {d a:A} {pn:Int→Tree β} {k:A→Tree β} (h:y=some (.inl a)):thY y d pn k=k a:=by rw [h];rfl
theorem Qs {A β:Type} {y:Option (A⊕Int)} {d:A} {e:Int} {pn:Int→Tree β} {k:A→Tree β} (h:y=some (.inr e)):thY y d pn k=pn e:=by rw [h];rfl
namespace St
noncomputable def Ai9:Code:=(Ak (bodyOf Tryz.f54)).getD 0 .skip
def Aed (f:Nat):Lay:={ keys:=[0],ks:=[.p 0 0 0 0],bs:=bsG f,n:=52,nx:=4000,marks:=[] }
def Bkc:Lay:={ keys:=[],ks:=[],bs:=[],n:=52,nx:=9000,marks:=[] }
def A9j (f:Nat):XE→Lay:=fun e=>match e with | .panic _=>Bkc | _=>Aed f
theorem Aia {f:Nat} (e:XE):(Aed f).nx≤(A9j f e).nx:=by cases e <;> first | exact Nat.le_refl _ | exact (by decide:(4000:Nat)≤9000)
abbrev YS:Type:=GB→Option (B5⊕Int)
abbrev Y2:Type:=GB→Option (S2⊕Int)
abbrev YK:Type:=GB→Option (MK⊕Int)
abbrev SPf:Type:=B0→Nat→List AV→Tree (Out×B0×Nat)
def Bkd {β:Type} (m:GM) (ms:B5) (os:List Bool) (k:GM→β):β:=match m with
 | (a0,a1,a2,a3,a4,a5,a6,a7,a8,a9,a10,a11,a12,a13,a14,_,_,a17,a18,a19,a20,a21,_)=>k (a0,a1,a2,a3,a4,a5,a6,a7,a8,a9,a10,a11,a12,a13,a14,ms,os,a17,a18,a19,a20,a21,())
def Bfz {β:Type} (m:GM) (ms:B5) (k:GM→β):β:=match m with
 | (a0,a1,a2,a3,a4,a5,a6,a7,a8,a9,a10,a11,a12,a13,a14,_,a16,a17,a18,a19,a20,a21,_)=>k (a0,a1,a2,a3,a4,a5,a6,a7,a8,a9,a10,a11,a12,a13,a14,ms,a16,a17,a18,a19,a20,a21,())
def gmA (m:GM) (ms:B5) (os:List Bool) (fl tk st:Int):GM:=(m.1,m.2.1,m.2.2.1,m.2.2.2.1,m.2.2.2.2.1,m.2.2.2.2.2.1,m.2.2.2.2.2.2.1,m.2.2.2.2.2.2.2.1,m.2.2.2.2.2.2.2.2.1,m.2.2.2.2.2.2.2.2.2.1,m.2.2.2.2.2.2.2.2.2.2.1,m.2.2.2.2.2.2.2.2.2.2.2.1,m.2.2.2.2.2.2.2.2.2.2.2.2.1,m.2.2.2.2.2.2.2.2.2.2.2.2.2.1,m.2.2.2.2.2.2.2.2.2.2.2.2.2.2.1,ms,os,m.2.2.2.2.2.2.2.2.2.2.2.2.2.2.2.2.2.1,fl,tk,st,m.2.2.2.2.2.2.2.2.2.2.2.2.2.2.2.2.2.2.2.2.2.1,())
def Wb {L:FLay} {E:Bool→FLay} {A:Type} (Y:L.T→Option (A⊕Int)) (mk:L.T→A→((E true).T→Tree (Ev E))→Tree (Ev E)) (pn:Int→(E false).T) (d:A) (g:L.T):Tree (Ev E) :=
 .br (isL (Y g)) (mk g (gL d (Y g)) fun y=>.leaf ⟨true,y⟩) (.br (isR (Y g)) (.leaf ⟨false,pn (gR 0 (Y g))⟩) .fail)
def Bg0 (f:Nat) (x:GB) (s:S2) (k:(FE_u f true).T→Tree (Ev (FE_u f))):Tree (Ev (FE_u f)):=Bkd x.1 s.1 s.2.1 fun m=>k ((),(m,(s.2.2,()),()))
def Bg1 (f:Nat) (x:GB) (s:MK) (k:(FE_u f true).T→Tree (Ev (FE_u f))):Tree (Ev (FE_u f)):=Bfz x.1 s.1 fun m=>k ((),(m,(s.2,()),()))
def Bg2 (f:Nat) (x:GB) (s:B5) (k:(FE_u f true).T→Tree (Ev (FE_u f))):Tree (Ev (FE_u f)):=Bfz x.1 s fun m=>k ((),(m,(x.2.1.1,()),()))
theorem B1c {f:Nat} (Y:Y2):(Wb (L:=FL_g f) (E:=FE_u f) (fun g=>Y g.2) (fun g=>Bg0 f g.2) (pnU f) ([],[],[]))=(Yx (L:=FL_g f) (E:=FE_u f) (fun g=>Y g.2) (fun g=>Ast f g.2) (pnU f) ([],[],[])):=rfl
theorem A5w {f:Nat} (Y:YK):(Wb (L:=FL_g f) (E:=FE_u f) (fun g=>Y g.2) (fun g=>Bg1 f g.2) (pnU f) ([],[]))=(Yx (L:=FL_g f) (E:=FE_u f) (fun g=>Y g.2) (fun g=>A9c f g.2) (pnU f) ([],[])):=rfl
theorem B1d {f:Nat} (Y:YS):(Wb (L:=FL_g f) (E:=FE_u f) (fun g=>Y g.2) (fun g=>Bg2 f g.2) (pnU f) [])=(Yx (L:=FL_g f) (E:=FE_u f) (fun g=>Y g.2) (fun g=>Adx f g.2) (pnU f) []):=rfl
abbrev Bg3 (f:Nat) (Y:YS):SPf:=Ly M6 (FL_g f) (FE_u f) (Wb (fun g:(FL_g f).T=>Y g.2) (fun g=>Bg2 f g.2) (pnU f) [])
abbrev Bg4 (f:Nat) (Y:Y2):SPf:=Ly M6 (FL_g f) (FE_u f) (Wb (fun g:(FL_g f).T=>Y g.2) (fun g=>Bg0 f g.2) (pnU f) ([],[],[]))
abbrev Alv (f:Nat) (Y:YK):SPf:=Ly M6 (FL_g f) (FE_u f) (Wb (fun g:(FL_g f).T=>Y g.2) (fun g=>Bg1 f g.2) (pnU f) ([],[]))
structure TY where
 s:YS
 m:Y2
 e:YK
 b:YK
def spT (f:Nat) (Y:TY):List (Nat×SPf):=[(101,Bg3 f Y.s),(102,Bg4 f Y.m),(50,Alv f Y.e),(103,Alv f Y.b)]
def tyG:TY:=⟨Z0,A97,Rj,A9i⟩
theorem Atg {f:Nat} (h1:C3 Tryz.prog 101 (sp_slw f)) (h2:C3 Tryz.prog 102 (sp_mv f)) (h3:C3 Tryz.prog 50 (sp_se f)) (h4:C3 Tryz.prog 103 (sp_bp f)):∀ p ∈ spT f tyG,Plain Tryz.prog p.1∧C3 Tryz.prog p.1 p.2:=fun p hp=>by
 unfold spT at hp
 simp only [List.mem_cons,List.not_mem_nil,or_false] at hp
 rcases hp with rfl | rfl | rfl | rfl
 ·exact ⟨is_gslow.plain,by rw [tyG,Bg3,B1d];exact h1⟩
 ·exact ⟨is_gmove.plain,by rw [tyG,Bg4,B1c];exact h2⟩
 ·exact ⟨is_gsettle.plain,by rw [tyG,Alv,A5w];exact h3⟩
 ·exact ⟨is_gbump.plain,by rw [tyG,Alv,A5w];exact h4⟩
theorem B6e:∀ p ∈ spT 53 tyG,Plain Tryz.prog p.1∧C3 Tryz.prog p.1 p.2:=Atg Asj B11 B17 B1a
theorem B6f:∀ p ∈ spT 107 tyG,Plain Tryz.prog p.1∧C3 Tryz.prog p.1 p.2:=Atg Asl B12 B19 B1b
noncomputable def Bke (f:Nat) (Y:TY):Ctx:=Ua Tryz.prog plGm [(49,Tryz.f49)] [] (spT f Y)
theorem Aib {f:Nat} {Y:TY} (h:∀ p ∈ spT f Y,Plain Tryz.prog p.1∧C3 Tryz.prog p.1 p.2):CtxOk (Bke f Y):=Gn Aw puGm (fns_cons is_must A1) K7 h
def x2 (x:GB) (s:S2):GB:=gb (gmU x.1 s.1 s.2.1) s.2.2
abbrev TTk (f:Nat):=Tree ((Aed f).T⊕A0 (A9j f))
def B6g (f:Nat) (e:Int):A0 (A9j f):=⟨.panic (.ifc 49 (.int .i64 e)),((),())⟩
def A3h (f:Nat) (e:Int):TTk f:=.leaf (.inr (B6g f e))
def z2:S2:=([],[],[])
def zM:MK:=([],[])
def xS (x:GB) (i:Int) (s:S2):GB:=(gmA x.1 s.1 s.2.1 (gmF x.1) (gmT x.1) i,(s.2.2,()),())
def Zf (f:Nat) (Y:TY) (x:GB) (i:Int) (s:S2):TTk f:=bif decide (i≤16) then thY (Y.m (xS x i s)) z2 (A3h f) fun s1=>thY (Y.e (xS x i s1)) zM (A3h f) fun s2=>thY (Y.b (xS x i (s2.1,s1.2.1,s2.2))) zM (A3h f) fun s3=>.leaf (.inl (((),()),xS x (W64 (i+1)) (s3.1,s1.2.1,s3.2)))
 else .leaf (.inr ⟨.exit 0,(((),()),xS x i s)⟩)
def Aic (f:Nat) (Y:TY) (g:(Aed f).T):TTk f:=Zf f Y g.2 (gmS g.2.1) (gs g.2)
def fu_tk (f:Nat) (_:(Aed f).T):Nat:=17
def sm_tk (f:Nat) (Y:TY):St→Tree (XE×St):=Bd (Aed f) (A9j f) (finP 49 .i64 [.exit 0] (Aic f Y) (fu_tk f))
theorem Bag {Y:TY} (h:∀ p ∈ spT 53 Y,Plain Tryz.prog p.1∧C3 Tryz.prog p.1 p.2):Bc Tryz.prog 54 Ai9 (sm_tk 53 Y):=Hx (Aib h) 7 _ _ _ Aia _ _ _ _ (fu_tk 53) (fun g=>by kernel_rfl)
theorem Bah {Y:TY} (h:∀ p ∈ spT 107 Y,Plain Tryz.prog p.1∧C3 Tryz.prog p.1 p.2):Bc Tryz.prog 54 Ai9 (sm_tk 107 Y):=Hx (Aib h) 7 _ _ _ Aia _ _ _ _ (fu_tk 107) (fun g=>by kernel_rfl)
structure CT where
 bl:List (TCT A2)
 l:TCT A9
 c:TCT D3
 ps:Dss
 w:Int
 fl:Int
 t:Int
def tkE (k:CT) (i:Nat) (s:S2):S2⊕Int:=match mvF k.bl k.l k.t ((i+1:Nat):Int) k.bl.length s with
 | .inr e=>.inr e
 | .inl s1=>match seF k.bl k.c k.t ((i+1:Nat):Int) k.w k.fl k.bl.length s1 with
  | .inr e=>.inr e
  | .inl s2=>match buF k.bl k.c k.ps k.t ((i+1:Nat):Int) k.w k.fl k.bl.length (s2.1,s1.2.1,s2.2) with
   | .inr e=>.inr e
   | .inl s3=>.inl (s3.1,s1.2.1,s3.2)
theorem A5x {bl:List (TCT A2)} {l:TCT A9} {t st:Int} {n k:Nat} {s s':S2} (hs:Inv2 n k 0 s) (h:mvF bl l t st n s=.inl s'):Inv2 n (k+n) 0 s':=by
 unfold mvF at h
 cases h1:B8 (stE bl s.2.1) 0 n s.1 with
 | inr e=>rw [h1] at h;cases h
 | inl ms =>
  rw [h1] at h
  change B8 (lvE l t st) 0 n (ms,s.2.1,s.2.2)=.inl s' at h
  have hm:ms.length=n:=Bn (n:=n) (Inv:=fun _ (s:B5)=>s.length=n) Adz n 0 _ _ (by omega) hs.m h1
  have a:=Bn (n:=n) (Inv:=Inv2 n k) Asr n 0 (ms,s.2.1,s.2.2) s' (by omega) ⟨hm,hs.o,hs.k⟩ h
  exact ⟨a.m,a.o,by have:=a.k;omega⟩
theorem Aid {bl:List (TCT A2)} {c:TCT D3} {t st w fl:Int} {n k:Nat} {s:S2} {s':MK} (hn:n≤8) (hs:Inv2 n k 0 s) (h:seF bl c t st w fl n s=.inl s'):Inv2 n (k+64) 0 (s'.1,s.2.1,s'.2):=by
 unfold seF at h
 cases he:(seS bl c w fl n s).2.2.1 != 0 with
 | true=>rw [he] at h;cases h
 | false =>
  rw [he] at h
  cases h
  have a:=V9 (bl:=bl) (bc:=c) (w:=w) (fl:=fl) (s:=s) hn (bne_eq_false_iff_eq.1 he)
  have hk:=hs.k
  refine ⟨?_,hs.o,?_⟩
  ·show (scV _ _ _).length=n
   rw [Ai3];exact hs.m
  ·show (kpV _ _ _ _ _).length≤_
   rw [Ai5];have:=a.2.1;omega
theorem B1e {bl:List (TCT A2)} {c:TCT D3} {ps:Dss} {t st w fl:Int} {n k:Nat} {s:S2} {s':MK} (hs:Inv2 n k 0 s) (h:buF bl c ps t st w fl n s=.inl s'):Inv2 n (k+n*ps.length) 0 (s'.1,s.2.1,s'.2):=by
 unfold buF at h
 have hk:=hs.k
 have a:=Bn (n:=n) (Inv:=InvO n s.2.2.length ps.length) Atd n 0 _ _ (by omega) ⟨hs.m,by show s.2.2.length≤s.2.2.length+0*ps.length;omega⟩ h
 exact ⟨a.m,hs.o,by have:=a.k;show s'.2.length≤_;omega⟩
theorem A5y {k:CT} {k0 m:Nat} (hn:k.bl.length≤8) (hp:k.ps.length≤1000) (i:Nat) (s s':S2) (_:i<m) (hs:Inv2 k.bl.length (k0+i*8072) 0 s) (h:tkE k i s=.inl s'):Inv2 k.bl.length (k0+(i+1)*8072) 0 s':=by
 unfold tkE at h
 cases h1:mvF k.bl k.l k.t ((i+1:Nat):Int) k.bl.length s with
 | inr e=>rw [h1] at h;cases h
 | inl s1 =>
  rw [h1] at h
  have a:=A5x hs h1
  simp only at h
  cases h2:seF k.bl k.c k.t ((i+1:Nat):Int) k.w k.fl k.bl.length s1 with
  | inr e=>rw [h2] at h;cases h
  | inl s2 =>
   rw [h2] at h
   have b:=Aid hn a h2
   simp only at h
   cases h3:buF k.bl k.c k.ps k.t ((i+1:Nat):Int) k.w k.fl k.bl.length (s2.1,s1.2.1,s2.2) with
   | inr e=>rw [h3] at h;cases h
   | inl s3 =>
    rw [h3] at h
    cases h
    have c:=B1e b h3
    have d:k.bl.length*k.ps.length≤8*1000:=Nat.mul_le_mul hn hp
    exact ⟨c.m,c.o,by have:=c.k;simp only at this ⊢;omega⟩
def ctG (m:GM):CT:=⟨gmB m,gmL m,gmC m,gmP m,gmW m,gmF m,gmT m⟩
theorem B1f {x:GB} {i:Int} {s:S2} {k:Nat} (hsz:(x.1.1.size:Int)≤Bo .i64) (hn:nBx x.1≤8) (hs:Inv2 (nBx x.1) k 0 s) (hk:k≤900000):A97 (xS x i s)=some (mvF (gmB x.1) (gmL x.1) (gmT x.1) i (nBx x.1) s):=by
 have h:Ov (xS x i s)=true:=by
  have:=hs.k
  unfold Ov
  rw [Bool.and_eq_true,decide_eq_true_eq]
  exact ⟨Ej.2 ⟨hsz,hs.m,hs.o,hn⟩,by show s.2.2.length≤900000;omega⟩
 unfold A97;rw [h];rfl
theorem B1g {x:GB} {i:Int} {s:S2} {k:Nat} (hsz:(x.1.1.size:Int)≤Bo .i64) (hn:nBx x.1≤8) (hs:Inv2 (nBx x.1) k 0 s) (hk:k≤900000):Rj (xS x i s)=some (seF (gmB x.1) (gmC x.1) (gmT x.1) i (gmW x.1) (gmF x.1) (nBx x.1) s):=by
 have h:Ov (xS x i s)=true:=by
  have:=hs.k
  unfold Ov
  rw [Bool.and_eq_true,decide_eq_true_eq]
  exact ⟨Ej.2 ⟨hsz,hs.m,hs.o,hn⟩,by show s.2.2.length≤900000;omega⟩
 unfold Rj;rw [h];rfl
theorem B1h {x:GB} {i:Int} {s:S2} {k:Nat} (hsz:(x.1.1.size:Int)≤Bo .i64) (hn:nBx x.1≤8) (hp:(gmP x.1).length≤1000) (hs:Inv2 (nBx x.1) k 0 s) (hk:k≤900000):A9i (xS x i s)=some (buF (gmB x.1) (gmC x.1) (gmP x.1) (gmT x.1) i (gmW x.1) (gmF x.1) (nBx x.1) s):=by
 have h:A2e (xS x i s)=true:=by
  have:=hs.k
  unfold A2e Ov
  rw [Bool.and_eq_true,Bool.and_eq_true,decide_eq_true_eq,decide_eq_true_eq]
  exact ⟨⟨Ej.2 ⟨hsz,hs.m,hs.o,hn⟩,by show s.2.2.length≤900000;omega⟩,hp⟩
 unfold A9i;rw [h];rfl
def Ath (f:Nat) (x:GB) (i:Nat) (s:S2):(Aed f).T:=(((),()),xS x ((i+1:Nat):Int) s)
def Bg5 (f:Nat) (x:GB) (s:S2):A0 (A9j f):=⟨.exit 0,(((),()),xS x 17 s)⟩
def Zg (f:Nat) (x:GB):S2⊕Int→A0 (A9j f)
 | .inl s=>Bg5 f x s
 | .inr e=>B6g f e
theorem Bg6 (x:GB) (i j:Int) (s t:S2):xS (xS x i s) j t=xS x j t:=by
 unfold xS gmA
 rfl
theorem A9k {f:Nat} {x:GB} {i:Nat} {s:S2}:Aic f tyG (Ath f x i s)=Zf f tyG x ((i+1:Nat):Int) s:=by
 show Zf f tyG (xS x ((i+1:Nat):Int) s) ((i+1:Nat):Int) s=_
 unfold Zf
 simp only [Bg6]
theorem Bg7 {f:Nat} {x:GB} {s:S2} {k0:Nat} (hsz:(x.1.1.size:Int)≤Bo .i64) (hn:nBx x.1≤8) (hp:(gmP x.1).length≤1000) (hs:Inv2 (nBx x.1) k0 0 s) (hk0:k0≤700000) :
  iter (Aic f tyG) 17 (Ath f x 0 s)=some (Zg f x (B8 (tkE (ctG x.1)) 0 16 s)):=by
 refine Hk 16 (fun i s=>Ath f x i s) (tkE (ctG x.1)) (Zg f x) (fun i s=>Inv2 (nBx x.1) (k0+i*8072) 0 s) (fun i s hi hl=>?_) (fun i s s' hi hl h=>A5y (k:=ctG x.1) (k0:=k0) (m:=16) hn hp i s s' hi hl h) (fun s hl=>?_) 16 0 s (by omega) ⟨hs.m,hs.o,by have:=hs.k;omega⟩
 ·rw [A9k]
  have e1:=B1f (i:=((i+1:Nat):Int)) hsz hn (s:=s) hl (by omega)
  unfold Zf
  rw [decide_eq_true (show ((i+1:Nat):Int)≤16 by omega),cond_true]
  show (thY (A97 (xS x ((i+1:Nat):Int) s)) z2 (A3h f) fun s1=>thY (Rj (xS x ((i+1:Nat):Int) s1)) zM (A3h f) fun s2=>thY (A9i (xS x ((i+1:Nat):Int) (s2.1,s1.2.1,s2.2))) zM (A3h f) fun s3 =>
   .leaf (.inl (((),()),xS x (W64 (((i+1:Nat):Int)+1)) (s3.1,s1.2.1,s3.2)))).run=_
  unfold tkE
  change A97 (xS x ((i+1:Nat):Int) s)=some (mvF (ctG x.1).bl (ctG x.1).l (ctG x.1).t ((i+1:Nat):Int) (ctG x.1).bl.length s) at e1
  cases h1:mvF (ctG x.1).bl (ctG x.1).l (ctG x.1).t ((i+1:Nat):Int) (ctG x.1).bl.length s with
  | inr e=>rw [h1] at e1;rw [Qs e1];rfl
  | inl s1 =>
   rw [h1] at e1
   rw [Qr e1]
   have a:Inv2 (nBx x.1) (k0+i*8072+nBx x.1) 0 s1:=A5x hl h1
   have e2:=B1g (i:=((i+1:Nat):Int)) hsz hn (s:=s1) a (by omega)
   change Rj (xS x ((i+1:Nat):Int) s1)=some (seF (ctG x.1).bl (ctG x.1).c (ctG x.1).t ((i+1:Nat):Int) (ctG x.1).w (ctG x.1).fl (ctG x.1).bl.length s1) at e2
   simp only
   cases h2:seF (ctG x.1).bl (ctG x.1).c (ctG x.1).t ((i+1:Nat):Int) (ctG x.1).w (ctG x.1).fl (ctG x.1).bl.length s1 with
   | inr e=>rw [h2] at e2;rw [Qs e2];rfl
   | inl s2 =>
    rw [h2] at e2
    rw [Qr e2]
    have b:Inv2 (nBx x.1) (k0+i*8072+nBx x.1+64) 0 (s2.1,s1.2.1,s2.2):=Aid hn a h2
    have e3:=B1h (i:=((i+1:Nat):Int)) hsz hn hp (s:=(s2.1,s1.2.1,s2.2)) b (by omega)
    change A9i (xS x ((i+1:Nat):Int) (s2.1,s1.2.1,s2.2))=some (buF (ctG x.1).bl (ctG x.1).c (ctG x.1).ps (ctG x.1).t ((i+1:Nat):Int) (ctG x.1).w (ctG x.1).fl (ctG x.1).bl.length (s2.1,s1.2.1,s2.2)) at e3
    simp only
    cases h3:buF (ctG x.1).bl (ctG x.1).c (ctG x.1).ps (ctG x.1).t ((i+1:Nat):Int) (ctG x.1).w (ctG x.1).fl (ctG x.1).bl.length (s2.1,s1.2.1,s2.2) with
    | inr e=>rw [h3] at e3;rw [Qs e3];rfl
    | inl s3 =>
     rw [h3] at e3
     rw [Qr e3,Bi (by omega) (by omega)]
     rfl
 ·rw [A9k]
  rfl
end St
end V
end Go.Proofs.YtcfanlgpkefogaaGreat
namespace Go.Proofs.YtcfanlgpkefogaaGreat
open Go.RowKit
namespace V
namespace St
noncomputable def X_ti (f:Nat) (Y:TY):Ctx:=Ua Tryz.prog plGm [(54,Tryz.f54),(49,Tryz.f49)] [((54,4),sm_tk f Y)] (spT f Y)
theorem Aie {f:Nat} {Y:TY} (h:∀ p ∈ spT f Y,Plain Tryz.prog p.1∧C3 Tryz.prog p.1 p.2) (hl:Bc Tryz.prog 54 Ai9 (sm_tk f Y)):CtxOk (X_ti f Y) :=
 Gn Aw puGm (fns_cons is_gtick (fns_cons is_must A1)) (Bj (Jd (ds:=[Ai9]) (by kernel_rfl) ⟨Hh (k:=4) (by kernel_rfl) rfl hl,trivial⟩) (Bj (Br (by kernel_rfl)) Gk)) h
def A9l (f:Nat) (e:Int):TU f:=.leaf ⟨false,pnU f e⟩
def Bg8 (v:GB):GB:=(gmA v.1 (gmM v.1) (gmO v.1) (max 0 (W64 (gmF v.1-1))) (W64 (gmT v.1+1)) (gmS v.1),(gk v,()),())
def Bai (f:Nat) (y:Option (A0 (A9j f))):TU f:=bif isP 49 .i64 y then A9l f (panO 49 .i64 y).1 else bif isE (.exit 0) y then .leaf ⟨true,((),Bg8 (D4 (.exit 0) y).2)⟩ else .fail
def Baj (f:Nat) (Y:TY) (x:GB) (ms:B5):Option (A0 (A9j f)):=iter (Aic f Y) 17 (((),()),xS x 1 (ms,gmO x.1,gk x))
def T_ti (f:Nat) (Y:TY) (x:GB):TU f:=bif gmT x.1==4000 then A9l f 3 else thY (Y.s x) [] (A9l f) fun ms=>Bai f (Baj f Y x ms)
def slE (l:TCT A9) (os:List Bool) (w fl:Int) (i:Nat) (ms:B5):B5⊕Int :=
 bif !Cp ms os i||Ff w fl i then .inl ms else bif Fy l (A8 ms i).1 != 0 then .inr (Fy l (A8 ms i).1) else
 bif (Ld l (A8 ms i)).2.1 != 0 then .inr 4 else .inl (By ms i (A2c l (A8 ms i)))
def tkF (k:CT) (s:S2):S2⊕Int:=bif k.t==4000 then .inr 3 else match B8 (slE k.l s.2.1 k.w k.fl) 0 k.bl.length s.1 with
 | .inr e=>.inr e
 | .inl ms=>B8 (tkE k) 0 16 (ms,s.2.1,s.2.2)
def A2f (x:GB):Bool:=A2e x&&decide ((gk x).length≤700000)
theorem A9m {x:GB} (h:A2f x=true):OkGM x.1∧(gk x).length≤700000∧(gmP x.1).length≤1000:=by
 unfold A2f at h
 simp only [Bool.and_eq_true,decide_eq_true_eq] at h
 have a:=A9h h.1
 exact ⟨a.1,h.2,a.2.2⟩
def Jo (x:GB):Option (S2⊕Int):=bif A2f x then some (tkF (ctG x.1) (gs x)) else none
def xT (x:GB) (s:S2):GB:=(gmA x.1 s.1 s.2.1 (max 0 (W64 (gmF x.1-1))) (W64 (gmT x.1+1)) 17,(s.2.2,()),())
def Bkf {β:Type} (m:GM) (ms:B5) (os:List Bool) (k:GM→β):β:=match m with
 | (a0,a1,a2,a3,a4,a5,a6,a7,a8,a9,a10,a11,a12,a13,a14,_,_,a17,a18,a19,_,a21,_)=>k (a0,a1,a2,a3,a4,a5,a6,a7,a8,a9,a10,a11,a12,a13,a14,ms,os,a17,max 0 (W64 (a18-1)),W64 (a19+1),17,a21,())
def Bg9 (f:Nat) (x:GB) (s:S2) (k:(FE_u f true).T→Tree (Ev (FE_u f))):Tree (Ev (FE_u f)):=Bkf x.1 s.1 s.2.1 fun m=>k ((),(m,(s.2.2,()),()))
def Bak (f:Nat) (x:GB) (s:S2):(FE_u f true).T:=((),xT x s)
theorem Aif {f:Nat} (Y:Y2):(Wb (L:=FL_g f) (E:=FE_u f) (fun g=>Y g.2) (fun g=>Bg9 f g.2) (pnU f) ([],[],[]))=(Yx (L:=FL_g f) (E:=FE_u f) (fun g=>Y g.2) (fun g=>Bak f g.2) (pnU f) ([],[],[])):=rfl
abbrev spYT (f:Nat) (Y:Y2):SPf:=Ly M6 (FL_g f) (FE_u f) (Wb (fun g:(FL_g f).T=>Y g.2) (fun g=>Bg9 f g.2) (pnU f) ([],[],[]))
theorem Ati {f:Nat} {g:(FL_g f).T} {z:S2⊕Int} (h:Jo g.2=some z):(T_ti f tyG g.2).run=some (A2b (L:=FL_g f) (E:=FE_u f) (fun g=>Bak f g.2) (pnU f) g z):=by
 unfold Jo at h
 cases ho:A2f g.2 with
 | false=>rw [ho] at h;cases h
 | true =>
  rw [ho] at h
  cases h
  obtain ⟨hg,hk,hp⟩:=A9m ho
  unfold T_ti tkF
  show Tree.run (bif gmT g.2.1==4000 then A9l f 3 else thY (Z0 g.2) [] (A9l f) fun ms=>Bai f (Baj f tyG g.2 ms))=some (A2b (L:=FL_g f) (E:=FE_u f) (fun g=>Bak f g.2) (pnU f) g (bif gmT g.2.1==4000 then .inr 3 else match B8 (slE (gmL g.2.1) (gmO g.2.1) (gmW g.2.1) (gmF g.2.1)) 0 (nBx g.2.1) (gmM g.2.1) with
   | .inr e=>.inr e
   | .inl ms=>B8 (tkE (ctG g.2.1)) 0 16 (ms,gmO g.2.1,gk g.2)))
  cases gmT g.2.1==4000 with
  | true=>rfl
  | false =>
   simp only [cond_false]
   have e1:Z0 g.2=some (B8 (slE (gmL g.2.1) (gmO g.2.1) (gmW g.2.1) (gmF g.2.1)) 0 (nBx g.2.1) (gmM g.2.1)):=by
    unfold Z0
    rw [Ej.2 hg]
    rfl
   cases h1:B8 (slE (gmL g.2.1) (gmO g.2.1) (gmW g.2.1) (gmF g.2.1)) 0 (nBx g.2.1) (gmM g.2.1) with
   | inr e=>rw [h1] at e1;rw [Qs e1];rfl
   | inl ms =>
    rw [h1] at e1
    rw [Qr e1]
    have hms:ms.length=nBx g.2.1:=Bn (n:=nBx g.2.1) (Inv:=fun _ (s:B5)=>s.length=nBx g.2.1) (fun i s s' hi hl h=>Ash (m:=g.2.1) i s s' hi hl h) (nBx g.2.1) 0 _ _ (by omega) hg.ms h1
    have hy:Baj f tyG g.2 ms=some (Zg f g.2 (B8 (tkE (ctG g.2.1)) 0 16 (ms,gmO g.2.1,gk g.2))):=Bg7 (x:=g.2) (s:=(ms,gmO g.2.1,gk g.2)) (k0:=(gk g.2).length) hg.sz hg.n hp ⟨hms,hg.os,by show (gk g.2).length≤(gk g.2).length+0;omega⟩ hk
    rw [hy]
    simp only
    cases B8 (tkE (ctG g.2.1)) 0 16 (ms,gmO g.2.1,gk g.2) with
    | inl s=>rfl
    | inr e =>
     have h1:isP 49 .i64 (some (Zg f g.2 (.inr e)))=true:=Pt
     have h2:panO 49 .i64 (some (Zg f g.2 (.inr e)))=⟨e,((),())⟩:=Kj
     unfold Bai
     rw [h1,h2]
     rfl
theorem Bal (Y:TY) (g:(FL_g 53).T):P9 (X_ti 53 Y) (E1 (X_ti 53 Y) 6) 54 (ofKs (FL_g 53).ks g.1 (FL_g 53).nx) ((FL_g 53).lay.hp g) ((FL_g 53).lay.of g).nx (X0 (FE_u 53))=T_ti 53 Y g.2:=by kernel_rfl
theorem B1i:C3 Tryz.prog 54 (spYT 53 Jo):=by
 rw [spYT,Aif]
 exact Ko (Aie B6e (Bag B6e)) 6 I2 _ _ _ _ (fun g=>T_ti 53 tyG g.2) (Bal tyG) fun _ _ _ h=>Ati h
theorem Bam (Y:TY) (g:(FL_g 107).T):P9 (X_ti 107 Y) (E1 (X_ti 107 Y) 6) 54 (ofKs (FL_g 107).ks g.1 (FL_g 107).nx) ((FL_g 107).lay.hp g) ((FL_g 107).lay.of g).nx (X0 (FE_u 107))=T_ti 107 Y g.2:=by kernel_rfl
theorem B1j:C3 Tryz.prog 54 (spYT 107 Jo):=by
 rw [spYT,Aif]
 exact Ko (Aie B6f (Bah B6f)) 6 I2 _ _ _ _ (fun g=>T_ti 107 tyG g.2) (Bam tyG) fun _ _ _ h=>Ati h
end St
end V
end Go.Proofs.YtcfanlgpkefogaaGreat
namespace Go.Proofs.YtcfanlgpkefogaaGreat
open Go.RowKit
namespace V
theorem Ft {S B:Type} {f:Nat→S→S⊕B}:∀ (k i:Nat) (s:S) (b:B),B8 f i k s=.inr b→∃ j t,f j t=.inr b
 | 0,_,_,_,h=>by cases h
 | k+1,i,s,b,h=>by
  unfold B8 at h
  cases hf:f i s with
  | inl t=>rw [hf] at h;exact Ft k (i+1) t b h
  | inr c=>rw [hf] at h;cases h;exact ⟨i,s,hf⟩
namespace St
theorem is_sTick:FnIs Tryz.prog (14,Tryz.f14):=⟨Tryz.func14,by kernel_rfl,by kernel_rfl⟩
theorem is_newGame:FnIs Tryz.prog (45,Tryz.f45):=⟨Tryz.func45,by kernel_rfl,by kernel_rfl⟩
theorem is_sTry:FnIs Tryz.prog (47,Tryz.f47):=⟨Tryz.func47,by kernel_rfl,by kernel_rfl⟩
theorem is_sTry1:FnIs Tryz.prog (97,Tryz.f97):=⟨Tryz.func97,by kernel_rfl,by kernel_rfl⟩
theorem is_clMot:FnIs Tryz.prog (95,Tryz.f95):=⟨Tryz.func95,by kernel_rfl,by kernel_rfl⟩
theorem is_clBool:FnIs Tryz.prog (96,Tryz.f96):=⟨Tryz.func96,by kernel_rfl,by kernel_rfl⟩
theorem Ban {l:TCT A9} {os:List Bool} {w fl:Int} {i:Nat} {ms:B5} {e:Int} (h:slE l os w fl i ms=.inr e):e≠0:=by
 unfold slE at h
 cases h1:!Cp ms os i||Ff w fl i with
 | true=>rw [h1] at h;cases h
 | false =>
  rw [h1] at h
  cases h2:Fy l (A8 ms i).1 != 0 with
  | true=>rw [h2] at h;cases h;exact bne_iff_ne.1 h2
  | false =>
   rw [h2] at h
   cases h3:(Ld l (A8 ms i)).2.1 != 0 with
   | true=>rw [h3] at h;cases h;decide
   | false=>rw [h3] at h;cases h
theorem Bao {bl:List (TCT A2)} {os:List Bool} {i:Nat} {ms:B5} {e:Int} (h:stE bl os i ms=.inr e):e≠0:=by
 unfold stE at h
 cases h1:!Cp ms os i with
 | true=>rw [h1] at h;cases h
 | false =>
  rw [h1] at h
  cases h3:(Mh (F2 bl i) (A8 ms i)).2.1 != 0 with
  | true=>rw [h3] at h;cases h;exact bne_iff_ne.1 h3
  | false=>rw [h3] at h;cases h
theorem Bap {bl:List (TCT A2)} {l:TCT A9} {t st:Int} {n:Nat} {s:S2} {e:Int} (h:mvF bl l t st n s=.inr e):e≠0:=by
 unfold mvF at h
 cases h1:B8 (stE bl s.2.1) 0 n s.1 with
 | inr e' =>
  rw [h1] at h
  cases h
  obtain ⟨j,t,hj⟩:=Ft _ _ _ _ h1
  exact Bao hj
 | inl ms =>
  rw [h1] at h
  obtain ⟨s',hs'⟩:=V7 (Ahy (l:=l) (t:=t) (st:=st)) n 0 (ms,s.2.1,s.2.2)
  change B8 (lvE l t st) 0 n (ms,s.2.1,s.2.2)=.inr e at h
  rw [hs'] at h
  cases h
theorem A5z {bl:List (TCT A2)} {c:TCT D3} {t st w fl:Int} {n:Nat} {s:S2} {e:Int} (h:seF bl c t st w fl n s=.inr e):e≠0:=by
 unfold seF at h
 cases he:(seS bl c w fl n s).2.2.1 != 0 with
 | true=>rw [he] at h;cases h;exact bne_iff_ne.1 he
 | false=>rw [he] at h;cases h
theorem Baq {b:TCT A2} {c:TCT D3} {ps:Dss} {os:List Bool} {w fl t st:Int} {i k:Nat} {s:MK} {e:Int} (h:bpE b c ps os w fl t st i k s=.inr (.inr e)):e≠0:=by
 unfold bpE at h
 cases h1:!Cp s.1 os i||Ff w fl i with
 | true=>rw [h1] at h;cases h
 | false =>
  rw [h1] at h
  cases h2:(bmV b (A8 s.1 i) (E6 ps k) c).2.1==0 with
  | true=>rw [h2] at h;cases h
  | false =>
   rw [h2] at h
   cases h3:(bmV b (A8 s.1 i) (E6 ps k) c).2.1==4 with
   | true =>
    rw [h3] at h
    cases h
    exact beq_eq_false_iff_ne.1 h2
   | false=>rw [h3] at h;cases h
theorem Bar {bl:List (TCT A2)} {c:TCT D3} {ps:Dss} {t st w fl:Int} {n:Nat} {s:S2} {e:Int} (h:buF bl c ps t st w fl n s=.inr e):e≠0:=by
 unfold buF at h
 obtain ⟨j,u,hj⟩:=Ft _ _ _ _ h
 unfold boE at hj
 cases hf:B8 (bpE (F2 bl j) c ps s.2.1 w fl t st j) 0 ps.length u with
 | inl a=>rw [hf] at hj;cases hj
 | inr y =>
  rw [hf] at hj
  obtain ⟨k,v,hk⟩:=Ft _ _ _ _ hf
  have:y=.inr e:=hj
  subst this
  exact Baq hk
theorem Bas {k:CT} {i:Nat} {s:S2} {e:Int} (h:tkE k i s=.inr e):e≠0:=by
 unfold tkE at h
 cases h1:mvF k.bl k.l k.t ((i+1:Nat):Int) k.bl.length s with
 | inr e'=>rw [h1] at h;cases h;exact Bap h1
 | inl s1 =>
  rw [h1] at h
  simp only at h
  cases h2:seF k.bl k.c k.t ((i+1:Nat):Int) k.w k.fl k.bl.length s1 with
  | inr e'=>rw [h2] at h;cases h;exact A5z h2
  | inl s2 =>
   rw [h2] at h
   simp only at h
   cases h3:buF k.bl k.c k.ps k.t ((i+1:Nat):Int) k.w k.fl k.bl.length (s2.1,s1.2.1,s2.2) with
   | inr e'=>rw [h3] at h;cases h;exact Bar h3
   | inl s3=>rw [h3] at h;cases h
theorem Aee {k:CT} {s:S2} {e:Int} (h:tkF k s=.inr e):e≠0:=by
 unfold tkF at h
 cases h0:k.t==4000 with
 | true=>rw [h0] at h;cases h;decide
 | false =>
  rw [h0] at h
  simp only [cond_false] at h
  cases h1:B8 (slE k.l s.2.1 k.w k.fl) 0 k.bl.length s.1 with
  | inr e' =>
   rw [h1] at h
   cases h
   obtain ⟨j,t,hj⟩:=Ft _ _ _ _ h1
   exact Ban hj
  | inl ms =>
   rw [h1] at h
   obtain ⟨j,t,hj⟩:=Ft _ _ _ _ h
   exact Bas hj
def ctS (g:TCT cGr) (s:TCT cSt):CT:=⟨A3 g,g.1,g.2.2.1,Fe g.1,s.2.2.1,s.2.2.2.1,s.2.2.2.2.1⟩
abbrev TkR:Type:=TCTs [cSt,.sl cKn,cI]
def I3 (e:Int):TkR:=(zS,[],e,())
def tkR (s:TCT cSt):S2⊕Int→TkR
 | .inl r=>((r.1,r.2.1,s.2.2.1,max 0 (W64 (s.2.2.2.1-1)),W64 (s.2.2.2.2.1+1),()),r.2.2,0,())
 | .inr e=>I3 e
def tkV (g:TCT cGr) (s:TCT cSt):TkR:=tkR s (tkF (ctS g s) (msT s,osT s,[]))
def TickV (g:TCT cGr) (s:TCT cSt):TkR:=bif Db g s != 0 then I3 (Db g s) else tkV g s
def Zh (r:TkR):TkR:=(etaS r.1,r.2.1,r.2.2.1,())
abbrev B1k:PureT:=Bz [cGr,cSt] [cSt,.sl cKn,cI] (fun x=>decide ((x.1.1.1.size:Int)≤Bo .i64)) (fun x=>Zh (TickV x.1 x.2.1))
abbrev TTR:=Tree TkR
def gT (g:TCT cGr) (s:TCT cSt):GB:=((g.1.1,g.1.2.1,g.1.2.2.1,g.1.2.2.2.1,g.1.2.2.2.2.1,g.1.2.2.2.2.2.1.1.1,g.1.2.2.2.2.2.1.1.2.1,g.1.2.2.2.2.2.1.2.1,g.1.2.2.2.2.2.2.1,g.1.2.2.2.2.2.2.2.1,g.1.2.2.2.2.2.2.2.2.1,g.2.1,g.2.2.1.1,g.2.2.1.2.1,Fe g.1,([]++s.1),([]++s.2.1),s.2.2.1,s.2.2.2.1,s.2.2.2.2.1,0,((),(),()),()),([],()),())
def neT {β:Type} {c:Type} (l:List c) (k:Tree β):Tree β:=bif !List.isEmpty l then k else .fail
theorem Ow {β:Type} {c:Type} {l:List c} {k:Tree β} (h:1≤l.length):neT l k=k:=by
 cases l with
 | nil=>simp at h
 | cons _ _=>rfl
def acT {β:Type} {c:Type} (l:List c) (b:Nat) (k:Tree β):Tree β:=bif Eu [] l b then k else .fail
theorem Ox {β:Type} {c:Type} {l:List c} {b:Nat} {k:Tree β} (h:l.length≤1000) (hb:b≤48):acT l b k=k:=by
 unfold acT
 rw [Ng (by simp;omega) hb];rfl
def B1l (Y:Y2) (g:TCT cGr) (s:TCT cSt):TTR:=szT g.1 (bif Db g s != 0 then .leaf (I3 (Db g s)) else szT g.1 (neT (msT s) (acT (msT s) 48 (neT (osT s) (acT (osT s) 1 (
 thY (Y (gT g s)) z2 (fun e=>bif e != 0 then .leaf (I3 e) else .fail) fun r=>.leaf (tkR s (.inl r))))))))
abbrev plTk:List (Nat×PureT):=(25,A5i)::plGm
theorem puTk:De Tryz.prog plTk:=puOk_cons is_Posts.plain Aha puGm
noncomputable def Bkg:List (Nat×Func):=[(14,Tryz.f14),(45,Tryz.f45),(47,Tryz.f47),(97,Tryz.f97),(95,Tryz.f95),(96,Tryz.f96)]
noncomputable def Bga (Y:Y2):Ctx:=Ua Tryz.prog plTk Bkg [] [(54,spYT 53 Y)]
theorem B1m (Y:Y2) (x:TCTs [cGr,cSt]):E1 (Bga Y) 8 (.fn 14) (Eg [cGr,cSt] x) Ck 0 (If Tryz.prog [cSt,.sl cKn,cI])=B1l Y x.1 x.2.1:=by kernel_rfl
theorem B1n:CtxOk (Bga Jo):=Gn Aw puTk (fns_cons is_sTick (fns_cons is_newGame (fns_cons is_sTry (fns_cons is_sTry1 (fns_cons is_clMot (fns_cons is_clBool A1)))))) K7 (fun p hp=>by
 rw [List.mem_singleton] at hp;subst hp;exact ⟨is_gtick.plain,B1i⟩)
theorem Zi {l:TCT A9}:(Fe l).length≤25:=by
 unfold Fe
 cases h:Co l==0 with
 | false=>show (0:Nat)≤25;omega
 | true =>
  have k:Co l=0:=beq_iff_eq.1 h
  have hh:(Be l).length≤12:=by
   unfold Co O3 at k
   cases h1:decide (((Be l).length:Int)<1)||(decide (((Be l).length:Int)>12)||decide (((Dx l).length:Int)>256)) with
   | true=>rw [h1] at k;cases k
   | false =>
    simp only [Bool.or_eq_false_iff,decide_eq_false_iff_not] at h1
    omega
  show (Cd l).length≤25
  rw [A3b]
  omega
structure StaOk (g:TCT cGr) (s:TCT cSt):Prop where
 gr:groE g=0
 n1:1≤(A3 g).length
 n8:(A3 g).length≤8
 m:(msT s).length=(A3 g).length
 o:(osT s).length=(A3 g).length
 ok:I0 (okS g (osT s)) 0 (msT s)=true
 num:A28 (A3 g).length s=false
theorem Zj {g:TCT cGr} {s:TCT cSt} (h:Db g s=0):StaOk g s:=by
 unfold Db at h
 cases h1:groE g != 0 with
 | true=>rw [h1,cond_true] at h;exact absurd h (bne_iff_ne.1 h1)
 | false =>
  have hg:groE g=0:=bne_eq_false_iff_eq.1 h1
  rw [h1,cond_false] at h
  unfold vaE at h
  cases h2:Yr g s with
  | false=>rw [h2] at h;cases h
  | true =>
   rw [h2,cond_true] at h
   cases h3:I0 (okS g (osT s)) 0 (msT s) with
   | false=>rw [h3] at h;cases h
   | true =>
    rw [h3,cond_true] at h
    cases h4:A28 (A3 g).length s with
    | true=>rw [h4] at h;cases h
    | false =>
     have a:=Ahl hg
     have b:=Ys h2
     exact ⟨hg,a.1,a.2,b.1,b.2,h3,h4⟩
theorem Aig {g:TCT cGr} {s:TCT cSt} (hs:(g.1.1.size:Int)≤Bo .i64) (h:StaOk g s):A2f (gT g s)=true:=by
 unfold A2f A2e Ov
 simp only [Bool.and_eq_true,decide_eq_true_eq]
 refine ⟨⟨⟨Ej.2 ⟨hs,?_,?_,h.n8⟩,by show (0:Nat)≤900000;omega⟩,?_⟩,by show (0:Nat)≤700000;omega⟩
 ·show ([]++s.1:B5).length=(A3 g).length
  rw [List.nil_append];exact h.m
 ·show ([]++s.2.1:List Bool).length=(A3 g).length
  rw [List.nil_append];exact h.o
 ·have:=Zi (l:=g.1)
  show (Fe g.1).length≤1000
  omega
theorem B1o {g:TCT cGr} {s:TCT cSt} (hs:(g.1.1.size:Int)≤Bo .i64) (h:StaOk g s):Jo (gT g s)=some (tkF (ctS g s) (msT s,osT s,[])):=by
 unfold Jo
 rw [Aig hs h]
 rfl
theorem B1p {g:TCT cGr} {s:TCT cSt} (hs:(g.1.1.size:Int)≤Bo .i64):(B1l Jo g s).sat (fun y=>y=Zh (TickV g s)):=by
 unfold B1l TickV
 rw [Dh hs,Dh hs]
 cases h1:Db g s != 0 with
 | true=>exact rfl
 | false =>
  have h:=Zj (bne_eq_false_iff_eq.1 h1)
  have hn1:=h.n1
  have hn8:=h.n8
  have hm:=h.m
  have ho:=h.o
  simp only [cond_false]
  rw [Ow (by omega),Ox (by omega) (by decide),Ow (by omega),Ox (by omega) (by decide)]
  have hy:=B1o hs h
  unfold tkV
  cases hf:tkF (ctS g s) (msT s,osT s,[]) with
  | inl r=>rw [hf] at hy;rw [Qr hy];exact rfl
  | inr e =>
   rw [hf] at hy
   rw [Qs hy,show (e != 0)=true from bne_iff_ne.2 (Aee hf)]
   exact rfl
theorem Aih:A5 Tryz.prog 14 B1k:=C5 B1n 8 (fun x=>B1l Jo x.1 x.2.1) (B1m Jo) fun x hok _=>B1p (of_decide_eq_true hok)
end St
end V
end Go.Proofs.YtcfanlgpkefogaaGreat
namespace Go.Proofs.YtcfanlgpkefogaaGreat
open Go.RowKit
namespace V
namespace St
theorem is_sStrike:FnIs Tryz.prog (11,Tryz.f11):=⟨Tryz.func11,by kernel_rfl,by kernel_rfl⟩
def ex2:B5:=[((50000,60106,()),(0,190000,()),(0,-12800,()),()),((80000,60000,()),(0,0,()),(0,0,()),())]
end St
end V
end Go.Proofs.YtcfanlgpkefogaaGreat
namespace Go.Proofs.YtcfanlgpkefogaaGreat
open Go.RowKit
namespace V
namespace St
def Ayz (a b:TCT Bg):Bool:=(a.1.1==b.1.1&&(a.1.2.1==b.1.2.1&&true))&&((a.2.1.1==b.2.1.1&&(a.2.1.2.1==b.2.1.2.1&&true))&&((a.2.2.1.1==b.2.2.1.1&&(a.2.2.1.2.1==b.2.2.1.2.1&&true))&&true))
end St
end V
end Go.Proofs.YtcfanlgpkefogaaGreat
