import Derived.Test.YtcfanlgpkefogaaGreatBA
namespace Go.Proofs.YtcfanlgpkefogaaGreat
open Go.RowKit
namespace V
namespace St
noncomputable def Bg0:Code:=(As (bodyOf Tryz.f13)).getD 0 .skip
abbrev kPt:List SK:=[.d cI,.d cI]
def A9l:Lay:={ keys:=[4,17,18,19],ks:=[.p 2 0 0 0,.d (.sl Bd),.d cI,.d cI],bs:=[(2,31,kPt)],n:=39,nx:=1000,marks:=[] }
def Bkp:Lay:={ keys:=[4],ks:=[.p 2 0 0 0],bs:=[(2,31,kPt)],n:=39,nx:=1000,marks:=[] }
def A5x:XE→Lay:=fun _=>Bkp
def Atc (m:List (TCT Bd)) (n i:Int) (p:SKTs kPt):A9l.T:=(((),m,n,i,()),(p,()))
def Atd (p:SKTs kPt):A1 A5x:=⟨.exit 0,(((),()),(p,()))⟩
def Ate (p:SKTs kPt) (m:TCT Bd):SKTs kPt:=(W64 (p.1+m.2.1.1),W64 (p.2.1+m.2.1.2.1),())
def Zf (m:List (TCT Bd)) (n i:Int) (p:SKTs kPt):Tree (A9l.T⊕A1 A5x):=bif decide (i<n) then inN m.length i (.leaf (.inl (Atc m n (W64 (i+1)) (Ate p (Bc m (Int.toNat i) (B7 Bd)))))) else .leaf (.inr (Atd p))
def Aik (g:A9l.T):Tree (A9l.T⊕A1 A5x):=Zf g.1.2.1 g.1.2.2.1 g.1.2.2.2.1 g.2.1
def Atf (g:A9l.T):Nat:=(g.1.2.1:List (TCT Bd)).length+1
theorem Bkq:Bb Tryz.prog 13 Bg0 (B8 A9l A5x (Dy [.exit 0] Aik Atf)):=Br (B5 Aw puS1 A0) 7 _ A9l A5x (fun e=>by cases e <;> exact Nat.le_refl _) [.exit 0] Aik Atf (fun g=>by kernel_rfl)
def Aeb (m:List (TCT Bd)) (i:Nat) (p:SKTs kPt):SKTs kPt⊕Unit:=.inl (Ate p (Bc m i (B7 Bd)))
def p0:SKTs kPt:=(0,0,())
def gP:SKTs kPt⊕Unit→SKTs kPt
 | .inl p=>p
 | .inr _=>p0
def Ba9 (r:SKTs kPt⊕Unit):A1 A5x:=Atd (gP r)
def Zg (m:List (TCT Bd)):SKTs kPt:=gP (B6 (Aeb m) 0 m.length p0)
def Bg1 (s:TCT cSt):Option (A1 A5x):=iter Aik ((msT s).length+1) (Atc s.1 (msT s).length 0 p0)
theorem B1r {s:TCT cSt} (hm:((msT s).length:Int)≤Bl .i64):Bg1 s=some (Atd (Zg (msT s))):=by
 refine Hz (msT s).length (fun i p=>Atc s.1 (msT s).length i p) (Aeb (msT s)) Ba9 (fun _ _=>True) (fun i p hi _=>?_) (fun _ _ _ _ _ _=>trivial) (fun p _=>?_) (msT s).length 0 p0 (by omega) trivial
 ·show (Zf (msT s) (msT s).length (i:Int) p).run=_
  unfold Zf Aeb
  rw [decide_eq_true (show (i:Int)<((msT s).length:Int) by omega),Dd (by omega),show Int.toNat (i:Int)=i from rfl,El hi hm]
  rfl
 ·show (Zf (msT s) (msT s).length ((msT s).length:Int) p).run=_
  unfold Zf
  rw [decide_eq_false (show ¬ ((msT s).length:Int)<((msT s).length:Int) by omega)]
  rfl
abbrev TPe:=Tree (TCTs [cPt,cI])
def lfP (p:SKTs kPt) (e:Int):TPe:=.leaf ((p.1,p.2.1,()),e,())
def Bkr (y:Option (A1 A5x)):TPe:=bif isE (.exit 0) y then lfP (D4 (.exit 0) y).2.1 0 else .fail
def totR (g:TCT cGr) (s:TCT cSt):SKTs kPt:=bif Fp g s != 0 then p0 else Zg (msT s)
abbrev Bg2:PureT:=Bv [cGr,cSt] [cPt,cI] (fun x=>decide ((x.1.1.1.size:Int)≤Bl .i64)) (fun x=>(((totR x.1 x.2.1).1,(totR x.1 x.2.1).2.1,()),Fp x.1 x.2.1,()))
theorem B1s {g:TCT cGr} {s:TCT cSt} {k:TPe} (h:k=lfP (Zg (msT s)) 0):(bif Fp g s != 0 then lfP p0 (Fp g s) else k).sat (fun y=>y=(((totR g s).1,(totR g s).2.1,()),Fp g s,())):=by
 unfold totR
 cases hs:Fp g s != 0 with
 | true=>exact rfl
 | false =>
  have:=bne_eq_false_iff_eq.1 hs
  simp only [cond_false]
  rw [this,h]
  exact rfl
noncomputable def Bks:Ctx:=I7 Tryz.prog plS4 [(13,Tryz.f13)] [((13,5),B8 A9l A5x (Dy [.exit 0] Aik Atf))]
theorem B1t:CtxOk Bks:=Cp Aw puS4 (fns_cons is_sTotal A0) (Cc (by kernel_rfl) (by kernel_rfl) Bkq)
theorem A9m:A7 Tryz.prog 13 Bg2:=C0 B1t 7 (fun x=>szT x.1.1 (bif Fp x.1 x.2.1 != 0 then lfP p0 (Fp x.1 x.2.1) else Bkr (Bg1 x.2.1))) (fun x=>by kernel_rfl) fun x hok hw=>by
 rw [Dg (of_decide_eq_true hok)]
 refine B1s ?_
 rw [B1r (G9 hw.2.1.1)]
 rfl
end St
end V
end Go.Proofs.YtcfanlgpkefogaaGreat
namespace Go.Proofs.YtcfanlgpkefogaaGreat
open Go.RowKit
namespace V
def isL {A B:Type}:Option (A⊕B)→Bool
 | some (.inl _)=>true
 | _=>false
def isR {A B:Type}:Option (A⊕B)→Bool
 | some (.inr _)=>true
 | _=>false
def gL {A B:Type} (d:A):Option (A⊕B)→A
 | some (.inl a)=>a
 | _=>d
def gR {A B:Type} (d:B):Option (A⊕B)→B
 | some (.inr b)=>b
 | _=>d
def FLay.dfl (F:FLay):F.T:=(dflKs F.ks,Bdy F.bs)
theorem Zh {α:Type} {t:Tree α} {R S:α→Prop} (h:t.sat R) (k:∀ x,R x→S x):t.sat S:=by
 induction t with
 | leaf a=>exact k a h
 | need p t ih=>exact ⟨h.1,ih h.2⟩
 | br c t e i1 i2=>exact ⟨fun x=>i1 (h.1 x),fun x=>i2 (h.2 x)⟩
 | fail=>exact h
def Baa {L:FLay} {E:Bool→FLay} (c:L.T→Bool) (r:L.T→(E true).T) (g:L.T):Tree (En E):=.br (c g) (.leaf ⟨true,r g⟩) .fail
theorem Ve {X:Ctx} (hX:CtxOk X) {f:FuncId} (m:Nat) {probe:B0→List AV→Option (List Nat)} {L:FLay} {E:Bool→FLay} (hE:∀ b,L.nx≤(E b).nx) (c:L.T→Bool) (r:L.T→(E true).T) (T:L.T→Tree (En E))
  (he:∀ g,P1 X (Dx X m) f (ofKs L.ks g.1 L.nx) (L.lay.hp g) (L.lay.of g).nx (Xa E)=T g)
  (h:∀ g,L.lay.WF g→c g=true→(T g).run=some ⟨true,r g⟩):C2 X.P f (Ll probe L E (Baa c r)) :=
 Ac7 hX m hE fun g R hw hf=>by
  rw [he]
  cases hc:c g with
  | false=>exact (hf.2 hc).elim
  | true=>exact Zh (Tree.sat_run (h g hw hc) (hf.1 hc)) fun x hx _=>hx
namespace St
theorem is_rolls:FnIs Tryz.prog (137,Tryz.f137):=⟨Tryz.func137,by kernel_rfl,by kernel_rfl⟩
theorem is_flies:FnIs Tryz.prog (98,Tryz.f98):=⟨Tryz.func98,by kernel_rfl,by kernel_rfl⟩
theorem is_knock:FnIs Tryz.prog (100,Tryz.f100):=⟨Tryz.func100,by kernel_rfl,by kernel_rfl⟩
theorem is_must:FnIs Tryz.prog (49,Tryz.f49):=⟨Tryz.func49,by kernel_rfl,by kernel_rfl⟩
theorem is_gslow:FnIs Tryz.prog (101,Tryz.f101):=⟨Tryz.func101,by kernel_rfl,by kernel_rfl⟩
theorem is_gmove:FnIs Tryz.prog (102,Tryz.f102):=⟨Tryz.func102,by kernel_rfl,by kernel_rfl⟩
theorem is_gsettle:FnIs Tryz.prog (50,Tryz.f50):=⟨Tryz.func50,by kernel_rfl,by kernel_rfl⟩
theorem is_gbump:FnIs Tryz.prog (103,Tryz.f103):=⟨Tryz.func103,by kernel_rfl,by kernel_rfl⟩
theorem is_gtick:FnIs Tryz.prog (54,Tryz.f54):=⟨Tryz.func54,by kernel_rfl,by kernel_rfl⟩
theorem is_Tick1:FnIs Tryz.prog (53,Tryz.f53):=⟨Tryz.func53,by kernel_rfl,by kernel_rfl⟩
theorem is_Strike1:FnIs Tryz.prog (46,Tryz.f46):=⟨Tryz.func46,by kernel_rfl,by kernel_rfl⟩
theorem is_run1:FnIs Tryz.prog (107,Tryz.f107):=⟨Tryz.func107,by kernel_rfl,by kernel_rfl⟩
abbrev kGm (f:Nat):List SK:=[.d .s,.d cI,.d cI,.d cI,.d (.sl C9),.d cI,.d cI,.d cI,.d cI,.d cI,.d (.sl De),.d (.sl A3),.d cI,.d cI,.d (.sl A2),.w 2 60 Bd,.o 4 .b,.d cI,.d cI,.d cI,.d cI,.f f [] [.p 1 0 0 0]]
abbrev bsG (f:Nat):List BK:=[(0,137,kGm f),(1,48,[.o 58 cKn])]
abbrev GM:Type:=SKTs (kGm 0)
abbrev Kns:Type:=List (TCT cKn)
abbrev Ax:Type:=List (TCT Bd)
def gmX (m:GM):SKTs kGr:=(m.1,m.2.1,m.2.2.1,m.2.2.2.1,m.2.2.2.2.1,m.2.2.2.2.2.1,m.2.2.2.2.2.2.1,m.2.2.2.2.2.2.2.1,m.2.2.2.2.2.2.2.2.1,m.2.2.2.2.2.2.2.2.2.1,m.2.2.2.2.2.2.2.2.2.2.1,m.2.2.2.2.2.2.2.2.2.2.2.1,m.2.2.2.2.2.2.2.2.2.2.2.2.1,m.2.2.2.2.2.2.2.2.2.2.2.2.2.1,())
def gmP (m:GM):List (TCT A2):=m.2.2.2.2.2.2.2.2.2.2.2.2.2.2.1
def gmM (m:GM):Ax:=m.2.2.2.2.2.2.2.2.2.2.2.2.2.2.2.1
def gmO (m:GM):List Bool:=m.2.2.2.2.2.2.2.2.2.2.2.2.2.2.2.2.1
def gmW (m:GM):Int:=m.2.2.2.2.2.2.2.2.2.2.2.2.2.2.2.2.2.1
def gmF (m:GM):Int:=m.2.2.2.2.2.2.2.2.2.2.2.2.2.2.2.2.2.2.1
def gmT (m:GM):Int:=m.2.2.2.2.2.2.2.2.2.2.2.2.2.2.2.2.2.2.2.1
def gmS (m:GM):Int:=m.2.2.2.2.2.2.2.2.2.2.2.2.2.2.2.2.2.2.2.2.1
def gmU (m:GM) (ms:Ax) (os:List Bool):GM:=(m.1,m.2.1,m.2.2.1,m.2.2.2.1,m.2.2.2.2.1,m.2.2.2.2.2.1,m.2.2.2.2.2.2.1,m.2.2.2.2.2.2.2.1,m.2.2.2.2.2.2.2.2.1,m.2.2.2.2.2.2.2.2.2.1,m.2.2.2.2.2.2.2.2.2.2.1,m.2.2.2.2.2.2.2.2.2.2.2.1,m.2.2.2.2.2.2.2.2.2.2.2.2.1,m.2.2.2.2.2.2.2.2.2.2.2.2.2.1,m.2.2.2.2.2.2.2.2.2.2.2.2.2.2.1,ms,os,m.2.2.2.2.2.2.2.2.2.2.2.2.2.2.2.2.2.1,m.2.2.2.2.2.2.2.2.2.2.2.2.2.2.2.2.2.2.1,m.2.2.2.2.2.2.2.2.2.2.2.2.2.2.2.2.2.2.2.1,m.2.2.2.2.2.2.2.2.2.2.2.2.2.2.2.2.2.2.2.2.1,m.2.2.2.2.2.2.2.2.2.2.2.2.2.2.2.2.2.2.2.2.2.1,())
def gmB (m:GM):List (TCT A3):=blX (gmX m)
def gmL (m:GM):TCT A5:=lwG (gmX m)
abbrev GB:Type:=GM×SKTs [.o 0 cKn]×Unit
def gb (m:GM) (k:Kns):GB:=(m,(k,()),())
def plGm:List (Nat×PureT):=(79,A9e)::(18,A9c)::(19,Ax0)::(39,Awv)::(138,Awz)::(99,Ab0)::plS4
def B1u:List AV→List Nat
 | []=>[]
 | .own i::l=>i::B1u l
 | _::l=>B1u l
def Lu (hp:B0) (args:List AV):Option (List Nat):=match args with
 | .ptr id _ _ _::_=>match hp id with
  | some (.blk b)=>match nth b.cs 21 with
   | some (.fn _ _ [.ptr k _ _ _])=>match hp k with
    | some (.blk c)=>some (id::k::(B1u b.cs++B1u c.cs))
    | _=>none
   | _=>none
  | _=>none
 | _=>none
def A9n (f:Nat):FLay:={ ks:=[.p 0 0 0 0,.d cI],bs:=bsG f,nx:=1000 }
def Bkt (f:Nat):FLay:={ ks:=[.d .b],bs:=bsG f,nx:=1000 }
def FN:FLay:={ ks:=[.i 49 .i64],bs:=[],nx:=1000 }
def A2w (f:Nat) (b:Bool):FLay:=bif b then Bkt f else FN
def inO {β:Type} (n:Nat) (i:Int) (k:Tree β):Tree β:=inN n i (bif decide (Int.toNat i<n) then k else .fail)
theorem G4 {β:Type} {n:Nat} {i:Int} {k:Tree β} (h:0≤i∧i<(n:Int)):inO n i k=k:=by
 unfold inO
 rw [Dd h,decide_eq_true (by omega)];rfl
def Cf (ms:Ax) (os:List Bool) (i:Nat):Bool:=!Bc os i (B7 .b)&&Rl (Bc ms i (B7 Bd))
def F9 (w fl i:Int):Bool:=(i==w)&&decide (fl>0)
def A2x (ms:Ax) (os:List Bool) (i:Int):Bool:=decide (0≤i∧i<(os.length:Int)∧i<(ms.length:Int))
def lfB (f:Nat) (b:Bool) (x:GB):Tree (En (A2w f)):=.leaf ⟨true,((b,()),x)⟩
def T_ro (f:Nat) (i:Int) (m:GM) (x:GB):Tree (En (A2w f)):=inO (gmO m).length i (bif !Bc (gmO m) (Int.toNat i) (B7 .b) then inO (gmM m).length i (lfB f (Rl (Bc (gmM m) (Int.toNat i) (B7 Bd))) x) else lfB f false x)
abbrev C_ro (f:Nat) (g:(A9n f).T):Bool:=A2x g.2.1.2.2.2.2.2.2.2.2.2.2.2.2.2.2.2.1 g.2.1.2.2.2.2.2.2.2.2.2.2.2.2.2.2.2.2.1 g.1.2.1
def V_ro (f:Nat) (g:(A9n f).T):(A2w f true).T:=((Cf g.2.1.2.2.2.2.2.2.2.2.2.2.2.2.2.2.2.1 g.2.1.2.2.2.2.2.2.2.2.2.2.2.2.2.2.2.2.1 (Int.toNat g.1.2.1),()),g.2)
def C_fl (f:Nat) (_:(A9n f).T):Bool:=true
def V_fl (f:Nat) (g:(A9n f).T):(A2w f true).T:=((F9 g.2.1.2.2.2.2.2.2.2.2.2.2.2.2.2.2.2.2.2.1 g.2.1.2.2.2.2.2.2.2.2.2.2.2.2.2.2.2.2.2.2.1 g.1.2.1,()),g.2)
def T_fl (f:Nat) (i:Int) (m:GM) (x:GB):Tree (En (A2w f)):=bif i==gmW m then lfB f (decide (gmF m>0)) x else lfB f false x
theorem Pt {f:Nat} (b:Bool):1000≤(A2w f b).nx:=by cases b <;> exact Nat.le_refl _
theorem Aec {f:Nat} {g:(A9n f).T} (h:C_ro f g=true):(T_ro f g.1.2.1 g.2.1 g.2).run=some ⟨true,V_ro f g⟩:=by
 have hd:0≤g.1.2.1∧g.1.2.1<((gmO g.2.1).length:Int)∧g.1.2.1<((gmM g.2.1).length:Int):=of_decide_eq_true h
 unfold V_ro
 show (T_ro f g.1.2.1 g.2.1 g.2).run=some (⟨true,((Cf (gmM g.2.1) (gmO g.2.1) (Int.toNat g.1.2.1),()),g.2)⟩:En (A2w f))
 unfold T_ro Cf
 rw [G4 ⟨hd.1,hd.2.1⟩,G4 ⟨hd.1,hd.2.2⟩]
 cases Bc (gmO g.2.1) (Int.toNat g.1.2.1) (B7 .b) <;> rfl
theorem Aed {f:Nat} {g:(A9n f).T}:(T_fl f g.1.2.1 g.2.1 g.2).run=some ⟨true,V_fl f g⟩:=by
 unfold V_fl
 show (T_fl f g.1.2.1 g.2.1 g.2).run=some (⟨true,((F9 (gmW g.2.1) (gmF g.2.1) g.1.2.1,()),g.2)⟩:En (A2w f))
 unfold T_fl F9
 cases g.1.2.1==gmW g.2.1 <;> rfl
abbrev sp_ro (f:Nat):B0→Nat→List AV→Tree (Out×B0×Nat):=Ll Lu (A9n f) (A2w f) (Baa (fun g=>A2x g.2.1.2.2.2.2.2.2.2.2.2.2.2.2.2.2.2.1 g.2.1.2.2.2.2.2.2.2.2.2.2.2.2.2.2.2.2.1 g.1.2.1) (V_ro f))
abbrev sp_fl (f:Nat):B0→Nat→List AV→Tree (Out×B0×Nat):=Ll Lu (A9n f) (A2w f) (Baa (fun _=>true) (V_fl f))
theorem puGm:Db Tryz.prog plGm:=puOk_cons is_sOn.plain B75 (puOk_cons is_CellAt.plain Aso (puOk_cons is_Slow.plain Bcx (puOk_cons is_Step.plain Bcv (puOk_cons is_Bump.plain Bcw (puOk_cons is_Settle.plain Aw3 puS4)))))
noncomputable def Bku:Ctx:=ctx Tryz.prog plGm [(137,Tryz.f137),(98,Tryz.f98)]
theorem Pu:CtxOk Bku:=B5 Aw puGm (fns_cons is_rolls (fns_cons is_flies A0))
theorem Hb:C2 Tryz.prog 137 (sp_ro 53):=Ve Pu 6 Pt (C_ro 53) (V_ro 53) (fun g=>T_ro 53 g.1.2.1 g.2.1 g.2) (fun g=>by kernel_rfl) fun _ _ h=>Aec h
theorem Hd:C2 Tryz.prog 98 (sp_fl 53):=Ve Pu 6 Pt (C_fl 53) (V_fl 53) (fun g=>T_fl 53 g.1.2.1 g.2.1 g.2) (fun g=>by kernel_rfl) fun _ _ _=>Aed
theorem Xu:C2 Tryz.prog 137 (sp_ro 46):=Ve Pu 6 Pt (C_ro 46) (V_ro 46) (fun g=>T_ro 46 g.1.2.1 g.2.1 g.2) (fun g=>by kernel_rfl) fun _ _ h=>Aec h
theorem Xv:C2 Tryz.prog 98 (sp_fl 46):=Ve Pu 6 Pt (C_fl 46) (V_fl 46) (fun g=>T_fl 46 g.1.2.1 g.2.1 g.2) (fun g=>by kernel_rfl) fun _ _ _=>Aed
theorem He:C2 Tryz.prog 137 (sp_ro 107):=Ve Pu 6 Pt (C_ro 107) (V_ro 107) (fun g=>T_ro 107 g.1.2.1 g.2.1 g.2) (fun g=>by kernel_rfl) fun _ _ h=>Aec h
theorem Hf:C2 Tryz.prog 98 (sp_fl 107):=Ve Pu 6 Pt (C_fl 107) (V_fl 107) (fun g=>T_fl 107 g.1.2.1 g.2.1 g.2) (fun g=>by kernel_rfl) fun _ _ _=>Aed
end St
end V
end Go.Proofs.YtcfanlgpkefogaaGreat
namespace Go.Proofs.YtcfanlgpkefogaaGreat
open Go.RowKit
namespace V
def Zi {L:FLay} {E:Bool→FLay} {A:Type} (Y:L.T→Option (A⊕Int)) (mk:L.T→A→(E true).T) (pn:Int→(E false).T) (d:A) (g:L.T):Tree (En E) :=
 .br (isL (Y g)) (.leaf ⟨true,mk g (gL d (Y g))⟩) (.br (isR (Y g)) (.leaf ⟨false,pn (gR 0 (Y g))⟩) .fail)
def A2y {L:FLay} {E:Bool→FLay} {A:Type} (mk:L.T→A→(E true).T) (pn:Int→(E false).T) (g:L.T):A⊕Int→En E
 | .inl a=>⟨true,mk g a⟩
 | .inr e=>⟨false,pn e⟩
theorem Atg {L:FLay} {E:Bool→FLay} {A:Type} {Y:L.T→Option (A⊕Int)} {mk:L.T→A→(E true).T} {pn:Int→(E false).T} {d:A} {g:L.T} {R:En E→Prop} (h:(Zi Y mk pn d g).sat R):∃ z,Y g=some z∧R (A2y mk pn g z):=by
 unfold Zi at h
 obtain ⟨h1,h2⟩:=h
 cases hF:Y g with
 | none =>
  rw [hF] at h2
  exact ((h2 rfl).2 rfl).elim
 | some z =>
  cases z with
  | inl a=>rw [hF] at h1;exact ⟨_,rfl,h1 rfl⟩
  | inr b=>rw [hF] at h2;exact ⟨_,rfl,(h2 rfl).1 rfl⟩
theorem Kj {X:Ctx} (hX:CtxOk X) {f:FuncId} (m:Nat) {probe:B0→List AV→Option (List Nat)} {L:FLay} {E:Bool→FLay} (hE:∀ b,L.nx≤(E b).nx) {A:Type} (Y:L.T→Option (A⊕Int)) (mk:L.T→A→(E true).T) (pn:Int→(E false).T) (d:A) (T:L.T→Tree (En E))
  (he:∀ g,P1 X (Dx X m) f (ofKs L.ks g.1 L.nx) (L.lay.hp g) (L.lay.of g).nx (Xa E)=T g)
  (h:∀ g z,L.lay.WF g→Y g=some z→(T g).run=some (A2y mk pn g z)):C2 X.P f (Ll probe L E (Zi Y mk pn d)) :=
 Ac7 hX m hE fun g R hw hf=>by
  rw [he]
  obtain ⟨z,hz,hr⟩:=Atg hf
  exact Zh (Tree.sat_run (h g z hw hz) hr) fun x hx _=>hx
namespace St
def nBx (m:GM):Nat:=(gmB m).length
def Amf (m:GM):Bool:=decide ((m.1.size:Int)≤Bl .i64)&&(decide ((gmM m).length=nBx m)&&(decide ((gmO m).length=nBx m)&&decide (nBx m≤8)))
structure OkGM (m:GM):Prop where
 sz:(m.1.size:Int)≤Bl .i64
 ms:(gmM m).length=nBx m
 os:(gmO m).length=nBx m
 n:nBx m≤8
theorem F4 {m:GM}:Amf m=true ↔ OkGM m:=by
 unfold Amf
 simp only [Bool.and_eq_true,decide_eq_true_eq]
 exact ⟨fun h=>⟨h.1,h.2.1,h.2.2.1,h.2.2.2⟩,fun h=>⟨h.sz,h.ms,h.os,h.n⟩⟩
def FL_g (f:Nat):FLay:={ ks:=[.p 0 0 0 0],bs:=bsG f,nx:=1000 }
def Bkv (f:Nat):FLay:={ ks:=[],bs:=bsG f,nx:=1000 }
def FE_u (f:Nat) (b:Bool):FLay:=bif b then Bkv f else FN
theorem I0 {f:Nat} (b:Bool):1000≤(FE_u f b).nx:=by cases b <;> exact Nat.le_refl _
def pnU (f:Nat) (e:Int):(FE_u f false).T:=((e,()),())
def mkU (f:Nat) (x:GB):(FE_u f true).T:=((),x)
def spG (f:Nat):List (Nat×(B0→Nat→List AV→Tree (Out×B0×Nat))):=[(137,sp_ro f),(98,sp_fl f)]
theorem M8 {P:Program} {f g:Nat} {sp sq:B0→Nat→List AV→Tree (Out×B0×Nat)} (h:Plain P f) (k:C2 P f sp) (h2:Plain P g) (k2:C2 P g sq):∀ p ∈ [(f,sp),(g,sq)],Plain P p.1∧C2 P p.1 p.2:=fun p hp=>by
 simp only [List.mem_cons,List.not_mem_nil,or_false] at hp
 rcases hp with rfl | rfl
 ·exact ⟨h,k⟩
 ·exact ⟨h2,k2⟩
theorem Ir {P:Program} {fns:List (Nat×Func)}:∀ p ∈ fns,∀ d ∈ As (bodyOf p.2),∀ g,D8 ([]:List ((Nat×Nat)×(St→Tree (XE×St)))) p.1 (keyOf d)=some g→Bb P p.1 d g:=fun _ _ _ _ _ h=>by simp [D8] at h
noncomputable def Bkw (f:Nat):Ctx:=W9 Tryz.prog plGm [(49,Tryz.f49)] [] (spG f)
theorem Ail {f:Nat} (h1:C2 Tryz.prog 137 (sp_ro f)) (h2:C2 Tryz.prog 98 (sp_fl f)):CtxOk (Bkw f):=Hi Aw puGm (fns_cons is_must A0) Ir (M8 is_rolls.plain h1 is_flies.plain h2)
noncomputable def Ath:Code:=(As (bodyOf Tryz.f101)).getD 0 .skip
def Amg (f:Nat):Lay:={ keys:=[0,13,14],ks:=[.p 0 0 0 0,.d cI,.d cI],bs:=bsG f,n:=80,nx:=2000,marks:=[] }
def Bkx (f:Nat):Lay:={ keys:=[],ks:=[],bs:=bsG f,n:=80,nx:=2000,marks:=[] }
def Bky:Lay:={ keys:=[],ks:=[],bs:=[],n:=80,nx:=2000,marks:=[] }
def Aee (f:Nat):XE→Lay:=fun e=>match e with | .panic _=>Bky | _=>Bkx f
def M9 (l:TCT A5) (m:TCT Bd):TCTs [cPt,cI]:=O2 (W64 (m.2.1.1+(La l m.1).2.1)) (W64 (m.2.1.2.1+(La l m.1).2.2.1)) (La l m.1).1
def A9o (l:TCT A5) (m:TCT Bd):TCT Bd:=(m.1,((M9 l m).1.1,(M9 l m).1.2.1,()),m.2.2.1,())
def A8 (ms:Ax) (i:Nat):TCT Bd:=Bc ms i (B7 Bd)
def gk (x:GB):Kns:=x.2.1.1
def Qr (f:Nat) (x:GB) (n i:Int) (ms:Ax):(Amg f).T:=(((),n,i,()),(gb (gmU x.1 ms (gmO x.1)) (gk x)))
def Ati (f:Nat) (x:GB) (ms:Ax):A1 (Aee f):=⟨.exit 0,((),(gb (gmU x.1 ms (gmO x.1)) (gk x)))⟩
def Atj (f:Nat) (e:Int):A1 (Aee f):=⟨.panic (.ifc 49 (.int .i64 e)),((),())⟩
abbrev TSw (f:Nat):=Tree ((Amg f).T⊕A1 (Aee f))
def inT {β:Type} (n:Nat) (i:Int) (k:Tree β):Tree β:=bif decide (Int.toNat i<n) then k else .fail
theorem Aef {β:Type} {n:Nat} {i:Int} {k:Tree β} (h:0≤i∧i<(n:Int)):inT n i k=k:=by unfold inT;rw [decide_eq_true (by omega)];rfl
def Atk (f:Nat) (x:GB) (n i:Int) (ms:Ax):TSw f :=
 bif G5 (gmL x.1) (A8 ms (Int.toNat i)).1 != 0 then .leaf (.inr (Atj f (G5 (gmL x.1) (A8 ms (Int.toNat i)).1))) else inT ms.length i (inT ms.length i (
  bif (M9 (gmL x.1) (A8 ms (Int.toNat i))).2.1 != 0 then .leaf (.inr (Atj f 4)) else inT ms.length i (.leaf (.inl (Qr f x n (W64 (i+1)) (Bu ms (Int.toNat i) (A9o (gmL x.1) (A8 ms (Int.toNat i)))))))))
def szG {β:Type} (m:GM) (k:Tree β):Tree β:=bif decide ((m.1.size:Int)≤Bl .i64) then k else .fail
def Zj (f:Nat) (x:GB) (n i:Int) (ms:Ax):TSw f:=bif decide (i<n) then bif A2x ms (gmO x.1) i then
 bif !Cf ms (gmO x.1) (Int.toNat i) then .leaf (.inl (Qr f x n (W64 (i+1)) ms)) else bif F9 (gmW x.1) (gmF x.1) i then .leaf (.inl (Qr f x n (W64 (i+1)) ms)) else
 inO ms.length i (szG x.1 (Atk f x n i ms)) else .fail else .leaf (.inr (Ati f x ms))
def Atl (f:Nat) (g:(Amg f).T):TSw f:=Zj f g.2 g.1.2.1 g.1.2.2.1 (gmM g.2.1)
def fu_sw (f:Nat) (g:(Amg f).T):Nat:=Int.toNat g.1.2.1+1
def sm_sw (f:Nat):St→Tree (XE×St):=B8 (Amg f) (Aee f) (finP 49 .i64 [.exit 0] (Atl f) (fu_sw f))
theorem Aim {f:Nat} (e:XE):(Amg f).nx≤(Aee f e).nx:=by cases e <;> exact Nat.le_refl _
theorem Bab:Bb Tryz.prog 101 Ath (sm_sw 53):=Hv (Ail Hb Hd) 7 _ _ _ Aim _ _ _ _ (fu_sw 53) (fun g=>by kernel_rfl)
theorem Bac:Bb Tryz.prog 101 Ath (sm_sw 107):=Hv (Ail He Hf) 7 _ _ _ Aim _ _ _ _ (fu_sw 107) (fun g=>by kernel_rfl)
def A9p (m:GM) (i:Nat) (ms:Ax):Ax⊕Int :=
 bif !Cf ms (gmO m) i||F9 (gmW m) (gmF m) i then .inl ms else bif G5 (gmL m) (A8 ms i).1 != 0 then .inr (G5 (gmL m) (A8 ms i).1) else
 bif (M9 (gmL m) (A8 ms i)).2.1 != 0 then .inr 4 else .inl (Bu ms i (A9o (gmL m) (A8 ms i)))
def Zk (f:Nat) (x:GB):Ax⊕Int→A1 (Aee f)
 | .inl ms=>Ati f x ms
 | .inr e=>Atj f e
theorem Bw {α:Type}:∀ (l:List α) (i:Nat) (x:α),(Bu l i x).length=l.length
 | [],_,_=>rfl
 | _::_,0,_=>rfl
 | _::l,i+1,x=>by simp only [Bu,List.length_cons,Bw l i x]
theorem Atm {m:GM} {n:Nat} (i:Nat) (s s':Ax) (_:i<n) (hi:s.length=n) (h:A9p m i s=.inl s'):s'.length=n:=by
 unfold A9p at h
 cases h1:!Cf s (gmO m) i||F9 (gmW m) (gmF m) i with
 | true=>rw [h1] at h;cases h;exact hi
 | false =>
  rw [h1] at h
  cases h2:G5 (gmL m) (A8 s i).1 != 0 with
  | true=>rw [h2] at h;cases h
  | false =>
   rw [h2] at h
   cases h3:(M9 (gmL m) (A8 s i)).2.1 != 0 with
   | true=>rw [h3] at h;cases h
   | false=>rw [h3] at h;cases h;rw [Bw];exact hi
theorem A5y {ms:Ax} {os:List Bool} {i n:Nat} (h:i<n) (h1:ms.length=n) (h2:os.length=n):A2x ms os (i:Int)=true:=by
 unfold A2x
 exact decide_eq_true (by omega)
theorem Bg3 {f:Nat} {x:GB} {ms:Ax} (hx:OkGM x.1) (hm:ms.length=nBx x.1):iter (Atl f) (nBx x.1+1) (Qr f x (nBx x.1) 0 ms)=some (Zk f x (B6 (A9p x.1) 0 (nBx x.1) ms)):=by
 have hn:(nBx x.1:Int)≤Bl .i64:=by have:=hx.n;show (nBx x.1:Int)≤9223372036854775807;omega
 refine Hz (nBx x.1) (fun i ms=>Qr f x (nBx x.1) i ms) (A9p x.1) (Zk f x) (fun _ ms=>ms.length=nBx x.1) (fun i ms hi hl=>?_) Atm (fun ms hl=>?_) (nBx x.1) 0 ms (by omega) hm
 ·show (Zj f (gb (gmU x.1 ms (gmO x.1)) (gk x)) (nBx x.1) (i:Int) ms).run=_
  have e:∀ y z,Qr f (gb (gmU x.1 ms (gmO x.1)) (gk x)) (nBx x.1) y z=Qr f x (nBx x.1) y z:=fun _ _=>rfl
  unfold Zj
  have hin:=A5y hi hl hx.os
  show Tree.run (bif decide ((i:Int)<(nBx x.1:Int)) then bif A2x ms (gmO x.1) (i:Int) then bif !Cf ms (gmO x.1) i then .leaf (.inl (Qr f x (nBx x.1) (W64 ((i:Int)+1)) ms)) else bif F9 (gmW x.1) (gmF x.1) i then .leaf (.inl (Qr f x (nBx x.1) (W64 ((i:Int)+1)) ms)) else
   inO ms.length i (szG x.1 (Atk f x (nBx x.1) i ms)) else .fail else .leaf (.inr (Ati f x ms)):TSw f)=_
  have hsz:∀ k:TSw f,szG x.1 k=k:=fun k=>by unfold szG;rw [decide_eq_true hx.sz];rfl
  rw [decide_eq_true (show (i:Int)<(nBx x.1:Int) by omega),hin,G4 (by omega),hsz,El hi hn]
  unfold A9p Atk
  rw [Aef (by omega),Aef (by omega),Aef (by omega),show Int.toNat (i:Int)=i from rfl,El hi hn]
  cases Cf ms (gmO x.1) i with
  | false=>rfl
  | true =>
   cases F9 (gmW x.1) (gmF x.1) i with
   | true=>rfl
   | false =>
    simp only [Bool.not_true,Bool.or_self,cond_true,cond_false]
    cases G5 (gmL x.1) (A8 ms i).1 != 0 with
    | true=>rfl
    | false =>
     simp only [cond_false]
     cases (M9 (gmL x.1) (A8 ms i)).2.1 != 0 <;> rfl
 ·show (Zj f (gb (gmU x.1 ms (gmO x.1)) (gk x)) (nBx x.1) (nBx x.1) ms).run=_
  unfold Zj
  rw [decide_eq_false (show ¬ (nBx x.1:Int)<(nBx x.1:Int) by omega)]
  rfl
end St
end V
end Go.Proofs.YtcfanlgpkefogaaGreat
namespace Go.Proofs.YtcfanlgpkefogaaGreat
open Go.RowKit
namespace V
namespace St
noncomputable def Bkz (f:Nat):Ctx:=W9 Tryz.prog plGm [(101,Tryz.f101)] [((101,1),sm_sw f)] (spG f)
theorem Ain {f:Nat} (h1:C2 Tryz.prog 137 (sp_ro f)) (h2:C2 Tryz.prog 98 (sp_fl f)) (hl:Bb Tryz.prog 101 Ath (sm_sw f)):CtxOk (Bkz f) :=
 Hi Aw puGm (fns_cons is_gslow A0) (Cc (by kernel_rfl) (by kernel_rfl) hl) (M8 is_rolls.plain h1 is_flies.plain h2)
def Atn (f:Nat) (x:GB):Option (A1 (Aee f)):=iter (Atl f) (nBx x.1+1) (Qr f x (nBx x.1) 0 (gmM x.1))
def T_slw (f:Nat) (x:GB):Tree (En (FE_u f)):=bif isP 49 .i64 (Atn f x) then .leaf ⟨false,pnU f (panO 49 .i64 (Atn f x)).1⟩ else bif isE (.exit 0) (Atn f x) then .leaf ⟨true,((),(D4 (.exit 0) (Atn f x)).2)⟩ else .fail
def Zl (x:GB):Option (Ax⊕Int):=bif Amf x.1 then some (B6 (A9p x.1) 0 (nBx x.1) (gmM x.1)) else none
def Aeg (f:Nat) (x:GB) (ms:Ax):(FE_u f true).T:=mkU f (gb (gmU x.1 ms (gmO x.1)) (gk x))
abbrev sp_slw (f:Nat):B0→Nat→List AV→Tree (Out×B0×Nat):=Ll Lu (FL_g f) (FE_u f) (Zi (fun g:(FL_g f).T=>Zl g.2) (fun g=>Aeg f g.2) (pnU f) [])
theorem Aio {f:Nat} {g:(FL_g f).T} {z:Ax⊕Int} (h:Zl g.2=some z):(T_slw f g.2).run=some (A2y (L:=FL_g f) (E:=FE_u f) (fun g=>Aeg f g.2) (pnU f) g z):=by
 unfold Zl at h
 cases ho:Amf g.2.1 with
 | false=>rw [ho] at h;cases h
 | true =>
  rw [ho] at h
  cases h
  have hy:Atn f g.2=some (Zk f g.2 (B6 (A9p g.2.1) 0 (nBx g.2.1) (gmM g.2.1))):=Bg3 (F4.1 ho) (F4.1 ho).ms
  unfold T_slw
  rw [hy]
  cases B6 (A9p g.2.1) 0 (nBx g.2.1) (gmM g.2.1) with
  | inl ms=>rfl
  | inr e =>
   have h1:isP 49 .i64 (some (Zk f g.2 (.inr e)))=true:=Po
   have h2:panO 49 .i64 (some (Zk f g.2 (.inr e)))=⟨e,((),())⟩:=Kd
   rw [h1,h2]
   rfl
theorem Ato:C2 Tryz.prog 101 (sp_slw 53):=Kj (Ain Hb Hd Bab) 6 I0 _ _ _ _ (fun g=>T_slw 53 g.2) (fun g=>by kernel_rfl) fun _ _ _ h=>Aio h
theorem Atp:C2 Tryz.prog 101 (sp_slw 107):=Kj (Ain He Hf Bac) 6 I0 _ _ _ _ (fun g=>T_slw 107 g.2) (fun g=>by kernel_rfl) fun _ _ _ h=>Aio h
end St
end V
end Go.Proofs.YtcfanlgpkefogaaGreat
namespace Go.Proofs.YtcfanlgpkefogaaGreat
open Go.RowKit
namespace V
theorem D3 {P:Program} {f:Nat} {fn:Func} {loops:List ((Nat×Nat)×(St→Tree (XE×St)))} (h:As (bodyOf fn)=[]):∀ d ∈ As (bodyOf fn),∀ g,D8 loops f (keyOf d)=some g→Bb P f d g:=by
 intro d hd
 rw [h] at hd
 cases hd
theorem Gi {P:Program} {loops:List ((Nat×Nat)×(St→Tree (XE×St)))}:∀ q ∈ ([]:List (Nat×Func)),∀ d ∈ As (bodyOf q.2),∀ g,D8 loops q.1 (keyOf d)=some g→Bb P q.1 d g:=fun _ h=>nomatch h
theorem Bn {P:Program} {f:Nat} {fn:Func} {rest:List (Nat×Func)} {loops:List ((Nat×Nat)×(St→Tree (XE×St)))} (h:∀ d ∈ As (bodyOf fn),∀ g,D8 loops f (keyOf d)=some g→Bb P f d g)
  (hr:∀ q ∈ rest,∀ d ∈ As (bodyOf q.2),∀ g,D8 loops q.1 (keyOf d)=some g→Bb P q.1 d g):∀ q ∈ (f,fn)::rest,∀ d ∈ As (bodyOf q.2),∀ g,D8 loops q.1 (keyOf d)=some g→Bb P q.1 d g:=by
 intro q hq
 rcases List.mem_cons.1 hq with rfl | hq
 ·exact h
 ·exact hr q hq
def B7b (P:Program) (f:Nat) (loops:List ((Nat×Nat)×(St→Tree (XE×St)))):List Code→Prop
 | []=>True
 | d::l=>(∀ g,D8 loops f (keyOf d)=some g→Bb P f d g)∧B7b P f loops l
theorem Kk {P:Program} {f:Nat} {fn:Func} {loops:List ((Nat×Nat)×(St→Tree (XE×St)))} {ds:List Code} (h:As (bodyOf fn)=ds) (ha:B7b P f loops ds):∀ d ∈ As (bodyOf fn),∀ g,D8 loops f (keyOf d)=some g→Bb P f d g:=by
 rw [h]
 clear h
 induction ds with
 | nil=>intro d hd;cases hd
 | cons a l ih =>
  intro d hd
  rcases List.mem_cons.1 hd with rfl | hd
  ·exact ha.1
  ·exact ih ha.2 d hd
theorem Hg {P:Program} {f:Nat} {d:Code} {loops:List ((Nat×Nat)×(St→Tree (XE×St)))} {k:Nat} {s:St→Tree (XE×St)} (hk:keyOf d=k) (ha:D8 loops f k=some s) (h:Bb P f d s):∀ g,D8 loops f (keyOf d)=some g→Bb P f d g:=by
 intro g hg
 rw [hk,ha] at hg
 cases hg
 exact h
namespace St
noncomputable def Aip:Code:=(As (bodyOf Tryz.f102)).getD 0 .skip
def Amh (f:Nat):Lay:={ keys:=[0,12,13,14],ks:=[.p 0 0 0 0,.d (.sl A3),.d cI,.d cI],bs:=bsG f,n:=104,nx:=2000,marks:=[] }
def Bl0 (f:Nat):Lay:={ keys:=[0],ks:=[.p 0 0 0 0],bs:=bsG f,n:=104,nx:=2000,marks:=[] }
def Bg4:Lay:={ keys:=[],ks:=[],bs:=[],n:=104,nx:=3000,marks:=[] }
def A9q (f:Nat):XE→Lay:=fun e=>match e with | .panic _=>Bg4 | _=>Bl0 f
def N3 (b:TCT A3) (m:TCT Bd):TCTs [Bd,cI]:=Md (bm b m)
def E6 (bl:List (TCT A3)) (i:Nat):TCT A3:=Bc bl i (B7 A3)
def A3r (f:Nat) (x:GB) (bl:List (TCT A3)) (n i:Int) (ms:Ax):(Amh f).T:=(((),bl,n,i,()),(gb (gmU x.1 ms (gmO x.1)) (gk x)))
def Atq (f:Nat) (x:GB) (ms:Ax):A1 (A9q f):=⟨.exit 0,(((),()),(gb (gmU x.1 ms (gmO x.1)) (gk x)))⟩
def B7c (f:Nat) (e:Int):A1 (A9q f):=⟨.panic (.ifc 49 (.int .i64 e)),((),())⟩
abbrev TM1 (f:Nat):=Tree ((Amh f).T⊕A1 (A9q f))
def Atr (f:Nat) (x:GB) (bl:List (TCT A3)) (n i:Int) (ms:Ax):TM1 f:=inO ms.length i (bif (N3 (E6 bl (Int.toNat i)) (A8 ms (Int.toNat i))).2.1 != 0 then .leaf (.inr (B7c f (N3 (E6 bl (Int.toNat i)) (A8 ms (Int.toNat i))).2.1)) else
 inO ms.length i (.leaf (.inl (A3r f x bl n (W64 (i+1)) (Bu ms (Int.toNat i) (N3 (E6 bl (Int.toNat i)) (A8 ms (Int.toNat i))).1)))))
def Aeh (f:Nat) (x:GB) (bl:List (TCT A3)) (n i:Int) (ms:Ax):TM1 f:=bif decide (i<n) then inN bl.length i (bif A2x ms (gmO x.1) i then bif Cf ms (gmO x.1) (Int.toNat i) then Atr f x bl n i ms else .leaf (.inl (A3r f x bl n (W64 (i+1)) ms)) else .fail) else .leaf (.inr (Atq f x ms))
def Ats (f:Nat) (g:(Amh f).T):TM1 f:=Aeh f g.2 g.1.2.1 g.1.2.2.1 g.1.2.2.2.1 (gmM g.2.1)
def fu_m1 (f:Nat) (g:(Amh f).T):Nat:=Int.toNat g.1.2.2.1+1
def sm_m1 (f:Nat):St→Tree (XE×St):=B8 (Amh f) (A9q f) (finP 49 .i64 [.exit 0] (Ats f) (fu_m1 f))
theorem Aiq {f:Nat} (e:XE):(Amh f).nx≤(A9q f e).nx:=by cases e <;> first | exact Nat.le_refl _ | exact (by decide:(2000:Nat)≤3000)
def stE (bl:List (TCT A3)) (os:List Bool) (i:Nat) (ms:Ax):Ax⊕Int:=bif !Cf ms os i then .inl ms else bif (N3 (E6 bl i) (A8 ms i)).2.1 != 0 then .inr (N3 (E6 bl i) (A8 ms i)).2.1 else .inl (Bu ms i (N3 (E6 bl i) (A8 ms i)).1)
def Vf (f:Nat) (x:GB):Ax⊕Int→A1 (A9q f)
 | .inl ms=>Atq f x ms
 | .inr e=>B7c f e
theorem Aei {bl:List (TCT A3)} {os:List Bool} {n:Nat} (i:Nat) (s s':Ax) (_:i<n) (hi:s.length=n) (h:stE bl os i s=.inl s'):s'.length=n:=by
 unfold stE at h
 cases h1:!Cf s os i with
 | true=>rw [h1] at h;cases h;exact hi
 | false =>
  rw [h1] at h
  cases h3:(N3 (E6 bl i) (A8 s i)).2.1 != 0 with
  | true=>rw [h3] at h;cases h
  | false=>rw [h3] at h;cases h;rw [Bw];exact hi
theorem Bg5 {f:Nat} {x:GB} {ms:Ax} (hx:OkGM x.1) (hm:ms.length=nBx x.1):iter (Ats f) (nBx x.1+1) (A3r f x (gmB x.1) (nBx x.1) 0 ms)=some (Vf f x (B6 (stE (gmB x.1) (gmO x.1)) 0 (nBx x.1) ms)):=by
 have hn:(nBx x.1:Int)≤Bl .i64:=by have:=hx.n;show (nBx x.1:Int)≤9223372036854775807;omega
 refine Hz (nBx x.1) (fun i ms=>A3r f x (gmB x.1) (nBx x.1) i ms) (stE (gmB x.1) (gmO x.1)) (Vf f x) (fun _ ms=>ms.length=nBx x.1) (fun i ms hi hl=>?_) Aei (fun ms hl=>?_) (nBx x.1) 0 ms (by omega) hm
 ·show Tree.run (bif decide ((i:Int)<(nBx x.1:Int)) then inN (nBx x.1) i (bif A2x ms (gmO x.1) i then bif Cf ms (gmO x.1) i then Atr f x (gmB x.1) (nBx x.1) i ms else .leaf (.inl (A3r f x (gmB x.1) (nBx x.1) (W64 ((i:Int)+1)) ms)) else .fail) else .leaf (.inr (Atq f x ms)):TM1 f)=_
  rw [decide_eq_true (show (i:Int)<(nBx x.1:Int) by omega),Dd (by omega),A5y hi hl hx.os,El hi hn]
  unfold stE Atr
  rw [G4 (by omega),G4 (by omega),show Int.toNat (i:Int)=i from rfl,El hi hn]
  cases Cf ms (gmO x.1) i with
  | false=>rfl
  | true =>
   simp only [Bool.not_true,cond_true,cond_false]
   cases (N3 (E6 (gmB x.1) i) (A8 ms i)).2.1 != 0 <;> rfl
 ·show (Aeh f (gb (gmU x.1 ms (gmO x.1)) (gk x)) (gmB x.1) (nBx x.1) (nBx x.1) ms).run=_
  unfold Aeh
  rw [decide_eq_false (show ¬ (nBx x.1:Int)<(nBx x.1:Int) by omega)]
  rfl
noncomputable def Air:Code:=(As (bodyOf Tryz.f102)).getD 1 .skip
def Ami (f:Nat):Lay:={ keys:=[0,52,53],ks:=[.p 0 0 0 0,.d cI,.d cI],bs:=bsG f,n:=104,nx:=3000,marks:=[] }
def Bl1 (f:Nat):Lay:={ keys:=[],ks:=[],bs:=bsG f,n:=104,nx:=3000,marks:=[] }
def Aej (f:Nat):XE→Lay:=fun e=>match e with | .panic _=>Bg4 | _=>Bl1 f
abbrev S2:Type:=Ax×List Bool×Kns
def kn (t s k b o:Int):TCT cKn:=(t,s,k,b,o,())
def B1v (m:TCT Bd):TCT Bd:=(m.1,(0,0,()),m.2.2.1,())
def A3s (f:Nat) (x:GB) (n i:Int) (s:S2):(Ami f).T:=(((),n,i,()),(gb (gmU x.1 s.1 s.2.1) s.2.2))
def Att (f:Nat) (x:GB) (s:S2):A1 (Aej f):=⟨.exit 2,((),(gb (gmU x.1 s.1 s.2.1) s.2.2))⟩
abbrev TM2 (f:Nat):=Tree ((Ami f).T⊕A1 (Aej f))
def Amj {β:Type} (ks:Kns) (k:TCT cKn) (t:Kns→Tree β):Tree β:=bif E8 ks [k] 40 then t (ks++[k]) else .fail
def Zm (f:Nat) (x:GB) (n i:Int) (ms:Ax) (os:List Bool) (ks:Kns):TM2 f:=bif decide (i<n) then inO os.length i (bif !Bc os (Int.toNat i) (B7 .b) then inO ms.length i (
 bif !onB (gmL x.1) (A8 ms (Int.toNat i)).1 then inO os.length i (inO ms.length i (Amj ks (kn (gmT x.1) (gmS x.1) 2 i 0) fun ks'=>.leaf (.inl (A3s f x n (W64 (i+1)) (Bu ms (Int.toNat i) (B1v (A8 ms (Int.toNat i))),Bu os (Int.toNat i) true,ks')))))
 else .leaf (.inl (A3s f x n (W64 (i+1)) (ms,os,ks)))) else .leaf (.inl (A3s f x n (W64 (i+1)) (ms,os,ks)))) else .leaf (.inr (Att f x (ms,os,ks)))
def Atu (f:Nat) (g:(Ami f).T):TM2 f:=Zm f g.2 g.1.2.1 g.1.2.2.1 (gmM g.2.1) (gmO g.2.1) (gk g.2)
def fu_m2 (f:Nat) (g:(Ami f).T):Nat:=Int.toNat g.1.2.1+1
def sm_m2 (f:Nat):St→Tree (XE×St):=B8 (Ami f) (Aej f) (Dy [.exit 2] (Atu f) (fu_m2 f))
theorem Ais {f:Nat} (e:XE):(Ami f).nx≤(Aej f e).nx:=by cases e <;> exact Nat.le_refl _
noncomputable def Bl2 (f:Nat) (c:Nat×Func):Ctx:=W9 Tryz.prog plGm [(49,Tryz.f49),(100,Tryz.f100),c] [] (spG f)
theorem F5 {f:Nat} {c:Nat×Func} (hc:FnIs Tryz.prog c) (h1:C2 Tryz.prog 137 (sp_ro f)) (h2:C2 Tryz.prog 98 (sp_fl f)):CtxOk (Bl2 f c):=Hi Aw puGm (fns_cons is_must (fns_cons is_knock (fns_cons hc A0))) Ir (M8 is_rolls.plain h1 is_flies.plain h2)
theorem Bad:Bb Tryz.prog 102 Aip (sm_m1 53):=Hv (F5 is_Tick1 Hb Hd) 7 _ _ _ Aiq _ _ _ _ (fu_m1 53) (fun g=>by kernel_rfl)
theorem Bae:Bb Tryz.prog 102 Aip (sm_m1 107):=Hv (F5 is_run1 He Hf) 7 _ _ _ Aiq _ _ _ _ (fu_m1 107) (fun g=>by kernel_rfl)
theorem Baf:Bb Tryz.prog 102 Air (sm_m2 53):=Br (F5 is_Tick1 Hb Hd) 7 _ _ _ Ais _ _ (fu_m2 53) (fun g=>by kernel_rfl)
theorem Bag:Bb Tryz.prog 102 Air (sm_m2 107):=Br (F5 is_run1 He Hf) 7 _ _ _ Ais _ _ (fu_m2 107) (fun g=>by kernel_rfl)
def lvE (l:TCT A5) (t st:Int) (i:Nat) (s:S2):S2⊕Int:=bif !Bc s.2.1 i (B7 .b) then bif !onB l (A8 s.1 i).1 then .inl (Bu s.1 i (B1v (A8 s.1 i)),Bu s.2.1 i true,s.2.2++[kn t st 2 i 0]) else .inl s else .inl s
def Aek (f:Nat) (x:GB):S2⊕Int→A1 (Aej f)
 | .inl s=>Att f x s
 | .inr _=>Att f x ([],[],[])
structure Inv2 (n k:Nat) (i:Nat) (s:S2):Prop where
 m:s.1.length=n
 o:s.2.1.length=n
 k:s.2.2.length≤k+i
theorem Atv {l:TCT A5} {t st:Int} {n k:Nat} (i:Nat) (s s':S2) (_:i<n) (hi:Inv2 n k i s) (h:lvE l t st i s=.inl s'):Inv2 n k (i+1) s':=by
 unfold lvE at h
 have hk:=hi.k
 cases h1:!Bc s.2.1 i (B7 .b) with
 | false=>rw [h1] at h;cases h;exact ⟨hi.m,hi.o,by omega⟩
 | true =>
  rw [h1] at h
  cases h3:!onB l (A8 s.1 i).1 with
  | false=>rw [h3] at h;cases h;exact ⟨hi.m,hi.o,by omega⟩
  | true=>rw [h3] at h;cases h;exact ⟨by rw [Bw];exact hi.m,by rw [Bw];exact hi.o,by simp;omega⟩
theorem Bg6 {f:Nat} {x:GB} {s:S2} {n k:Nat} (hn8:n≤8) (hk:k≤900000) (hs:Inv2 n k 0 s):iter (Atu f) (n+1) (A3s f x n 0 s)=some (Aek f x (B6 (lvE (gmL x.1) (gmT x.1) (gmS x.1)) 0 n s)):=by
 have hn:(n:Int)≤Bl .i64:=by show (n:Int)≤9223372036854775807;omega
 refine Hz n (fun i s=>A3s f x n i s) (lvE (gmL x.1) (gmT x.1) (gmS x.1)) (Aek f x) (Inv2 n k) (fun i s hi hl=>?_) Atv (fun s hl=>?_) n 0 s (by omega) hs
 ·show (Zm f (gb (gmU x.1 s.1 s.2.1) s.2.2) n i s.1 s.2.1 s.2.2).run=_
  unfold Zm lvE Amj
  have h1:=hl.m
  have h2:=hl.o
  have h3:=hl.k
  rw [decide_eq_true (show (i:Int)<(n:Int) by omega),G4 (by omega),G4 (by omega),G4 (by omega),G4 (by omega),show Int.toNat (i:Int)=i from rfl,El hi hn,Jm (by simp;omega) (by decide)]
  cases Bc s.2.1 i (B7 .b) with
  | true=>rfl
  | false =>
   show (bif !onB (gmL x.1) (A8 s.1 i).1 then _ else _:TM2 f).run=_
   simp only [Bool.not_false,cond_true]
   cases onB (gmL x.1) (A8 s.1 i).1 <;> rfl
 ·show (Zm f (gb (gmU x.1 s.1 s.2.1) s.2.2) n n s.1 s.2.1 s.2.2).run=_
  unfold Zm
  rw [decide_eq_false (show ¬ (n:Int)<(n:Int) by omega)]
  rfl
end St
end V
end Go.Proofs.YtcfanlgpkefogaaGreat
namespace Go.Proofs.YtcfanlgpkefogaaGreat
open Go.RowKit
namespace V
theorem Vg {S B:Type} {f:Nat→S→S⊕B} (h:∀ i s,∃ s',f i s=.inl s'):∀ (k i:Nat) (s:S),∃ s',B6 f i k s=.inl s'
 | 0,_,s=>⟨s,rfl⟩
 | k+1,i,s=>by
  obtain ⟨s',hs⟩:=h i s
  unfold B6
  rw [hs]
  exact Vg h k (i+1) s'
namespace St
theorem Ait {l:TCT A5} {t st:Int} (i:Nat) (s:S2):∃ s',lvE l t st i s=.inl s':=by
 unfold lvE
 cases !Bc s.2.1 i (B7 .b) with
 | false=>exact ⟨_,rfl⟩
 | true=>cases !onB l (A8 s.1 i).1 <;> exact ⟨_,rfl⟩
noncomputable def Bl3 (f:Nat):Ctx:=W9 Tryz.prog plGm [(102,Tryz.f102)] [((102,1),sm_m1 f),((102,9),sm_m2 f)] (spG f)
theorem Aiu {f:Nat} (h1:C2 Tryz.prog 137 (sp_ro f)) (h2:C2 Tryz.prog 98 (sp_fl f)) (hl:Bb Tryz.prog 102 Aip (sm_m1 f)) (hm:Bb Tryz.prog 102 Air (sm_m2 f)):CtxOk (Bl3 f) :=
 Hi Aw puGm (fns_cons is_gmove A0) (Bn (Kk (ds:=[Aip,Air]) (by kernel_rfl) ⟨Hg (k:=1) (by kernel_rfl) rfl hl,Hg (k:=9) (by kernel_rfl) rfl hm,trivial⟩) Gi) (M8 is_rolls.plain h1 is_flies.plain h2)
def mvF (bl:List (TCT A3)) (l:TCT A5) (t st:Int) (n:Nat) (s:S2):S2⊕Int:=match B6 (stE bl s.2.1) 0 n s.1 with
 | .inl ms=>B6 (lvE l t st) 0 n (ms,s.2.1,s.2.2)
 | .inr e=>.inr e
def gs (x:GB):S2:=(gmM x.1,gmO x.1,gk x)
def Bg7 (f:Nat) (x:GB):Option (A1 (A9q f)):=iter (Ats f) (nBx x.1+1) (A3r f x (gmB x.1) (nBx x.1) 0 (gmM x.1))
def Bah (f:Nat) (x:GB):Option (A1 (Aej f)):=iter (Atu f) (nBx x.1+1) (A3s f x (nBx x.1) 0 (gs x))
abbrev TU (f:Nat):=Tree (En (FE_u f))
def B7d (f:Nat) (y:Option (A1 (Aej f))):TU f:=bif isE (.exit 2) y then .leaf ⟨true,((),(D4 (.exit 2) y).2)⟩ else .fail
def Atw (f:Nat) (y:Option (A1 (A9q f))):TU f:=bif isP 49 .i64 y then .leaf ⟨false,pnU f (panO 49 .i64 y).1⟩ else bif isE (.exit 0) y then B7d f (Bah f (D4 (.exit 0) y).2) else .fail
def T_mv (f:Nat) (x:GB):TU f:=Atw f (Bg7 f x)
def Qj (x:GB):Bool:=Amf x.1&&decide ((gk x).length≤900000)
def A9r (x:GB):Option (S2⊕Int):=bif Qj x then some (mvF (gmB x.1) (gmL x.1) (gmT x.1) (gmS x.1) (nBx x.1) (gs x)) else none
def Atx (f:Nat) (x:GB) (s:S2):(FE_u f true).T:=mkU f (gb (gmU x.1 s.1 s.2.1) s.2.2)
abbrev sp_mv (f:Nat):B0→Nat→List AV→Tree (Out×B0×Nat):=Ll Lu (FL_g f) (FE_u f) (Zi (fun g:(FL_g f).T=>A9r g.2) (fun g=>Atx f g.2) (pnU f) ([],[],[]))
theorem Zn {x:GB} (h:Qj x=true):OkGM x.1∧(gk x).length≤900000:=by
 unfold Qj at h
 simp only [Bool.and_eq_true,decide_eq_true_eq] at h
 exact ⟨F4.1 h.1,h.2⟩
theorem Aty {f:Nat} {g:(FL_g f).T} {z:S2⊕Int} (h:A9r g.2=some z):(T_mv f g.2).run=some (A2y (L:=FL_g f) (E:=FE_u f) (fun g=>Atx f g.2) (pnU f) g z):=by
 unfold A9r at h
 cases ho:Qj g.2 with
 | false=>rw [ho] at h;cases h
 | true =>
  rw [ho] at h
  cases h
  obtain ⟨hg,hk⟩:=Zn ho
  have hy:Bg7 f g.2=some (Vf f g.2 (B6 (stE (gmB g.2.1) (gmO g.2.1)) 0 (nBx g.2.1) (gmM g.2.1))):=Bg5 hg hg.ms
  unfold T_mv mvF
  rw [hy]
  show (Atw f (some (Vf f g.2 (B6 (stE (gmB g.2.1) (gmO g.2.1)) 0 (nBx g.2.1) (gmM g.2.1))))).run=some (A2y (L:=FL_g f) (E:=FE_u f) (fun g=>Atx f g.2) (pnU f) g (match B6 (stE (gmB g.2.1) (gmO g.2.1)) 0 (nBx g.2.1) (gmM g.2.1) with
   | .inl ms=>B6 (lvE (gmL g.2.1) (gmT g.2.1) (gmS g.2.1)) 0 (nBx g.2.1) (ms,gmO g.2.1,gk g.2)
   | .inr e=>.inr e))
  cases h1:B6 (stE (gmB g.2.1) (gmO g.2.1)) 0 (nBx g.2.1) (gmM g.2.1) with
  | inr e =>
   have h1:isP 49 .i64 (some (Vf f g.2 (.inr e)))=true:=Po
   have h2:panO 49 .i64 (some (Vf f g.2 (.inr e)))=⟨e,((),())⟩:=Kd
   unfold Atw
   rw [h1,h2]
   rfl
  | inl ms =>
   have hms:ms.length=nBx g.2.1:=Bf (n:=nBx g.2.1) (Inv:=fun _ (s:Ax)=>s.length=nBx g.2.1) Aei (nBx g.2.1) 0 _ _ (by omega) hg.ms h1
   have hz:Bah f (gb (gmU g.2.1 ms (gmO g.2.1)) (gk g.2))=some (Aek f (gb (gmU g.2.1 ms (gmO g.2.1)) (gk g.2)) (B6 (lvE (gmL g.2.1) (gmT g.2.1) (gmS g.2.1)) 0 (nBx g.2.1) (ms,gmO g.2.1,gk g.2))) :=
    Bg6 (n:=nBx g.2.1) (x:=gb (gmU g.2.1 ms (gmO g.2.1)) (gk g.2)) (s:=(ms,gmO g.2.1,gk g.2)) (k:=(gk g.2).length) hg.n hk ⟨hms,hg.os,by simp⟩
   show (B7d f (Bah f (gb (gmU g.2.1 ms (gmO g.2.1)) (gk g.2)))).run=some (A2y (L:=FL_g f) (E:=FE_u f) (fun g=>Atx f g.2) (pnU f) g (B6 (lvE (gmL g.2.1) (gmT g.2.1) (gmS g.2.1)) 0 (nBx g.2.1) (ms,gmO g.2.1,gk g.2)))
   rw [hz]
   obtain ⟨s',hs'⟩:=Vg (Ait (l:=gmL g.2.1) (t:=gmT g.2.1) (st:=gmS g.2.1)) (nBx g.2.1) 0 (ms,gmO g.2.1,gk g.2)
   rw [hs']
   rfl
theorem B1w:C2 Tryz.prog 102 (sp_mv 53):=Kj (Aiu Hb Hd Bad Baf) 6 I0 _ _ _ _ (fun g=>T_mv 53 g.2) (fun g=>by kernel_rfl) fun _ _ _ h=>Aty h
theorem B1x:C2 Tryz.prog 102 (sp_mv 107):=Kj (Aiu He Hf Bae Bag) 6 I0 _ _ _ _ (fun g=>T_mv 107 g.2) (fun g=>by kernel_rfl) fun _ _ _ h=>Aty h
end St
end V
end Go.Proofs.YtcfanlgpkefogaaGreat
namespace Go.Proofs.YtcfanlgpkefogaaGreat
open Go.RowKit
namespace V
def Vh (n:Nat) (p:TCT Ih):Prop:=0≤p.1∧p.1<p.2.1∧p.2.1<(n:Int)
theorem Atz {l:List (TCT A3)} {re dr:Int} {i k n:Nat} {s s':SS} (h:Fv l re dr i k s=some s') (hik:i<k) (hk:k<n) (hs:∀ p ∈ s.2,Vh n p):∀ p ∈ s'.2,Vh n p:=by
 unfold Fv at h
 cases h1:(Cd (bAt l s.1 i) (bAt l s.1 k) re dr).2.2.1==0 with
 | true =>
  rw [h1] at h
  simp only [cond_true,Option.some.injEq] at h
  subst h
  intro p hp
  rcases List.mem_append.1 hp with hp | hp
  ·exact hs p hp
  ·rw [List.mem_singleton] at hp
   subst hp
   exact ⟨Int.natCast_nonneg i,Int.ofNat_lt.2 hik,Int.ofNat_lt.2 hk⟩
 | false =>
  rw [h1,cond_false] at h
  cases h2:(Cd (bAt l s.1 i) (bAt l s.1 k) re dr).2.2.1==4 with
  | true=>rw [h2] at h;simp at h
  | false=>rw [h2] at h;simp only [cond_false,Option.some.injEq] at h;subst h;exact hs
theorem Au0 {l:List (TCT A3)} {re dr:Int} {i n:Nat}:∀ (f k:Nat) (s s':SS),inR l re dr i f k s=some s'→i<k→k+f≤n→(∀ p ∈ s.2,Vh n p)→∀ p ∈ s'.2,Vh n p
 | 0,k,s,s',h,_,_,hs=>by rw [inR,Option.some.injEq] at h;subst h;exact hs
 | f+1,k,s,s',h,hik,hk,hs=>by
  rw [inR] at h
  cases h1:Fv l re dr i k s with
  | none=>rw [h1] at h;simp at h
  | some s1 =>
   rw [h1,Option.bind_some] at h
   exact Au0 f (k+1) s1 s' h (by omega) (by omega) (Atz h1 hik (by omega) hs)
theorem Aiv {l:List (TCT A3)} {re dr:Int}:∀ (f i:Nat) (s s':SS),Iu l re dr f i s=some s'→i+f=l.length→(∀ p ∈ s.2,Vh l.length p)→(∀ p ∈ s'.2,Vh l.length p)∧s'.1.length=s.1.length∧s'.2.length≤s.2.length+f*l.length
 | 0,i,s,s',h,_,hs=>by rw [Mc,Option.some.injEq] at h;subst h;exact ⟨hs,rfl,by omega⟩
 | f+1,i,s,s',h,hi,hs=>by
  rw [K6] at h
  cases h1:inR l re dr i (l.length-(i+1)) (i+1) s with
  | none=>rw [h1] at h;simp at h
  | some s1 =>
   rw [h1,Option.bind_some] at h
   have a:=Ak6 _ _ _ _ h1
   have b:=Aiv f (i+1) s1 s' h (by omega) (Au0 _ _ _ _ h1 (by omega) (by omega) hs)
   refine ⟨b.1,b.2.1.trans a.1,?_⟩
   have e:(f+1)*l.length=f*l.length+l.length:=Nat.succ_mul f l.length
   omega
theorem Amk {l:List (TCT A3)} {s:List (TCT Bd)} {re dr:Int} (h:(Cn l s re dr).2.2.1=0) (hl:l.length≤8):(Cn l s re dr).1.length=s.length∧(Cn l s re dr).2.1.length≤64∧∀ p ∈ (Cn l s re dr).2.1,Vh l.length p:=by
 unfold Cn at h ⊢
 cases h1:N4 l s != 0 with
 | true=>rw [h1,cond_true] at h;exact absurd h (bne_iff_ne.1 h1)
 | false =>
  rw [h1,cond_false] at h
  simp only [cond_false]
  cases h2:!Ic re dr with
  | true=>rw [h2] at h;cases h
  | false =>
   rw [h2,cond_false] at h
   simp only [cond_false]
   cases h3:Iu l re dr l.length 0 (s,[]) with
   | none=>rw [h3] at h;cases h
   | some s' =>
    have a:=Aiv _ _ _ _ h3 (by omega) (fun p hp=>nomatch hp)
    refine ⟨a.2.1,?_,a.1⟩
    have b:s'.2.length≤0+l.length*l.length:=a.2.2
    have c:l.length*l.length≤8*8:=Nat.mul_le_mul hl hl
    show s'.2.length≤64
    omega
end V
end Go.Proofs.YtcfanlgpkefogaaGreat
namespace Go.Proofs.YtcfanlgpkefogaaGreat
open Go.RowKit
namespace V
def unE {S:Type}:S⊕Empty→S
 | .inl s=>s
 | .inr e=>nomatch e
theorem Jn {S:Type} (x:S⊕Empty):x=.inl (unE x):=by
 cases x with
 | inl s=>rfl
 | inr e=>exact nomatch e
namespace St
abbrev kI:SK:=.o 3 cI
abbrev kBa:SK:=.o 70 A3
abbrev kMo:SK:=.o 60 Bd
noncomputable def A9s:Code:=(As (bodyOf Tryz.f50)).getD 0 .skip
noncomputable def A9t:Code:=(As (bodyOf Tryz.f50)).getD 1 .skip
noncomputable def A9u:Code:=(As (bodyOf Tryz.f50)).getD 2 .skip
def Aml (f:Nat):Lay:={ keys:=[0,2,3,4,18,19,20],ks:=[.p 0 0 0 0,kI,kBa,kMo,.d (.sl A3),.d cI,.d cI],bs:=bsG f,n:=113,nx:=2000,marks:=[] }
def Bl4 (f:Nat):Lay:={ keys:=[0,2,3,4],ks:=[.p 0 0 0 0,kI,kBa,kMo],bs:=bsG f,n:=113,nx:=2000,marks:=[] }
def Ael (f:Nat):XE→Lay:=fun _=>Bl4 f
abbrev GA:Type:=List Int×List (TCT A3)×Ax
def Te (f:Nat) (x:GB) (bl:List (TCT A3)) (n i:Int) (s:GA):(Aml f).T:=(((),s.1,s.2.1,s.2.2,bl,n,i,()),x)
def A9v (f:Nat) (x:GB) (s:GA):A1 (Ael f):=⟨.exit 0,(((),s.1,s.2.1,s.2.2,()),x)⟩
abbrev TS1 (f:Nat):=Tree ((Aml f).T⊕A1 (Ael f))
def ap8 {β:Type} (w:List Int) (i:Int) (k:Tree β):Tree β:=bif E8 w [i] 8 then k else .fail
def B1y {β:Type} (w:List (TCT A3)) (i:TCT A3) (k:Tree β):Tree β:=bif E8 w [i] 16 then k else .fail
def B1z {β:Type} (w:Ax) (i:TCT Bd) (k:Tree β):Tree β:=bif E8 w [i] 48 then k else .fail
theorem Bai {β:Type} {w:List Int} {i:Int} {k:Tree β} (h:w.length≤1000):ap8 w i k=k:=by unfold ap8;rw [Jm (by simp;omega) (by decide)];rfl
theorem B20 {β:Type} {w:List (TCT A3)} {i:TCT A3} {k:Tree β} (h:w.length≤1000):B1y w i k=k:=by unfold B1y;rw [Jm (by simp;omega) (by decide)];rfl
theorem B21 {β:Type} {w:Ax} {i:TCT Bd} {k:Tree β} (h:w.length≤1000):B1z w i k=k:=by unfold B1z;rw [Jm (by simp;omega) (by decide)];rfl
def ga1 (i:Int) (b:TCT A3) (m:TCT Bd) (s:GA):GA:=(s.1++[i],s.2.1++[b],s.2.2++[m])
def Aem (f:Nat) (x:GB) (bl:List (TCT A3)) (n i:Int) (s:GA):TS1 f:=bif decide (i<n) then inN bl.length i (inO (gmO x.1).length i (
 bif !Bc (gmO x.1) (Int.toNat i) (B7 .b) then bif !F9 (gmW x.1) (gmF x.1) i then inO (gmM x.1).length i (ap8 s.1 i (B1y s.2.1 (E6 bl (Int.toNat i)) (B1z s.2.2 (A8 (gmM x.1) (Int.toNat i))
  (.leaf (.inl (Te f x bl n (W64 (i+1)) (ga1 i (E6 bl (Int.toNat i)) (A8 (gmM x.1) (Int.toNat i)) s)))))))
 else .leaf (.inl (Te f x bl n (W64 (i+1)) s)) else .leaf (.inl (Te f x bl n (W64 (i+1)) s)))) else .leaf (.inr (A9v f x s))
def Au1 (f:Nat) (g:(Aml f).T):TS1 f:=Aem f g.2 g.1.2.2.2.2.1 g.1.2.2.2.2.2.1 g.1.2.2.2.2.2.2.1 (g.1.2.1,g.1.2.2.1,g.1.2.2.2.1)
def fu_s1 (f:Nat) (g:(Aml f).T):Nat:=Int.toNat g.1.2.2.2.2.2.1+1
def sm_s1 (f:Nat):St→Tree (XE×St):=B8 (Aml f) (Ael f) (Dy [.exit 0] (Au1 f) (fu_s1 f))
theorem A5z {f:Nat} (e:XE):(Aml f).nx≤(Ael f e).nx:=Nat.le_refl _
def gaE (bl:List (TCT A3)) (ms:Ax) (os:List Bool) (w fl:Int) (i:Nat) (s:GA):GA⊕Empty:=.inl (bif !Bc os i (B7 .b)&&!F9 w fl i then ga1 i (E6 bl i) (A8 ms i) s else s)
def gaV (bl:List (TCT A3)) (w fl:Int) (n:Nat) (ms:Ax) (os:List Bool):GA:=unE (B6 (gaE bl ms os w fl) 0 n ([],[],[]))
structure InvG (n i:Nat) (s:GA):Prop where
 b:s.2.1.length=s.1.length
 m:s.2.2.length=s.1.length
 k:s.1.length≤i
 r:∀ w ∈ s.1,0≤w∧w<(n:Int)
theorem Aen {bl:List (TCT A3)} {ms:Ax} {os:List Bool} {w fl:Int} {n:Nat} (i:Nat) (s s':GA) (hi:i<n) (h:InvG n i s) (h2:gaE bl ms os w fl i s=.inl s'):InvG n (i+1) s':=by
 unfold gaE at h2
 have hb:=h.b
 have hm:=h.m
 have hk:=h.k
 cases hc:!Bc os i (B7 .b)&&!F9 w fl i with
 | false =>
  rw [hc] at h2
  simp only [cond_false,Sum.inl.injEq] at h2
  subst h2
  exact ⟨hb,hm,by omega,h.r⟩
 | true =>
  rw [hc] at h2
  simp only [cond_true,Sum.inl.injEq] at h2
  subst h2
  refine ⟨by simp [ga1,hb],by simp [ga1,hm],by simp [ga1];omega,fun v hv=>?_⟩
  rcases List.mem_append.1 hv with hv | hv
  ·exact h.r v hv
  ·rw [List.mem_singleton] at hv;subst hv;omega
theorem Aiw {bl:List (TCT A3)} {w fl:Int} {n:Nat} {ms:Ax} {os:List Bool}:InvG n n (gaV bl w fl n ms os) :=
 Bf (n:=n) (Inv:=InvG n) Aen n 0 _ _ (by omega) ⟨rfl,rfl,Nat.le_refl _,fun _ h=>absurd h List.not_mem_nil⟩ (Jn (B6 (gaE bl ms os w fl) 0 n ([],[],[])))
def Baj (f:Nat) (x:GB) (r:GA⊕Empty):A1 (Ael f):=A9v f x (unE r)
theorem Bg8 {f:Nat} {x:GB} (hx:OkGM x.1):iter (Au1 f) (nBx x.1+1) (Te f x (gmB x.1) (nBx x.1) 0 ([],[],[]))=some (A9v f x (gaV (gmB x.1) (gmW x.1) (gmF x.1) (nBx x.1) (gmM x.1) (gmO x.1))):=by
 have hn8:=hx.n
 have hos:=hx.os
 have hms:=hx.ms
 have hn:(nBx x.1:Int)≤Bl .i64:=by show (nBx x.1:Int)≤9223372036854775807;omega
 refine Hz (nBx x.1) (fun i s=>Te f x (gmB x.1) (nBx x.1) i s) (gaE (gmB x.1) (gmM x.1) (gmO x.1) (gmW x.1) (gmF x.1)) (Baj f x) (InvG (nBx x.1)) (fun i s hi hl=>?_) Aen (fun s hl=>?_) (nBx x.1) 0 ([],[],[]) (by omega) ⟨rfl,rfl,Nat.le_refl _,fun _ h=>absurd h List.not_mem_nil⟩
 ·show Tree.run (bif decide ((i:Int)<(nBx x.1:Int)) then inN (nBx x.1) i (inO (gmO x.1).length i (
   bif !Bc (gmO x.1) i (B7 .b) then bif !F9 (gmW x.1) (gmF x.1) i then inO (gmM x.1).length i (ap8 s.1 i (B1y s.2.1 (E6 (gmB x.1) i) (B1z s.2.2 (A8 (gmM x.1) i)
    (.leaf (.inl (Te f x (gmB x.1) (nBx x.1) (W64 (i+1)) (ga1 i (E6 (gmB x.1) i) (A8 (gmM x.1) i) s)))))))
   else .leaf (.inl (Te f x (gmB x.1) (nBx x.1) (W64 (i+1)) s)) else .leaf (.inl (Te f x (gmB x.1) (nBx x.1) (W64 (i+1)) s)))) else .leaf (.inr (A9v f x s)):TS1 f)=_
  have h1:=hl.b
  have h2:=hl.m
  have h3:=hl.k
  rw [decide_eq_true (show (i:Int)<(nBx x.1:Int) by omega),Dd (by omega),G4 (by omega),G4 (by omega),Bai (by omega),B20 (by omega),B21 (by omega),El hi hn]
  unfold gaE
  cases Bc (gmO x.1) i (B7 .b) with
  | true=>rfl
  | false=>cases F9 (gmW x.1) (gmF x.1) i <;> rfl
 ·show (Aem f x (gmB x.1) (nBx x.1) (nBx x.1) s).run=_
  unfold Aem
  rw [decide_eq_false (show ¬ (nBx x.1:Int)<(nBx x.1:Int) by omega)]
  rfl
def Amm (f:Nat):Lay:={ keys:=[0,2,4,7,75,76,77],ks:=[.p 0 0 0 0,.d (.sl cI),.d (.sl Bd),.d (.sl Ih),.d (.sl cI),.d cI,.d cI],bs:=bsG f,n:=113,nx:=3000,marks:=[] }
def Bl5 (f:Nat):Lay:={ keys:=[0,2,7],ks:=[.p 0 0 0 0,.d (.sl cI),.d (.sl Ih)],bs:=bsG f,n:=113,nx:=3000,marks:=[] }
def Aeo (f:Nat):XE→Lay:=fun _=>Bl5 f
abbrev Prs:Type:=List (TCT Ih)
def Aix (f:Nat) (x:GB) (W:List Int) (M:Ax) (P:Prs) (W2:List Int) (n i:Int) (ms:Ax):(Amm f).T:=(((),W,M,P,W2,n,i,()),gb (gmU x.1 ms (gmO x.1)) (gk x))
def Au2 (f:Nat) (x:GB) (W:List Int) (P:Prs) (ms:Ax):A1 (Aeo f):=⟨.exit 2,(((),W,P,()),gb (gmU x.1 ms (gmO x.1)) (gk x))⟩
abbrev TS2 (f:Nat):=Tree ((Amm f).T⊕A1 (Aeo f))
def Zo (f:Nat) (x:GB) (W:List Int) (M:Ax) (P:Prs) (W2:List Int) (n i:Int) (ms:Ax):TS2 f:=bif decide (i<n) then inN W2.length i (inN M.length i (inO ms.length (Bc W2 (Int.toNat i) (B7 cI)) (
 .leaf (.inl (Aix f x W M P W2 n (W64 (i+1)) (Bu ms (Int.toNat (Bc W2 (Int.toNat i) (B7 cI))) (A8 M (Int.toNat i)))))))) else .leaf (.inr (Au2 f x W P ms))
def Au3 (f:Nat) (g:(Amm f).T):TS2 f:=Zo f g.2 g.1.2.1 g.1.2.2.1 g.1.2.2.2.1 g.1.2.2.2.2.1 g.1.2.2.2.2.2.1 g.1.2.2.2.2.2.2.1 (gmM g.2.1)
def fu_s2 (f:Nat) (g:(Amm f).T):Nat:=Int.toNat g.1.2.2.2.2.2.1+1
def sm_s2 (f:Nat):St→Tree (XE×St):=B8 (Amm f) (Aeo f) (Dy [.exit 2] (Au3 f) (fu_s2 f))
theorem A60 {f:Nat} (e:XE):(Amm f).nx≤(Aeo f e).nx:=Nat.le_refl _
def scE (W:List Int) (M:Ax) (i:Nat) (ms:Ax):Ax⊕Empty:=.inl (Bu ms (Int.toNat (Bc W i (B7 cI))) (A8 M i))
def scV (W:List Int) (M ms:Ax):Ax:=unE (B6 (scE W M) 0 W.length ms)
theorem Au4 {W:List Int} {M:Ax} {n k:Nat} (i:Nat) (s s':Ax) (_:i<n) (h:s.length=k) (h2:scE W M i s=.inl s'):s'.length=k:=by
 cases h2
 rw [Bw];exact h
theorem Aiy {W:List Int} {M ms:Ax}:(scV W M ms).length=ms.length :=
 Bf (n:=W.length) (Inv:=fun _ (s:Ax)=>s.length=ms.length) Au4 W.length 0 ms _ (by omega) rfl (Jn (B6 (scE W M) 0 W.length ms))
def Bak (f:Nat) (x:GB) (W:List Int) (P:Prs) (r:Ax⊕Empty):A1 (Aeo f):=Au2 f x W P (unE r)
theorem Bg9 {f:Nat} {x:GB} {W:List Int} {M:Ax} {P:Prs} {ms:Ax} {n:Nat} (hW:∀ w ∈ W,0≤w∧w<(n:Int)) (hM:M.length=W.length) (hms:ms.length=n) (hl:W.length≤1000) :
  iter (Au3 f) (W.length+1) (Aix f x W M P W W.length 0 ms)=some (Au2 f x W P (scV W M ms)):=by
 have hn:(W.length:Int)≤Bl .i64:=by show (W.length:Int)≤9223372036854775807;omega
 refine Hz W.length (fun i s=>Aix f x W M P W W.length i s) (scE W M) (Bak f x W P) (fun _ s=>s.length=n) (fun i s hi hs=>?_) Au4 (fun s hs=>?_) W.length 0 ms (by omega) hms
 ·show (Zo f (gb (gmU x.1 s (gmO x.1)) (gk x)) W M P W W.length i s).run=_
  have hw:=hW (Bc W i (B7 cI)) (by rw [Ed hi];exact List.getElem_mem hi)
  unfold Zo
  rw [decide_eq_true (show (i:Int)<(W.length:Int) by omega),Dd (by omega),Dd (by omega),show Int.toNat (i:Int)=i from rfl,G4 (by omega),El hi hn]
  rfl
 ·show (Zo f (gb (gmU x.1 s (gmO x.1)) (gk x)) W M P W W.length W.length s).run=_
  unfold Zo
  rw [decide_eq_false (show ¬ (W.length:Int)<(W.length:Int) by omega)]
  rfl
def Amn (f:Nat):Lay:={ keys:=[0,2,94,95,96],ks:=[.p 0 0 0 0,.d (.sl cI),.d (.sl Ih),.d cI,.d cI],bs:=bsG f,n:=113,nx:=4000,marks:=[] }
def Bl6 (f:Nat):Lay:={ keys:=[],ks:=[],bs:=bsG f,n:=113,nx:=4000,marks:=[] }
def Aep (f:Nat):XE→Lay:=fun _=>Bl6 f
def Aiz (f:Nat) (x:GB) (W:List Int) (P:Prs) (n i:Int) (ks:Kns):(Amn f).T:=(((),W,P,n,i,()),gb x.1 ks)
def Au5 (f:Nat) (x:GB) (ks:Kns):A1 (Aep f):=⟨.exit 4,((),gb x.1 ks)⟩
abbrev TS3 (f:Nat):=Tree ((Amn f).T⊕A1 (Aep f))
def Ma (P:Prs) (i:Nat):TCT Ih:=Bc P i (B7 Ih)
def knP (t st:Int) (W:List Int) (p:TCT Ih):TCT cKn:=kn t st 0 (Bc W (Int.toNat p.1) (B7 cI)) (Bc W (Int.toNat p.2.1) (B7 cI))
def Zp (f:Nat) (x:GB) (W:List Int) (P:Prs) (n i:Int) (ks:Kns):TS3 f:=bif decide (i<n) then inN P.length i (inN W.length (Ma P (Int.toNat i)).1 (inN W.length (Ma P (Int.toNat i)).2.1 (
 Amj ks (knP (gmT x.1) (gmS x.1) W (Ma P (Int.toNat i))) fun ks'=>.leaf (.inl (Aiz f x W P n (W64 (i+1)) ks'))))) else .leaf (.inr (Au5 f x ks))
def Au6 (f:Nat) (g:(Amn f).T):TS3 f:=Zp f g.2 g.1.2.1 g.1.2.2.1 g.1.2.2.2.1 g.1.2.2.2.2.1 (gk g.2)
def fu_s3 (f:Nat) (g:(Amn f).T):Nat:=Int.toNat g.1.2.2.2.1+1
def sm_s3 (f:Nat):St→Tree (XE×St):=B8 (Amn f) (Aep f) (Dy [.exit 4] (Au6 f) (fu_s3 f))
theorem A61 {f:Nat} (e:XE):(Amn f).nx≤(Aep f e).nx:=Nat.le_refl _
def kpE (W:List Int) (P:Prs) (t st:Int) (i:Nat) (ks:Kns):Kns⊕Empty:=.inl (ks++[knP t st W (Ma P i)])
def kpV (W:List Int) (P:Prs) (t st:Int) (ks:Kns):Kns:=unE (B6 (kpE W P t st) 0 P.length ks)
theorem Au7 {W:List Int} {P:Prs} {t st:Int} {n k:Nat} (i:Nat) (s s':Kns) (_:i<n) (h:s.length=k+i) (h2:kpE W P t st i s=.inl s'):s'.length=k+(i+1):=by
 cases h2
 simp only [List.length_append,List.length_singleton]
 omega
theorem Aj0 {W:List Int} {P:Prs} {t st:Int} {ks:Kns}:(kpV W P t st ks).length=ks.length+P.length :=
 Bf (n:=P.length) (Inv:=fun i (s:Kns)=>s.length=ks.length+i) Au7 P.length 0 ks _ (by omega) rfl (Jn (B6 (kpE W P t st) 0 P.length ks))
def Bal (f:Nat) (x:GB) (r:Kns⊕Empty):A1 (Aep f):=Au5 f x (unE r)
theorem Bga {f:Nat} {x:GB} {W:List Int} {P:Prs} {ks:Kns} (hP:∀ p ∈ P,Vh W.length p) (hk:ks.length≤900000) (hl:P.length≤1000) :
  iter (Au6 f) (P.length+1) (Aiz f x W P P.length 0 ks)=some (Au5 f x (kpV W P (gmT x.1) (gmS x.1) ks)):=by
 have hn:(P.length:Int)≤Bl .i64:=by show (P.length:Int)≤9223372036854775807;omega
 refine Hz P.length (fun i s=>Aiz f x W P P.length i s) (kpE W P (gmT x.1) (gmS x.1)) (Bal f x) (fun i s=>s.length=ks.length+i) (fun i s hi hs=>?_) Au7 (fun s hs=>?_) P.length 0 ks (by omega) rfl
 ·show (Zp f (gb x.1 s) W P P.length i s).run=_
  have hp:=hP (Ma P i) (by unfold Ma;rw [Ed hi];exact List.getElem_mem hi)
  unfold Zp Amj
  rw [decide_eq_true (show (i:Int)<(P.length:Int) by omega),Dd (by omega),show Int.toNat (i:Int)=i from rfl,Dd ⟨hp.1,Int.lt_trans hp.2.1 hp.2.2⟩,Dd ⟨Int.le_trans hp.1 (Int.le_of_lt hp.2.1),hp.2.2⟩,Jm (by simp;omega) (by decide),El hi hn]
  rfl
 ·show (Zp f (gb x.1 s) W P P.length P.length s).run=_
  unfold Zp
  rw [decide_eq_false (show ¬ (P.length:Int)<(P.length:Int) by omega)]
  rfl
theorem Bam:Bb Tryz.prog 50 A9s (sm_s1 53):=Br (F5 is_Tick1 Hb Hd) 7 _ _ _ A5z _ _ (fu_s1 53) (fun g=>by kernel_rfl)
theorem Ban:Bb Tryz.prog 50 A9t (sm_s2 53):=Br (F5 is_Tick1 Hb Hd) 7 _ _ _ A60 _ _ (fu_s2 53) (fun g=>by kernel_rfl)
theorem Bao:Bb Tryz.prog 50 A9u (sm_s3 53):=Br (F5 is_Tick1 Hb Hd) 7 _ _ _ A61 _ _ (fu_s3 53) (fun g=>by kernel_rfl)
theorem Bap:Bb Tryz.prog 50 A9s (sm_s1 46):=Br (F5 is_Strike1 Xu Xv) 7 _ _ _ A5z _ _ (fu_s1 46) (fun g=>by kernel_rfl)
theorem Baq:Bb Tryz.prog 50 A9t (sm_s2 46):=Br (F5 is_Strike1 Xu Xv) 7 _ _ _ A60 _ _ (fu_s2 46) (fun g=>by kernel_rfl)
theorem Bar:Bb Tryz.prog 50 A9u (sm_s3 46):=Br (F5 is_Strike1 Xu Xv) 7 _ _ _ A61 _ _ (fu_s3 46) (fun g=>by kernel_rfl)
theorem Bas:Bb Tryz.prog 50 A9s (sm_s1 107):=Br (F5 is_run1 He Hf) 7 _ _ _ A5z _ _ (fu_s1 107) (fun g=>by kernel_rfl)
theorem Bat:Bb Tryz.prog 50 A9t (sm_s2 107):=Br (F5 is_run1 He Hf) 7 _ _ _ A60 _ _ (fu_s2 107) (fun g=>by kernel_rfl)
theorem Bau:Bb Tryz.prog 50 A9u (sm_s3 107):=Br (F5 is_run1 He Hf) 7 _ _ _ A61 _ _ (fu_s3 107) (fun g=>by kernel_rfl)
end St
end V
end Go.Proofs.YtcfanlgpkefogaaGreat
namespace Go.Proofs.YtcfanlgpkefogaaGreat
open Go.RowKit
namespace V
namespace St
def gmC (m:GM):TCT Co:=(m.2.2.2.2.2.2.2.2.2.2.2.2.1,m.2.2.2.2.2.2.2.2.2.2.2.2.2.1,())
noncomputable def A62 (f:Nat):Ctx:=W9 Tryz.prog plGm [(50,Tryz.f50),(49,Tryz.f49)] [((50,4),sm_s1 f),((50,12),sm_s2 f),((50,17),sm_s3 f)] (spG f)
theorem A63 {f:Nat} (h1:C2 Tryz.prog 137 (sp_ro f)) (h2:C2 Tryz.prog 98 (sp_fl f)) (l1:Bb Tryz.prog 50 A9s (sm_s1 f)) (l2:Bb Tryz.prog 50 A9t (sm_s2 f)) (l3:Bb Tryz.prog 50 A9u (sm_s3 f)):CtxOk (A62 f) :=
 Hi Aw puGm (fns_cons is_gsettle (fns_cons is_must A0)) (Bn (Kk (ds:=[A9s,A9t,A9u]) (by kernel_rfl) ⟨Hg (k:=4) (by kernel_rfl) rfl l1,Hg (k:=12) (by kernel_rfl) rfl l2,Hg (k:=17) (by kernel_rfl) rfl l3,trivial⟩) (Bn (D3 (by kernel_rfl)) Gi)) (M8 is_rolls.plain h1 is_flies.plain h2)
def seG (bl:List (TCT A3)) (w fl:Int) (n:Nat) (s:S2):GA:=gaV bl w fl n s.1 s.2.1
def seS (bl:List (TCT A3)) (bc:TCT Co) (w fl:Int) (n:Nat) (s:S2):B4h:=Cn (seG bl w fl n s).2.1 (seG bl w fl n s).2.2 bc.1 bc.2.1
def seF (bl:List (TCT A3)) (bc:TCT Co) (t st w fl:Int) (n:Nat) (s:S2):(Ax×Kns)⊕Int :=
 bif (seS bl bc w fl n s).2.2.1 != 0 then .inr (seS bl bc w fl n s).2.2.1 else .inl (scV (seG bl w fl n s).1 (seS bl bc w fl n s).1 s.1,kpV (seG bl w fl n s).1 (seS bl bc w fl n s).2.1 t st s.2.2)
def B7e (f:Nat) (y:Option (A1 (Aep f))):TU f:=bif isE (.exit 4) y then .leaf ⟨true,((),(D4 (.exit 4) y).2)⟩ else .fail
def Bav (f:Nat) (x:GB) (W:List Int) (P:Prs):Option (A1 (Aep f)):=iter (Au6 f) (P.length+1) (Aiz f x W P P.length 0 (gk x))
def Bgb (f:Nat) (y:Option (A1 (Aeo f))):TU f:=bif isE (.exit 2) y then B7e f (Bav f (D4 (.exit 2) y).2 (D4 (.exit 2) y).1.2.1 (D4 (.exit 2) y).1.2.2.1) else .fail
def Bgc (f:Nat) (x:GB) (W:List Int) (M:Ax) (P:Prs):Option (A1 (Aeo f)):=iter (Au3 f) (W.length+1) (Aix f x W M P W W.length 0 (gmM x.1))
def Aeq (f:Nat) (x:GB) (W:List Int) (r:B4h):TU f:=bif r.2.2.1 != 0 then .leaf ⟨false,pnU f r.2.2.1⟩ else Bgb f (Bgc f x W r.1 r.2.1)
def Bgd (f:Nat) (y:Option (A1 (Ael f))):TU f:=bif isE (.exit 0) y then Aeq f (D4 (.exit 0) y).2 (D4 (.exit 0) y).1.2.1 (Cn (D4 (.exit 0) y).1.2.2.1 (D4 (.exit 0) y).1.2.2.2.1 (gmC (D4 (.exit 0) y).2.1).1 (gmC (D4 (.exit 0) y).2.1).2.1) else .fail
def Bge (f:Nat) (x:GB):Option (A1 (Ael f)):=iter (Au1 f) (nBx x.1+1) (Te f x (gmB x.1) (nBx x.1) 0 ([],[],[]))
def T_se (f:Nat) (x:GB):TU f:=Bgd f (Bge f x)
def Rm (x:GB):Option ((Ax×Kns)⊕Int):=bif Qj x then some (seF (gmB x.1) (gmC x.1) (gmT x.1) (gmS x.1) (gmW x.1) (gmF x.1) (nBx x.1) (gs x)) else none
def A9w (f:Nat) (x:GB) (s:Ax×Kns):(FE_u f true).T:=mkU f (gb (gmU x.1 s.1 (gmO x.1)) s.2)
abbrev sp_se (f:Nat):B0→Nat→List AV→Tree (Out×B0×Nat):=Ll Lu (FL_g f) (FE_u f) (Zi (fun g:(FL_g f).T=>Rm g.2) (fun g=>A9w f g.2) (pnU f) ([],[]))
theorem Vi {bl:List (TCT A3)} {bc:TCT Co} {w fl:Int} {n:Nat} {s:S2} (hn:n≤8) (h:(seS bl bc w fl n s).2.2.1=0):(seS bl bc w fl n s).1.length=(seG bl w fl n s).1.length∧(seS bl bc w fl n s).2.1.length≤64∧∀ p ∈ (seS bl bc w fl n s).2.1,Vh (seG bl w fl n s).1.length p:=by
 have hg:InvG n n (seG bl w fl n s):=Aiw
 have a:=Amk (l:=(seG bl w fl n s).2.1) (s:=(seG bl w fl n s).2.2) (re:=bc.1) (dr:=bc.2.1) h (by rw [hg.b];have:=hg.k;omega)
 rw [hg.b] at a
 exact ⟨a.1.trans hg.m,a.2.1,a.2.2⟩
theorem Aer {f:Nat} {g:(FL_g f).T} {z:(Ax×Kns)⊕Int} (h:Rm g.2=some z):(T_se f g.2).run=some (A2y (L:=FL_g f) (E:=FE_u f) (fun g=>A9w f g.2) (pnU f) g z):=by
 unfold Rm at h
 cases ho:Qj g.2 with
 | false=>rw [ho] at h;cases h
 | true =>
  rw [ho] at h
  cases h
  obtain ⟨hg,hk⟩:=Zn ho
  unfold T_se
  rw [show Bge f g.2=some (A9v f g.2 (seG (gmB g.2.1) (gmW g.2.1) (gmF g.2.1) (nBx g.2.1) (gs g.2))) from Bg8 hg]
  show (Aeq f g.2 (seG (gmB g.2.1) (gmW g.2.1) (gmF g.2.1) (nBx g.2.1) (gs g.2)).1 (seS (gmB g.2.1) (gmC g.2.1) (gmW g.2.1) (gmF g.2.1) (nBx g.2.1) (gs g.2))).run=_
  unfold seF Aeq
  have hn8:=hg.n
  cases he:(seS (gmB g.2.1) (gmC g.2.1) (gmW g.2.1) (gmF g.2.1) (nBx g.2.1) (gs g.2)).2.2.1 != 0 with
  | true=>rfl
  | false =>
   have hs:=Vi hn8 (bne_eq_false_iff_eq.1 he)
   have hi:InvG (nBx g.2.1) (nBx g.2.1) (seG (gmB g.2.1) (gmW g.2.1) (gmF g.2.1) (nBx g.2.1) (gs g.2)):=Aiw
   have hik:=hi.k
   simp only [cond_false]
   rw [show Bgc f g.2 (seG (gmB g.2.1) (gmW g.2.1) (gmF g.2.1) (nBx g.2.1) (gs g.2)).1 (seS (gmB g.2.1) (gmC g.2.1) (gmW g.2.1) (gmF g.2.1) (nBx g.2.1) (gs g.2)).1 (seS (gmB g.2.1) (gmC g.2.1) (gmW g.2.1) (gmF g.2.1) (nBx g.2.1) (gs g.2)).2.1=_ from Bg9 hi.r hs.1 hg.ms (by omega)]
   show (B7e f (Bav f (gb (gmU g.2.1 (scV (seG (gmB g.2.1) (gmW g.2.1) (gmF g.2.1) (nBx g.2.1) (gs g.2)).1 (seS (gmB g.2.1) (gmC g.2.1) (gmW g.2.1) (gmF g.2.1) (nBx g.2.1) (gs g.2)).1 (gmM g.2.1)) (gmO g.2.1)) (gk g.2)) (seG (gmB g.2.1) (gmW g.2.1) (gmF g.2.1) (nBx g.2.1) (gs g.2)).1 (seS (gmB g.2.1) (gmC g.2.1) (gmW g.2.1) (gmF g.2.1) (nBx g.2.1) (gs g.2)).2.1)).run=_
   have hs64:=hs.2.1
   rw [show Bav f (gb (gmU g.2.1 (scV (seG (gmB g.2.1) (gmW g.2.1) (gmF g.2.1) (nBx g.2.1) (gs g.2)).1 (seS (gmB g.2.1) (gmC g.2.1) (gmW g.2.1) (gmF g.2.1) (nBx g.2.1) (gs g.2)).1 (gmM g.2.1)) (gmO g.2.1)) (gk g.2)) (seG (gmB g.2.1) (gmW g.2.1) (gmF g.2.1) (nBx g.2.1) (gs g.2)).1 (seS (gmB g.2.1) (gmC g.2.1) (gmW g.2.1) (gmF g.2.1) (nBx g.2.1) (gs g.2)).2.1=_ from Bga (x:=gb (gmU g.2.1 (scV (seG (gmB g.2.1) (gmW g.2.1) (gmF g.2.1) (nBx g.2.1) (gs g.2)).1 (seS (gmB g.2.1) (gmC g.2.1) (gmW g.2.1) (gmF g.2.1) (nBx g.2.1) (gs g.2)).1 (gmM g.2.1)) (gmO g.2.1)) (gk g.2)) hs.2.2 hk (by omega)]
   rfl
theorem B22:C2 Tryz.prog 50 (sp_se 53):=Kj (A63 Hb Hd Bam Ban Bao) 6 I0 _ _ _ _ (fun g=>T_se 53 g.2) (fun g=>by kernel_rfl) fun _ _ _ h=>Aer h
theorem B23:C2 Tryz.prog 50 (sp_se 46):=Kj (A63 Xu Xv Bap Baq Bar) 6 I0 _ _ _ _ (fun g=>T_se 46 g.2) (fun g=>by kernel_rfl) fun _ _ _ h=>Aer h
theorem B24:C2 Tryz.prog 50 (sp_se 107):=Kj (A63 He Hf Bas Bat Bau) 6 I0 _ _ _ _ (fun g=>T_se 107 g.2) (fun g=>by kernel_rfl) fun _ _ _ h=>Aer h
end St
end V
end Go.Proofs.YtcfanlgpkefogaaGreat
namespace Go.Proofs.YtcfanlgpkefogaaGreat
open Go.RowKit
namespace V
namespace St
noncomputable def A3t:Code:=(As (bodyOf Tryz.f103)).getD 0 .skip
noncomputable def Zq:Code:=(As (bodyOf Tryz.f103)).getD 1 .skip
abbrev kBb:List SK:=[.d cI,.d cI]
def Aes (f:Nat):Lay:={ keys:=[0,2,3,13,14,15,24,25,26],ks:=[.p 0 0 0 0,.d cI,.p 2002 0 0 0,.d (.sl A3),.d cI,.d cI,.d (.sl A2),.d cI,.d cI],bs:=[(0,137,kGm f),(1,48,[.o 58 cKn]),(2002,70,kBb)],n:=81,nx:=3000,marks:=[] }
def Bgf (f:Nat):Lay:={ keys:=[0,13,14,15],ks:=[.p 0 0 0 0,.d (.sl A3),.d cI,.d cI],bs:=bsG f,n:=81,nx:=3000,marks:=[] }
def Bgg:Lay:={ keys:=[],ks:=[],bs:=[],n:=81,nx:=4000,marks:=[] }
def A9x (f:Nat):XE→Lay:=fun e=>match e with | .panic _=>Bgg | _=>Bgf f
def Aet (f:Nat):Lay:={ keys:=[0,13,14,15],ks:=[.p 0 0 0 0,.d (.sl A3),.d cI,.d cI],bs:=bsG f,n:=81,nx:=2000,marks:=[] }
def Bl7 (f:Nat):Lay:={ keys:=[],ks:=[],bs:=bsG f,n:=81,nx:=2000,marks:=[] }
def Aeu (f:Nat):XE→Lay:=fun e=>match e with | .panic _=>Bgg | _=>Bl7 f
theorem Aj1 {f:Nat} (e:XE):(Aes f).nx≤(A9x f e).nx:=by cases e <;> first | exact Nat.le_refl _ | exact (by decide:(3000:Nat)≤4000)
theorem Aj2 {f:Nat} (e:XE):(Aet f).nx≤(Aeu f e).nx:=by cases e <;> first | exact Nat.le_refl _ | exact (by decide:(2000:Nat)≤4000)
abbrev Dss:Type:=List (TCT A2)
abbrev MK:Type:=Ax×Kns
def Fi (ps:Dss) (i:Nat):TCT A2:=Bc ps i (B7 A2)
def bmV (b:TCT A3) (m:TCT Bd) (d:TCT A2) (c:TCT Co):TCTs [Bd,cI]:=Abb (bm b m) d.1.1 d.1.2.1 d.2.1 c.1 c.2.1
structure Cb where
 i:Int
 b:TCT A3
 bl:List (TCT A3)
 n1:Int
 i1:Int
 ps:Dss
def gmb (m:GM) (k:Kns) (b:TCT A3):GM×SKTs [.o 0 cKn]×SKTs kBb×Unit:=(m,(k,()),b,())
def A9y (f:Nat) (x:GB) (c:Cb) (n k:Int) (s:MK):(Aes f).T:=(((),c.i,(),c.bl,c.n1,c.i1,c.ps,n,k,()),gmb (gmU x.1 s.1 (gmO x.1)) s.2 c.b)
def Zr (f:Nat) (x:GB) (c:Cb) (s:MK):A1 (A9x f):=⟨.exit 2,(((),c.bl,c.n1,c.i1,()),gb (gmU x.1 s.1 (gmO x.1)) s.2)⟩
def A9z (f:Nat) (e:Int):A1 (A9x f):=⟨.panic (.ifc 49 (.int .i64 e)),((),())⟩
abbrev TB2 (f:Nat):=Tree ((Aes f).T⊕A1 (A9x f))
def Aev (f:Nat) (x:GB) (c:Cb) (n k:Int) (s:MK) (r:TCTs [Bd,cI]):TB2 f :=
 bif r.2.1==0 then inO s.1.length c.i (Amj s.2 (kn (gmT x.1) (gmS x.1) 1 c.i k) fun ks=>.leaf (.inl (A9y f x c n (W64 (k+1)) (Bu s.1 (Int.toNat c.i) r.1,ks))))
 else bif r.2.1==4 then .leaf (.inr (A9z f r.2.1)) else .leaf (.inl (A9y f x c n (W64 (k+1)) s))
def Zs (f:Nat) (x:GB) (c:Cb) (n k:Int) (s:MK):TB2 f:=bif decide (k<n) then inN c.ps.length k (bif A2x s.1 (gmO x.1) c.i then
 bif !Cf s.1 (gmO x.1) (Int.toNat c.i) then .leaf (.inr (Zr f x c s)) else bif F9 (gmW x.1) (gmF x.1) c.i then .leaf (.inr (Zr f x c s)) else
 inO s.1.length c.i (Aev f x c n k s (bmV c.b (A8 s.1 (Int.toNat c.i)) (Fi c.ps (Int.toNat k)) (gmC x.1))) else .fail) else .leaf (.inr (Zr f x c s))
def cb (f:Nat) (g:(Aes f).T):Cb:=⟨g.1.2.1,g.2.2.2.1,g.1.2.2.2.1,g.1.2.2.2.2.1,g.1.2.2.2.2.2.1,g.1.2.2.2.2.2.2.1⟩
def Au8 (f:Nat) (g:(Aes f).T):TB2 f:=Zs f (gb g.2.1 g.2.2.1.1) (cb f g) g.1.2.2.2.2.2.2.2.1 g.1.2.2.2.2.2.2.2.2.1 (gmM g.2.1,g.2.2.1.1)
def fu_b2 (f:Nat) (g:(Aes f).T):Nat:=Int.toNat g.1.2.2.2.2.2.2.2.1+1
def sm_b2 (f:Nat):St→Tree (XE×St):=B8 (Aes f) (A9x f) (finP 49 .i64 [.exit 2] (Au8 f) (fu_b2 f))
def bpE (b:TCT A3) (c:TCT Co) (ps:Dss) (os:List Bool) (w fl t st:Int) (i:Nat) (k:Nat) (s:MK):MK⊕(MK⊕Int) :=
 bif !Cf s.1 os i||F9 w fl i then .inr (.inl s) else
 bif (bmV b (A8 s.1 i) (Fi ps k) c).2.1==0 then .inl (Bu s.1 i (bmV b (A8 s.1 i) (Fi ps k) c).1,s.2++[kn t st 1 i k]) else
 bif (bmV b (A8 s.1 i) (Fi ps k) c).2.1==4 then .inr (.inr (bmV b (A8 s.1 i) (Fi ps k) c).2.1) else .inl s
def Xk:MK⊕(MK⊕Int)→MK⊕Int
 | .inl s=>.inl s
 | .inr x=>x
def A64 (f:Nat) (x:GB) (c:Cb) (r:MK⊕(MK⊕Int)):A1 (A9x f):=match Xk r with
 | .inl s=>Zr f x c s
 | .inr e=>A9z f e
structure InvK (n k:Nat) (i:Nat) (s:MK):Prop where
 m:s.1.length=n
 k:s.2.length≤k+i
theorem Au9 {b:TCT A3} {c:TCT Co} {ps:Dss} {os:List Bool} {w fl t st:Int} {i n k0 m:Nat} (k:Nat) (s s':MK) (_:k<m) (hi:InvK n k0 k s) (h:bpE b c ps os w fl t st i k s=.inl s'):InvK n k0 (k+1) s':=by
 unfold bpE at h
 have hk:=hi.k
 cases h1:!Cf s.1 os i||F9 w fl i with
 | true=>rw [h1] at h;cases h
 | false =>
  rw [h1] at h
  cases h2:(bmV b (A8 s.1 i) (Fi ps k) c).2.1==0 with
  | true=>rw [h2] at h;cases h;exact ⟨by rw [Bw];exact hi.m,by simp;omega⟩
  | false =>
   rw [h2] at h
   cases h3:(bmV b (A8 s.1 i) (Fi ps k) c).2.1==4 with
   | true=>rw [h3] at h;cases h
   | false=>rw [h3] at h;cases h;exact ⟨hi.m,by omega⟩
theorem Bgh {f:Nat} {x:GB} {c:Cb} {i n k0:Nat} {s:MK} (hci:c.i=(i:Int)) (hi:i<n) (hos:(gmO x.1).length=n) (hs:InvK n k0 0 s) (hk0:k0≤990000) (hps:c.ps.length≤1000) :
  iter (Au8 f) (c.ps.length+1) (A9y f x c c.ps.length 0 s)=some (A64 f x c (B6 (bpE c.b (gmC x.1) c.ps (gmO x.1) (gmW x.1) (gmF x.1) (gmT x.1) (gmS x.1) i) 0 c.ps.length s)):=by
 have hn:(c.ps.length:Int)≤Bl .i64:=by show (c.ps.length:Int)≤9223372036854775807;omega
 refine Hz c.ps.length (fun k s=>A9y f x c c.ps.length k s) (bpE c.b (gmC x.1) c.ps (gmO x.1) (gmW x.1) (gmF x.1) (gmT x.1) (gmS x.1) i) (A64 f x c) (InvK n k0) (fun k s hk hl=>?_) Au9 (fun s hl=>?_) c.ps.length 0 s (by omega) hs
 ·show (Zs f (gb (gmU x.1 s.1 (gmO x.1)) s.2) c c.ps.length k s).run=_
  have h1:=hl.m
  have h2:=hl.k
  unfold Zs
  show Tree.run (bif decide ((k:Int)<(c.ps.length:Int)) then inN c.ps.length k (bif A2x s.1 (gmO x.1) c.i then
   bif !Cf s.1 (gmO x.1) (Int.toNat c.i) then .leaf (.inr (Zr f x c s)) else bif F9 (gmW x.1) (gmF x.1) c.i then .leaf (.inr (Zr f x c s)) else
   inO s.1.length c.i (Aev f x c c.ps.length k s (bmV c.b (A8 s.1 (Int.toNat c.i)) (Fi c.ps k) (gmC x.1))) else .fail) else .leaf (.inr (Zr f x c s)):TB2 f)=_
  rw [hci,decide_eq_true (show (k:Int)<(c.ps.length:Int) by omega),Dd (by omega),A5y hi h1 hos,G4 (by omega),show Int.toNat (i:Int)=i from rfl]
  unfold Aev bpE Amj
  rw [hci,G4 (by omega),Jm (by simp;omega) (by decide),El hk hn,show Int.toNat (i:Int)=i from rfl]
  cases Cf s.1 (gmO x.1) i with
  | false=>rfl
  | true =>
   cases F9 (gmW x.1) (gmF x.1) i with
   | true=>rfl
   | false =>
    simp only [Bool.not_true,Bool.or_self,cond_true,cond_false]
    cases (bmV c.b (A8 s.1 i) (Fi c.ps k) (gmC x.1)).2.1==0 with
    | true=>rfl
    | false =>
     simp only [cond_false]
     cases (bmV c.b (A8 s.1 i) (Fi c.ps k) (gmC x.1)).2.1==4 <;> rfl
 ·show (Zs f (gb (gmU x.1 s.1 (gmO x.1)) s.2) c c.ps.length c.ps.length s).run=_
  unfold Zs
  rw [decide_eq_false (show ¬ (c.ps.length:Int)<(c.ps.length:Int) by omega)]
  rfl
def Aua (f:Nat) (x:GB) (bl:List (TCT A3)) (n i:Int) (s:MK):(Aet f).T:=(((),bl,n,i,()),gb (gmU x.1 s.1 (gmO x.1)) s.2)
def B7f (f:Nat) (x:GB) (s:MK):A1 (Aeu f):=⟨.exit 0,((),gb (gmU x.1 s.1 (gmO x.1)) s.2)⟩
def B7g (f:Nat) (e:Int):A1 (Aeu f):=⟨.panic (.ifc 49 (.int .i64 e)),((),())⟩
abbrev TB1 (f:Nat):=Tree ((Aet f).T⊕A1 (Aeu f))
def Bgi (f:Nat) (r:(Bgf f).T):(Aet f).T:=(((),r.1.2.1,r.1.2.2.1,W64 (r.1.2.2.2.1+1),()),r.2)
def Aub (f:Nat) (y:Option (A1 (A9x f))):TB1 f:=bif isP 49 .i64 y then .leaf (.inr (B7g f (panO 49 .i64 y).1)) else bif isE (.exit 2) y then .leaf (.inl (Bgi f (D4 (.exit 2) y))) else .fail
def Bgj (f:Nat) (x:GB) (c:Cb):Option (A1 (A9x f)):=iter (Au8 f) (c.ps.length+1) (A9y f x c c.ps.length 0 (gmM x.1,gk x))
def cb1 (x:GB) (bl:List (TCT A3)) (n i:Int):Cb:=⟨i,E6 bl (Int.toNat i),bl,n,i,gmP x.1⟩
def Zt (f:Nat) (x:GB) (bl:List (TCT A3)) (n i:Int):TB1 f:=bif decide (i<n) then inN bl.length i (Aub f (Bgj f x (cb1 x bl n i))) else .leaf (.inr (B7f f x (gmM x.1,gk x)))
def Auc (f:Nat) (g:(Aet f).T):TB1 f:=Zt f g.2 g.1.2.1 g.1.2.2.1 g.1.2.2.2.1
def fu_b1 (f:Nat) (g:(Aet f).T):Nat:=Int.toNat g.1.2.2.1+1
def sm_b1 (f:Nat):St→Tree (XE×St):=B8 (Aet f) (Aeu f) (finP 49 .i64 [.exit 0] (Auc f) (fu_b1 f))
def Lt_b1 (f:Nat):Ld:=fun k=>bif Nat.beq k 4 then some (sm_b2 f) else none
theorem Aud:As A3t=[Zq]:=by kernel_rfl
theorem Baw:keyOf Zq=4:=by kernel_rfl
theorem Aa0 {f:Nat} (h:Bb Tryz.prog 103 Zq (sm_b2 f)):∀ d ∈ As A3t,∀ g,Lt_b1 f (keyOf d)=some g→Bb Tryz.prog 103 d g:=fun d hd g hg=>by
 rw [Aud,List.mem_singleton] at hd
 subst hd
 rw [Baw] at hg
 cases hg
 exact h
theorem Aue:Bb Tryz.prog 103 Zq (sm_b2 53):=Hv (F5 is_Tick1 Hb Hd) 7 _ _ _ Aj1 _ _ _ _ (fu_b2 53) (fun g=>by kernel_rfl)
theorem Auf:Bb Tryz.prog 103 Zq (sm_b2 107):=Hv (F5 is_run1 He Hf) 7 _ _ _ Aj1 _ _ _ _ (fu_b2 107) (fun g=>by kernel_rfl)
theorem Bax:Bb Tryz.prog 103 A3t (sm_b1 53):=A2m (F5 is_Tick1 Hb Hd) 7 _ (Lt_b1 53) (Aa0 Aue) _ _ Aj2 _ _ _ _ (fu_b1 53) (fun g=>by kernel_rfl)
theorem Bay:Bb Tryz.prog 103 A3t (sm_b1 107):=A2m (F5 is_run1 He Hf) 7 _ (Lt_b1 107) (Aa0 Auf) _ _ Aj2 _ _ _ _ (fu_b1 107) (fun g=>by kernel_rfl)
def boE (bl:List (TCT A3)) (c:TCT Co) (ps:Dss) (os:List Bool) (w fl t st:Int) (i:Nat) (s:MK):MK⊕Int:=Xk (B6 (bpE (E6 bl i) c ps os w fl t st i) 0 ps.length s)
def Zu (f:Nat) (x:GB):MK⊕Int→A1 (Aeu f)
 | .inl s=>B7f f x s
 | .inr e=>B7g f e
theorem Aug {b:TCT A3} {c:TCT Co} {ps:Dss} {os:List Bool} {w fl t st:Int} {i n k0 m:Nat}:∀ (j k:Nat) (s s':MK),k+j=m→InvK n k0 k s→Xk (B6 (bpE b c ps os w fl t st i) k j s)=.inl s'→InvK n k0 m s'
 | 0,k,s,s',hj,hi,h=>by
  have e:k=m:=by omega
  subst e
  cases h
  exact hi
 | j+1,k,s,s',hj,hi,h=>by
  unfold B6 at h
  cases hf:bpE b c ps os w fl t st i k s with
  | inl t1=>rw [hf] at h;exact Aug j (k+1) t1 s' (by omega) (Au9 (m:=m) k s t1 (by omega) hi hf) h
  | inr y =>
   rw [hf] at h
   unfold bpE at hf
   have hk:=hi.k
   cases h1:!Cf s.1 os i||F9 w fl i with
   | true =>
    rw [h1] at hf
    cases hf
    cases h
    exact ⟨hi.m,by omega⟩
   | false =>
    rw [h1] at hf
    cases h2:(bmV b (A8 s.1 i) (Fi ps k) c).2.1==0 with
    | true=>rw [h2] at hf;cases hf
    | false =>
     rw [h2] at hf
     cases h3:(bmV b (A8 s.1 i) (Fi ps k) c).2.1==4 with
     | true=>rw [h3] at hf;cases hf;cases h
     | false=>rw [h3] at hf;cases hf
structure InvO (n k P:Nat) (i:Nat) (s:MK):Prop where
 m:s.1.length=n
 k:s.2.length≤k+i*P
theorem Auh {bl:List (TCT A3)} {c:TCT Co} {ps:Dss} {os:List Bool} {w fl t st:Int} {n k0 m:Nat} (i:Nat) (s s':MK) (_:i<m) (hi:InvO n k0 ps.length i s) (h:boE bl c ps os w fl t st i s=.inl s'):InvO n k0 ps.length (i+1) s':=by
 have a:=Aug (n:=n) (k0:=k0+i*ps.length) (m:=ps.length) ps.length 0 s s' (by omega) ⟨hi.m,by have:=hi.k;omega⟩ h
 have e:(i+1)*ps.length=i*ps.length+ps.length:=Nat.succ_mul i ps.length
 exact ⟨a.m,by have:=a.k;omega⟩
theorem Bgk {f:Nat} {x:GB} {s:MK} (hx:OkGM x.1) (hm:s.1.length=nBx x.1) (hk:s.2.length≤900000) (hps:(gmP x.1).length≤1000) :
  iter (Auc f) (nBx x.1+1) (Aua f x (gmB x.1) (nBx x.1) 0 s)=some (Zu f x (B6 (boE (gmB x.1) (gmC x.1) (gmP x.1) (gmO x.1) (gmW x.1) (gmF x.1) (gmT x.1) (gmS x.1)) 0 (nBx x.1) s)):=by
 have hn8:=hx.n
 have hn:(nBx x.1:Int)≤Bl .i64:=by show (nBx x.1:Int)≤9223372036854775807;omega
 refine Hz (nBx x.1) (fun i s=>Aua f x (gmB x.1) (nBx x.1) i s) (boE (gmB x.1) (gmC x.1) (gmP x.1) (gmO x.1) (gmW x.1) (gmF x.1) (gmT x.1) (gmS x.1)) (Zu f x) (InvO (nBx x.1) s.2.length (gmP x.1).length) (fun i s1 hi hl=>?_) Auh (fun s hl=>?_) (nBx x.1) 0 s (by omega) ⟨hm,by omega⟩
 ·show (Zt f (gb (gmU x.1 s1.1 (gmO x.1)) s1.2) (gmB x.1) (nBx x.1) i).run=_
  have h2:=hl.k
  have h3:i*(gmP x.1).length≤8*1000:=Nat.mul_le_mul (by omega) hps
  have hy:Bgj f (gb (gmU x.1 s1.1 (gmO x.1)) s1.2) (cb1 (gb (gmU x.1 s1.1 (gmO x.1)) s1.2) (gmB x.1) (nBx x.1) i)=some (A64 f (gb (gmU x.1 s1.1 (gmO x.1)) s1.2) (cb1 (gb (gmU x.1 s1.1 (gmO x.1)) s1.2) (gmB x.1) (nBx x.1) i) (B6 (bpE (E6 (gmB x.1) i) (gmC x.1) (gmP x.1) (gmO x.1) (gmW x.1) (gmF x.1) (gmT x.1) (gmS x.1) i) 0 (gmP x.1).length s1)) :=
   Bgh (f:=f) (x:=gb (gmU x.1 s1.1 (gmO x.1)) s1.2) (c:=cb1 (gb (gmU x.1 s1.1 (gmO x.1)) s1.2) (gmB x.1) (nBx x.1) i) (i:=i) (n:=nBx x.1) (k0:=s.2.length+i*(gmP x.1).length) (s:=s1) rfl hi hx.os ⟨hl.m,by omega⟩ (by omega) hps
  unfold Zt
  rw [decide_eq_true (show (i:Int)<(nBx x.1:Int) by omega),Dd (n:=(gmB x.1).length) (by show 0≤(i:Int)∧(i:Int)<(nBx x.1:Int);omega),hy]
  unfold boE A64
  cases Xk (B6 (bpE (E6 (gmB x.1) i) (gmC x.1) (gmP x.1) (gmO x.1) (gmW x.1) (gmF x.1) (gmT x.1) (gmS x.1) i) 0 (gmP x.1).length s1) with
  | inl s2 =>
   show (Tree.leaf (.inl (((),gmB x.1,(nBx x.1:Int),W64 ((i:Int)+1),()),gb (gmU x.1 s2.1 (gmO x.1)) s2.2)):TB1 f).run=_
   rw [El hi hn]
   rfl
  | inr e =>
   have h1:isP 49 .i64 (some (A9z f e))=true:=Po
   have h2:panO 49 .i64 (some (A9z f e))=⟨e,((),())⟩:=Kd
   show (Aub f (some (A9z f e))).run=_
   unfold Aub
   rw [h1,h2]
   rfl
 ·show (Zt f (gb (gmU x.1 s.1 (gmO x.1)) s.2) (gmB x.1) (nBx x.1) (nBx x.1)).run=_
  unfold Zt
  rw [decide_eq_false (show ¬ (nBx x.1:Int)<(nBx x.1:Int) by omega)]
  rfl
end St
end V
end Go.Proofs.YtcfanlgpkefogaaGreat
namespace Go.Proofs.YtcfanlgpkefogaaGreat
open Go.RowKit
namespace V
namespace St
noncomputable def Bl8 (f:Nat):Ctx:=W9 Tryz.prog plGm [(103,Tryz.f103)] [((103,1),sm_b1 f),((103,4),sm_b2 f)] (spG f)
theorem Aj3 {f:Nat} (h1:C2 Tryz.prog 137 (sp_ro f)) (h2:C2 Tryz.prog 98 (sp_fl f)) (l1:Bb Tryz.prog 103 A3t (sm_b1 f)) (l2:Bb Tryz.prog 103 Zq (sm_b2 f)):CtxOk (Bl8 f) :=
 Hi Aw puGm (fns_cons is_gbump A0) (Bn (Kk (ds:=[A3t,Zq]) (by kernel_rfl) ⟨Hg (k:=1) (by kernel_rfl) rfl l1,Hg (k:=4) (by kernel_rfl) rfl l2,trivial⟩) Gi) (M8 is_rolls.plain h1 is_flies.plain h2)
def Aui (f:Nat) (x:GB):Option (A1 (Aeu f)):=iter (Auc f) (nBx x.1+1) (Aua f x (gmB x.1) (nBx x.1) 0 (gmM x.1,gk x))
def T_bp (f:Nat) (x:GB):TU f:=bif isP 49 .i64 (Aui f x) then .leaf ⟨false,pnU f (panO 49 .i64 (Aui f x)).1⟩ else bif isE (.exit 0) (Aui f x) then .leaf ⟨true,((),(D4 (.exit 0) (Aui f x)).2)⟩ else .fail
def buF (bl:List (TCT A3)) (c:TCT Co) (ps:Dss) (t st w fl:Int) (n:Nat) (s:S2):MK⊕Int:=B6 (boE bl c ps s.2.1 w fl t st) 0 n (s.1,s.2.2)
def A65 (x:GB):Bool:=Qj x&&decide ((gmP x.1).length≤1000)
theorem Aa1 {x:GB} (h:A65 x=true):OkGM x.1∧(gk x).length≤900000∧(gmP x.1).length≤1000:=by
 unfold A65 at h
 simp only [Bool.and_eq_true,decide_eq_true_eq] at h
 have a:=Zn h.1
 exact ⟨a.1,a.2,h.2⟩
def Aa2 (x:GB):Option (MK⊕Int):=bif A65 x then some (buF (gmB x.1) (gmC x.1) (gmP x.1) (gmT x.1) (gmS x.1) (gmW x.1) (gmF x.1) (nBx x.1) (gs x)) else none
abbrev sp_bp (f:Nat):B0→Nat→List AV→Tree (Out×B0×Nat):=Ll Lu (FL_g f) (FE_u f) (Zi (fun g:(FL_g f).T=>Aa2 g.2) (fun g=>A9w f g.2) (pnU f) ([],[]))
theorem Auj {f:Nat} {g:(FL_g f).T} {z:MK⊕Int} (h:Aa2 g.2=some z):(T_bp f g.2).run=some (A2y (L:=FL_g f) (E:=FE_u f) (fun g=>A9w f g.2) (pnU f) g z):=by
 unfold Aa2 at h
 cases ho:A65 g.2 with
 | false=>rw [ho] at h;cases h
 | true =>
  rw [ho] at h
  cases h
  obtain ⟨hg,hk,hp⟩:=Aa1 ho
  have hy:Aui f g.2=some (Zu f g.2 (buF (gmB g.2.1) (gmC g.2.1) (gmP g.2.1) (gmT g.2.1) (gmS g.2.1) (gmW g.2.1) (gmF g.2.1) (nBx g.2.1) (gs g.2))):=Bgk hg hg.ms hk hp
  unfold T_bp
  rw [hy]
  cases buF (gmB g.2.1) (gmC g.2.1) (gmP g.2.1) (gmT g.2.1) (gmS g.2.1) (gmW g.2.1) (gmF g.2.1) (nBx g.2.1) (gs g.2) with
  | inl s=>rfl
  | inr e =>
   have h1:isP 49 .i64 (some (Zu f g.2 (.inr e)))=true:=Po
   have h2:panO 49 .i64 (some (Zu f g.2 (.inr e)))=⟨e,((),())⟩:=Kd
   rw [h1,h2]
   rfl
theorem B25:C2 Tryz.prog 103 (sp_bp 53):=Kj (Aj3 Hb Hd Bax Aue) 6 I0 _ _ _ _ (fun g=>T_bp 53 g.2) (fun g=>by kernel_rfl) fun _ _ _ h=>Auj h
theorem B26:C2 Tryz.prog 103 (sp_bp 107):=Kj (Aj3 He Hf Bay Auf) 6 I0 _ _ _ _ (fun g=>T_bp 107 g.2) (fun g=>by kernel_rfl) fun _ _ _ h=>Auj h
end St
end V
end Go.Proofs.YtcfanlgpkefogaaGreat
namespace Go.Proofs.YtcfanlgpkefogaaGreat
open Go.RowKit
namespace V
def thY {A β:Type} (y:Option (A⊕Int)) (d:A) (pn:Int→Tree β) (k:A→Tree β):Tree β:=bif isL y then k (gL d y) else bif isR y then pn (gR 0 y) else .fail
theorem Wp {A β:Type} {y:Option (A⊕Int)} {d a:A} {pn:Int→Tree β} {k:A→Tree β} (h:y=some (.inl a)):thY y d pn k=k a:=by rw [h];rfl
theorem Wq {A β:Type} {y:Option (A⊕Int)} {d:A} {e:Int} {pn:Int→Tree β} {k:A→Tree β} (h:y=some (.inr e)):thY y d pn k=pn e:=by rw [h];rfl
namespace St
noncomputable def Aj4:Code:=(As (bodyOf Tryz.f54)).getD 0 .skip
def Aew (f:Nat):Lay:={ keys:=[0],ks:=[.p 0 0 0 0],bs:=bsG f,n:=52,nx:=4000,marks:=[] }
def Bl9:Lay:={ keys:=[],ks:=[],bs:=[],n:=52,nx:=9000,marks:=[] }
def Aa3 (f:Nat):XE→Lay:=fun e=>match e with | .panic _=>Bl9 | _=>Aew f
theorem Aj5 {f:Nat} (e:XE):(Aew f).nx≤(Aa3 f e).nx:=by cases e <;> first | exact Nat.le_refl _ | exact (by decide:(4000:Nat)≤9000)
abbrev YS:Type:=GB→Option (Ax⊕Int)
abbrev Y2:Type:=GB→Option (S2⊕Int)
abbrev YK:Type:=GB→Option (MK⊕Int)
abbrev SPf:Type:=B0→Nat→List AV→Tree (Out×B0×Nat)
def Bla {β:Type} (m:GM) (ms:Ax) (os:List Bool) (k:GM→β):β:=match m with
 | (a0,a1,a2,a3,a4,a5,a6,a7,a8,a9,a10,a11,a12,a13,a14,_,_,a17,a18,a19,a20,a21,_)=>k (a0,a1,a2,a3,a4,a5,a6,a7,a8,a9,a10,a11,a12,a13,a14,ms,os,a17,a18,a19,a20,a21,())
def Bgl {β:Type} (m:GM) (ms:Ax) (k:GM→β):β:=match m with
 | (a0,a1,a2,a3,a4,a5,a6,a7,a8,a9,a10,a11,a12,a13,a14,_,a16,a17,a18,a19,a20,a21,_)=>k (a0,a1,a2,a3,a4,a5,a6,a7,a8,a9,a10,a11,a12,a13,a14,ms,a16,a17,a18,a19,a20,a21,())
def gmA (m:GM) (ms:Ax) (os:List Bool) (fl tk st:Int):GM:=(m.1,m.2.1,m.2.2.1,m.2.2.2.1,m.2.2.2.2.1,m.2.2.2.2.2.1,m.2.2.2.2.2.2.1,m.2.2.2.2.2.2.2.1,m.2.2.2.2.2.2.2.2.1,m.2.2.2.2.2.2.2.2.2.1,m.2.2.2.2.2.2.2.2.2.2.1,m.2.2.2.2.2.2.2.2.2.2.2.1,m.2.2.2.2.2.2.2.2.2.2.2.2.1,m.2.2.2.2.2.2.2.2.2.2.2.2.2.1,m.2.2.2.2.2.2.2.2.2.2.2.2.2.2.1,ms,os,m.2.2.2.2.2.2.2.2.2.2.2.2.2.2.2.2.2.1,fl,tk,st,m.2.2.2.2.2.2.2.2.2.2.2.2.2.2.2.2.2.2.2.2.2.1,())
def Wr {L:FLay} {E:Bool→FLay} {A:Type} (Y:L.T→Option (A⊕Int)) (mk:L.T→A→((E true).T→Tree (En E))→Tree (En E)) (pn:Int→(E false).T) (d:A) (g:L.T):Tree (En E) :=
 .br (isL (Y g)) (mk g (gL d (Y g)) fun y=>.leaf ⟨true,y⟩) (.br (isR (Y g)) (.leaf ⟨false,pn (gR 0 (Y g))⟩) .fail)
def Bgm (f:Nat) (x:GB) (s:S2) (k:(FE_u f true).T→Tree (En (FE_u f))):Tree (En (FE_u f)):=Bla x.1 s.1 s.2.1 fun m=>k ((),(m,(s.2.2,()),()))
def Bgn (f:Nat) (x:GB) (s:MK) (k:(FE_u f true).T→Tree (En (FE_u f))):Tree (En (FE_u f)):=Bgl x.1 s.1 fun m=>k ((),(m,(s.2,()),()))
def Bgo (f:Nat) (x:GB) (s:Ax) (k:(FE_u f true).T→Tree (En (FE_u f))):Tree (En (FE_u f)):=Bgl x.1 s fun m=>k ((),(m,(x.2.1.1,()),()))
theorem B27 {f:Nat} (Y:Y2):(Wr (L:=FL_g f) (E:=FE_u f) (fun g=>Y g.2) (fun g=>Bgm f g.2) (pnU f) ([],[],[]))=(Zi (L:=FL_g f) (E:=FE_u f) (fun g=>Y g.2) (fun g=>Atx f g.2) (pnU f) ([],[],[])):=rfl
theorem A66 {f:Nat} (Y:YK):(Wr (L:=FL_g f) (E:=FE_u f) (fun g=>Y g.2) (fun g=>Bgn f g.2) (pnU f) ([],[]))=(Zi (L:=FL_g f) (E:=FE_u f) (fun g=>Y g.2) (fun g=>A9w f g.2) (pnU f) ([],[])):=rfl
theorem B28 {f:Nat} (Y:YS):(Wr (L:=FL_g f) (E:=FE_u f) (fun g=>Y g.2) (fun g=>Bgo f g.2) (pnU f) [])=(Zi (L:=FL_g f) (E:=FE_u f) (fun g=>Y g.2) (fun g=>Aeg f g.2) (pnU f) []):=rfl
abbrev Bgp (f:Nat) (Y:YS):SPf:=Ll Lu (FL_g f) (FE_u f) (Wr (fun g:(FL_g f).T=>Y g.2) (fun g=>Bgo f g.2) (pnU f) [])
abbrev Bgq (f:Nat) (Y:Y2):SPf:=Ll Lu (FL_g f) (FE_u f) (Wr (fun g:(FL_g f).T=>Y g.2) (fun g=>Bgm f g.2) (pnU f) ([],[],[]))
abbrev Amo (f:Nat) (Y:YK):SPf:=Ll Lu (FL_g f) (FE_u f) (Wr (fun g:(FL_g f).T=>Y g.2) (fun g=>Bgn f g.2) (pnU f) ([],[]))
structure TY where
 s:YS
 m:Y2
 e:YK
 b:YK
def spT (f:Nat) (Y:TY):List (Nat×SPf):=[(101,Bgp f Y.s),(102,Bgq f Y.m),(50,Amo f Y.e),(103,Amo f Y.b)]
def tyG:TY:=⟨Zl,A9r,Rm,Aa2⟩
theorem Auk {f:Nat} (h1:C2 Tryz.prog 101 (sp_slw f)) (h2:C2 Tryz.prog 102 (sp_mv f)) (h3:C2 Tryz.prog 50 (sp_se f)) (h4:C2 Tryz.prog 103 (sp_bp f)):∀ p ∈ spT f tyG,Plain Tryz.prog p.1∧C2 Tryz.prog p.1 p.2:=fun p hp=>by
 unfold spT at hp
 simp only [List.mem_cons,List.not_mem_nil,or_false] at hp
 rcases hp with rfl | rfl | rfl | rfl
 ·exact ⟨is_gslow.plain,by rw [tyG,Bgp,B28];exact h1⟩
 ·exact ⟨is_gmove.plain,by rw [tyG,Bgq,B27];exact h2⟩
 ·exact ⟨is_gsettle.plain,by rw [tyG,Amo,A66];exact h3⟩
 ·exact ⟨is_gbump.plain,by rw [tyG,Amo,A66];exact h4⟩
theorem B7h:∀ p ∈ spT 53 tyG,Plain Tryz.prog p.1∧C2 Tryz.prog p.1 p.2:=Auk Ato B1w B22 B25
theorem B7i:∀ p ∈ spT 107 tyG,Plain Tryz.prog p.1∧C2 Tryz.prog p.1 p.2:=Auk Atp B1x B24 B26
noncomputable def Blb (f:Nat) (Y:TY):Ctx:=W9 Tryz.prog plGm [(49,Tryz.f49)] [] (spT f Y)
theorem Aj6 {f:Nat} {Y:TY} (h:∀ p ∈ spT f Y,Plain Tryz.prog p.1∧C2 Tryz.prog p.1 p.2):CtxOk (Blb f Y):=Hi Aw puGm (fns_cons is_must A0) Ir h
def x2 (x:GB) (s:S2):GB:=gb (gmU x.1 s.1 s.2.1) s.2.2
abbrev TTk (f:Nat):=Tree ((Aew f).T⊕A1 (Aa3 f))
def B7j (f:Nat) (e:Int):A1 (Aa3 f):=⟨.panic (.ifc 49 (.int .i64 e)),((),())⟩
def A3u (f:Nat) (e:Int):TTk f:=.leaf (.inr (B7j f e))
def z2:S2:=([],[],[])
def zM:MK:=([],[])
def xS (x:GB) (i:Int) (s:S2):GB:=(gmA x.1 s.1 s.2.1 (gmF x.1) (gmT x.1) i,(s.2.2,()),())
def Zv (f:Nat) (Y:TY) (x:GB) (i:Int) (s:S2):TTk f:=bif decide (i≤16) then thY (Y.m (xS x i s)) z2 (A3u f) fun s1=>thY (Y.e (xS x i s1)) zM (A3u f) fun s2=>thY (Y.b (xS x i (s2.1,s1.2.1,s2.2))) zM (A3u f) fun s3=>.leaf (.inl (((),()),xS x (W64 (i+1)) (s3.1,s1.2.1,s3.2)))
 else .leaf (.inr ⟨.exit 0,(((),()),xS x i s)⟩)
def Aj7 (f:Nat) (Y:TY) (g:(Aew f).T):TTk f:=Zv f Y g.2 (gmS g.2.1) (gs g.2)
def fu_tk (f:Nat) (_:(Aew f).T):Nat:=17
def sm_tk (f:Nat) (Y:TY):St→Tree (XE×St):=B8 (Aew f) (Aa3 f) (finP 49 .i64 [.exit 0] (Aj7 f Y) (fu_tk f))
theorem Baz {Y:TY} (h:∀ p ∈ spT 53 Y,Plain Tryz.prog p.1∧C2 Tryz.prog p.1 p.2):Bb Tryz.prog 54 Aj4 (sm_tk 53 Y):=Hv (Aj6 h) 7 _ _ _ Aj5 _ _ _ _ (fu_tk 53) (fun g=>by kernel_rfl)
theorem Bb0 {Y:TY} (h:∀ p ∈ spT 107 Y,Plain Tryz.prog p.1∧C2 Tryz.prog p.1 p.2):Bb Tryz.prog 54 Aj4 (sm_tk 107 Y):=Hv (Aj6 h) 7 _ _ _ Aj5 _ _ _ _ (fu_tk 107) (fun g=>by kernel_rfl)
structure CT where
 bl:List (TCT A3)
 l:TCT A5
 c:TCT Co
 ps:Dss
 w:Int
 fl:Int
 t:Int
def tkE (k:CT) (i:Nat) (s:S2):S2⊕Int:=match mvF k.bl k.l k.t ((i+1:Nat):Int) k.bl.length s with
 | .inr e=>.inr e
 | .inl s1=>match seF k.bl k.c k.t ((i+1:Nat):Int) k.w k.fl k.bl.length s1 with
  | .inr e=>.inr e
  | .inl s2=>match buF k.bl k.c k.ps k.t ((i+1:Nat):Int) k.w k.fl k.bl.length (s2.1,s1.2.1,s2.2) with
   | .inr e=>.inr e
   | .inl s3=>.inl (s3.1,s1.2.1,s3.2)
theorem A67 {bl:List (TCT A3)} {l:TCT A5} {t st:Int} {n k:Nat} {s s':S2} (hs:Inv2 n k 0 s) (h:mvF bl l t st n s=.inl s'):Inv2 n (k+n) 0 s':=by
 unfold mvF at h
 cases h1:B6 (stE bl s.2.1) 0 n s.1 with
 | inr e=>rw [h1] at h;cases h
 | inl ms =>
  rw [h1] at h
  change B6 (lvE l t st) 0 n (ms,s.2.1,s.2.2)=.inl s' at h
  have hm:ms.length=n:=Bf (n:=n) (Inv:=fun _ (s:Ax)=>s.length=n) Aei n 0 _ _ (by omega) hs.m h1
  have a:=Bf (n:=n) (Inv:=Inv2 n k) Atv n 0 (ms,s.2.1,s.2.2) s' (by omega) ⟨hm,hs.o,hs.k⟩ h
  exact ⟨a.m,a.o,by have:=a.k;omega⟩
theorem Aj8 {bl:List (TCT A3)} {c:TCT Co} {t st w fl:Int} {n k:Nat} {s:S2} {s':MK} (hn:n≤8) (hs:Inv2 n k 0 s) (h:seF bl c t st w fl n s=.inl s'):Inv2 n (k+64) 0 (s'.1,s.2.1,s'.2):=by
 unfold seF at h
 cases he:(seS bl c w fl n s).2.2.1 != 0 with
 | true=>rw [he] at h;cases h
 | false =>
  rw [he] at h
  cases h
  have a:=Vi (bl:=bl) (bc:=c) (w:=w) (fl:=fl) (s:=s) hn (bne_eq_false_iff_eq.1 he)
  have hk:=hs.k
  refine ⟨?_,hs.o,?_⟩
  ·show (scV _ _ _).length=n
   rw [Aiy];exact hs.m
  ·show (kpV _ _ _ _ _).length≤_
   rw [Aj0];have:=a.2.1;omega
theorem B29 {bl:List (TCT A3)} {c:TCT Co} {ps:Dss} {t st w fl:Int} {n k:Nat} {s:S2} {s':MK} (hs:Inv2 n k 0 s) (h:buF bl c ps t st w fl n s=.inl s'):Inv2 n (k+n*ps.length) 0 (s'.1,s.2.1,s'.2):=by
 unfold buF at h
 have hk:=hs.k
 have a:=Bf (n:=n) (Inv:=InvO n s.2.2.length ps.length) Auh n 0 _ _ (by omega) ⟨hs.m,by show s.2.2.length≤s.2.2.length+0*ps.length;omega⟩ h
 exact ⟨a.m,hs.o,by have:=a.k;show s'.2.length≤_;omega⟩
theorem A68 {k:CT} {k0 m:Nat} (hn:k.bl.length≤8) (hp:k.ps.length≤1000) (i:Nat) (s s':S2) (_:i<m) (hs:Inv2 k.bl.length (k0+i*8072) 0 s) (h:tkE k i s=.inl s'):Inv2 k.bl.length (k0+(i+1)*8072) 0 s':=by
 unfold tkE at h
 cases h1:mvF k.bl k.l k.t ((i+1:Nat):Int) k.bl.length s with
 | inr e=>rw [h1] at h;cases h
 | inl s1 =>
  rw [h1] at h
  have a:=A67 hs h1
  simp only at h
  cases h2:seF k.bl k.c k.t ((i+1:Nat):Int) k.w k.fl k.bl.length s1 with
  | inr e=>rw [h2] at h;cases h
  | inl s2 =>
   rw [h2] at h
   have b:=Aj8 hn a h2
   simp only at h
   cases h3:buF k.bl k.c k.ps k.t ((i+1:Nat):Int) k.w k.fl k.bl.length (s2.1,s1.2.1,s2.2) with
   | inr e=>rw [h3] at h;cases h
   | inl s3 =>
    rw [h3] at h
    cases h
    have c:=B29 b h3
    have d:k.bl.length*k.ps.length≤8*1000:=Nat.mul_le_mul hn hp
    exact ⟨c.m,c.o,by have:=c.k;simp only at this ⊢;omega⟩
def ctG (m:GM):CT:=⟨gmB m,gmL m,gmC m,gmP m,gmW m,gmF m,gmT m⟩
theorem B2a {x:GB} {i:Int} {s:S2} {k:Nat} (hsz:(x.1.1.size:Int)≤Bl .i64) (hn:nBx x.1≤8) (hs:Inv2 (nBx x.1) k 0 s) (hk:k≤900000):A9r (xS x i s)=some (mvF (gmB x.1) (gmL x.1) (gmT x.1) i (nBx x.1) s):=by
 have h:Qj (xS x i s)=true:=by
  have:=hs.k
  unfold Qj
  rw [Bool.and_eq_true,decide_eq_true_eq]
  exact ⟨F4.2 ⟨hsz,hs.m,hs.o,hn⟩,by show s.2.2.length≤900000;omega⟩
 unfold A9r;rw [h];rfl
theorem B2b {x:GB} {i:Int} {s:S2} {k:Nat} (hsz:(x.1.1.size:Int)≤Bl .i64) (hn:nBx x.1≤8) (hs:Inv2 (nBx x.1) k 0 s) (hk:k≤900000):Rm (xS x i s)=some (seF (gmB x.1) (gmC x.1) (gmT x.1) i (gmW x.1) (gmF x.1) (nBx x.1) s):=by
 have h:Qj (xS x i s)=true:=by
  have:=hs.k
  unfold Qj
  rw [Bool.and_eq_true,decide_eq_true_eq]
  exact ⟨F4.2 ⟨hsz,hs.m,hs.o,hn⟩,by show s.2.2.length≤900000;omega⟩
 unfold Rm;rw [h];rfl
theorem B2c {x:GB} {i:Int} {s:S2} {k:Nat} (hsz:(x.1.1.size:Int)≤Bl .i64) (hn:nBx x.1≤8) (hp:(gmP x.1).length≤1000) (hs:Inv2 (nBx x.1) k 0 s) (hk:k≤900000):Aa2 (xS x i s)=some (buF (gmB x.1) (gmC x.1) (gmP x.1) (gmT x.1) i (gmW x.1) (gmF x.1) (nBx x.1) s):=by
 have h:A65 (xS x i s)=true:=by
  have:=hs.k
  unfold A65 Qj
  rw [Bool.and_eq_true,Bool.and_eq_true,decide_eq_true_eq,decide_eq_true_eq]
  exact ⟨⟨F4.2 ⟨hsz,hs.m,hs.o,hn⟩,by show s.2.2.length≤900000;omega⟩,hp⟩
 unfold Aa2;rw [h];rfl
def Aul (f:Nat) (x:GB) (i:Nat) (s:S2):(Aew f).T:=(((),()),xS x ((i+1:Nat):Int) s)
def Bgr (f:Nat) (x:GB) (s:S2):A1 (Aa3 f):=⟨.exit 0,(((),()),xS x 17 s)⟩
def Zw (f:Nat) (x:GB):S2⊕Int→A1 (Aa3 f)
 | .inl s=>Bgr f x s
 | .inr e=>B7j f e
theorem Bgs (x:GB) (i j:Int) (s t:S2):xS (xS x i s) j t=xS x j t:=by
 unfold xS gmA
 rfl
theorem Aa4 {f:Nat} {x:GB} {i:Nat} {s:S2}:Aj7 f tyG (Aul f x i s)=Zv f tyG x ((i+1:Nat):Int) s:=by
 show Zv f tyG (xS x ((i+1:Nat):Int) s) ((i+1:Nat):Int) s=_
 unfold Zv
 simp only [Bgs]
theorem Bgt {f:Nat} {x:GB} {s:S2} {k0:Nat} (hsz:(x.1.1.size:Int)≤Bl .i64) (hn:nBx x.1≤8) (hp:(gmP x.1).length≤1000) (hs:Inv2 (nBx x.1) k0 0 s) (hk0:k0≤700000) :
  iter (Aj7 f tyG) 17 (Aul f x 0 s)=some (Zw f x (B6 (tkE (ctG x.1)) 0 16 s)):=by
 refine Hz 16 (fun i s=>Aul f x i s) (tkE (ctG x.1)) (Zw f x) (fun i s=>Inv2 (nBx x.1) (k0+i*8072) 0 s) (fun i s hi hl=>?_) (fun i s s' hi hl h=>A68 (k:=ctG x.1) (k0:=k0) (m:=16) hn hp i s s' hi hl h) (fun s hl=>?_) 16 0 s (by omega) ⟨hs.m,hs.o,by have:=hs.k;omega⟩
 ·rw [Aa4]
  have e1:=B2a (i:=((i+1:Nat):Int)) hsz hn (s:=s) hl (by omega)
  unfold Zv
  rw [decide_eq_true (show ((i+1:Nat):Int)≤16 by omega),cond_true]
  show (thY (A9r (xS x ((i+1:Nat):Int) s)) z2 (A3u f) fun s1=>thY (Rm (xS x ((i+1:Nat):Int) s1)) zM (A3u f) fun s2=>thY (Aa2 (xS x ((i+1:Nat):Int) (s2.1,s1.2.1,s2.2))) zM (A3u f) fun s3 =>
   .leaf (.inl (((),()),xS x (W64 (((i+1:Nat):Int)+1)) (s3.1,s1.2.1,s3.2)))).run=_
  unfold tkE
  change A9r (xS x ((i+1:Nat):Int) s)=some (mvF (ctG x.1).bl (ctG x.1).l (ctG x.1).t ((i+1:Nat):Int) (ctG x.1).bl.length s) at e1
  cases h1:mvF (ctG x.1).bl (ctG x.1).l (ctG x.1).t ((i+1:Nat):Int) (ctG x.1).bl.length s with
  | inr e=>rw [h1] at e1;rw [Wq e1];rfl
  | inl s1 =>
   rw [h1] at e1
   rw [Wp e1]
   have a:Inv2 (nBx x.1) (k0+i*8072+nBx x.1) 0 s1:=A67 hl h1
   have e2:=B2b (i:=((i+1:Nat):Int)) hsz hn (s:=s1) a (by omega)
   change Rm (xS x ((i+1:Nat):Int) s1)=some (seF (ctG x.1).bl (ctG x.1).c (ctG x.1).t ((i+1:Nat):Int) (ctG x.1).w (ctG x.1).fl (ctG x.1).bl.length s1) at e2
   simp only
   cases h2:seF (ctG x.1).bl (ctG x.1).c (ctG x.1).t ((i+1:Nat):Int) (ctG x.1).w (ctG x.1).fl (ctG x.1).bl.length s1 with
   | inr e=>rw [h2] at e2;rw [Wq e2];rfl
   | inl s2 =>
    rw [h2] at e2
    rw [Wp e2]
    have b:Inv2 (nBx x.1) (k0+i*8072+nBx x.1+64) 0 (s2.1,s1.2.1,s2.2):=Aj8 hn a h2
    have e3:=B2c (i:=((i+1:Nat):Int)) hsz hn hp (s:=(s2.1,s1.2.1,s2.2)) b (by omega)
    change Aa2 (xS x ((i+1:Nat):Int) (s2.1,s1.2.1,s2.2))=some (buF (ctG x.1).bl (ctG x.1).c (ctG x.1).ps (ctG x.1).t ((i+1:Nat):Int) (ctG x.1).w (ctG x.1).fl (ctG x.1).bl.length (s2.1,s1.2.1,s2.2)) at e3
    simp only
    cases h3:buF (ctG x.1).bl (ctG x.1).c (ctG x.1).ps (ctG x.1).t ((i+1:Nat):Int) (ctG x.1).w (ctG x.1).fl (ctG x.1).bl.length (s2.1,s1.2.1,s2.2) with
    | inr e=>rw [h3] at e3;rw [Wq e3];rfl
    | inl s3 =>
     rw [h3] at e3
     rw [Wp e3,Bi (by omega) (by omega)]
     rfl
 ·rw [Aa4]
  rfl
end St
end V
end Go.Proofs.YtcfanlgpkefogaaGreat
namespace Go.Proofs.YtcfanlgpkefogaaGreat
open Go.RowKit
namespace V
namespace St
noncomputable def X_ti (f:Nat) (Y:TY):Ctx:=W9 Tryz.prog plGm [(54,Tryz.f54),(49,Tryz.f49)] [((54,4),sm_tk f Y)] (spT f Y)
theorem Aj9 {f:Nat} {Y:TY} (h:∀ p ∈ spT f Y,Plain Tryz.prog p.1∧C2 Tryz.prog p.1 p.2) (hl:Bb Tryz.prog 54 Aj4 (sm_tk f Y)):CtxOk (X_ti f Y) :=
 Hi Aw puGm (fns_cons is_gtick (fns_cons is_must A0)) (Bn (Kk (ds:=[Aj4]) (by kernel_rfl) ⟨Hg (k:=4) (by kernel_rfl) rfl hl,trivial⟩) (Bn (D3 (by kernel_rfl)) Gi)) h
def Aa5 (f:Nat) (e:Int):TU f:=.leaf ⟨false,pnU f e⟩
def Bgu (v:GB):GB:=(gmA v.1 (gmM v.1) (gmO v.1) (max 0 (W64 (gmF v.1-1))) (W64 (gmT v.1+1)) (gmS v.1),(gk v,()),())
def Bb1 (f:Nat) (y:Option (A1 (Aa3 f))):TU f:=bif isP 49 .i64 y then Aa5 f (panO 49 .i64 y).1 else bif isE (.exit 0) y then .leaf ⟨true,((),Bgu (D4 (.exit 0) y).2)⟩ else .fail
def Bb2 (f:Nat) (Y:TY) (x:GB) (ms:Ax):Option (A1 (Aa3 f)):=iter (Aj7 f Y) 17 (((),()),xS x 1 (ms,gmO x.1,gk x))
def T_ti (f:Nat) (Y:TY) (x:GB):TU f:=bif gmT x.1==4000 then Aa5 f 3 else thY (Y.s x) [] (Aa5 f) fun ms=>Bb1 f (Bb2 f Y x ms)
def slE (l:TCT A5) (os:List Bool) (w fl:Int) (i:Nat) (ms:Ax):Ax⊕Int :=
 bif !Cf ms os i||F9 w fl i then .inl ms else bif G5 l (A8 ms i).1 != 0 then .inr (G5 l (A8 ms i).1) else
 bif (M9 l (A8 ms i)).2.1 != 0 then .inr 4 else .inl (Bu ms i (A9o l (A8 ms i)))
def tkF (k:CT) (s:S2):S2⊕Int:=bif k.t==4000 then .inr 3 else match B6 (slE k.l s.2.1 k.w k.fl) 0 k.bl.length s.1 with
 | .inr e=>.inr e
 | .inl ms=>B6 (tkE k) 0 16 (ms,s.2.1,s.2.2)
def Aa6 (x:GB):Bool:=A65 x&&decide ((gk x).length≤700000)
theorem Aa7 {x:GB} (h:Aa6 x=true):OkGM x.1∧(gk x).length≤700000∧(gmP x.1).length≤1000:=by
 unfold Aa6 at h
 simp only [Bool.and_eq_true,decide_eq_true_eq] at h
 have a:=Aa1 h.1
 exact ⟨a.1,h.2,a.2.2⟩
def O9 (x:GB):Option (S2⊕Int):=bif Aa6 x then some (tkF (ctG x.1) (gs x)) else none
def xT (x:GB) (s:S2):GB:=(gmA x.1 s.1 s.2.1 (max 0 (W64 (gmF x.1-1))) (W64 (gmT x.1+1)) 17,(s.2.2,()),())
def Blc {β:Type} (m:GM) (ms:Ax) (os:List Bool) (k:GM→β):β:=match m with
 | (a0,a1,a2,a3,a4,a5,a6,a7,a8,a9,a10,a11,a12,a13,a14,_,_,a17,a18,a19,_,a21,_)=>k (a0,a1,a2,a3,a4,a5,a6,a7,a8,a9,a10,a11,a12,a13,a14,ms,os,a17,max 0 (W64 (a18-1)),W64 (a19+1),17,a21,())
def Bgv (f:Nat) (x:GB) (s:S2) (k:(FE_u f true).T→Tree (En (FE_u f))):Tree (En (FE_u f)):=Blc x.1 s.1 s.2.1 fun m=>k ((),(m,(s.2.2,()),()))
def Bb3 (f:Nat) (x:GB) (s:S2):(FE_u f true).T:=((),xT x s)
theorem Aja {f:Nat} (Y:Y2):(Wr (L:=FL_g f) (E:=FE_u f) (fun g=>Y g.2) (fun g=>Bgv f g.2) (pnU f) ([],[],[]))=(Zi (L:=FL_g f) (E:=FE_u f) (fun g=>Y g.2) (fun g=>Bb3 f g.2) (pnU f) ([],[],[])):=rfl
abbrev spYT (f:Nat) (Y:Y2):SPf:=Ll Lu (FL_g f) (FE_u f) (Wr (fun g:(FL_g f).T=>Y g.2) (fun g=>Bgv f g.2) (pnU f) ([],[],[]))
theorem Aum {f:Nat} {g:(FL_g f).T} {z:S2⊕Int} (h:O9 g.2=some z):(T_ti f tyG g.2).run=some (A2y (L:=FL_g f) (E:=FE_u f) (fun g=>Bb3 f g.2) (pnU f) g z):=by
 unfold O9 at h
 cases ho:Aa6 g.2 with
 | false=>rw [ho] at h;cases h
 | true =>
  rw [ho] at h
  cases h
  obtain ⟨hg,hk,hp⟩:=Aa7 ho
  unfold T_ti tkF
  show Tree.run (bif gmT g.2.1==4000 then Aa5 f 3 else thY (Zl g.2) [] (Aa5 f) fun ms=>Bb1 f (Bb2 f tyG g.2 ms))=some (A2y (L:=FL_g f) (E:=FE_u f) (fun g=>Bb3 f g.2) (pnU f) g (bif gmT g.2.1==4000 then .inr 3 else match B6 (slE (gmL g.2.1) (gmO g.2.1) (gmW g.2.1) (gmF g.2.1)) 0 (nBx g.2.1) (gmM g.2.1) with
   | .inr e=>.inr e
   | .inl ms=>B6 (tkE (ctG g.2.1)) 0 16 (ms,gmO g.2.1,gk g.2)))
  cases gmT g.2.1==4000 with
  | true=>rfl
  | false =>
   simp only [cond_false]
   have e1:Zl g.2=some (B6 (slE (gmL g.2.1) (gmO g.2.1) (gmW g.2.1) (gmF g.2.1)) 0 (nBx g.2.1) (gmM g.2.1)):=by
    unfold Zl
    rw [F4.2 hg]
    rfl
   cases h1:B6 (slE (gmL g.2.1) (gmO g.2.1) (gmW g.2.1) (gmF g.2.1)) 0 (nBx g.2.1) (gmM g.2.1) with
   | inr e=>rw [h1] at e1;rw [Wq e1];rfl
   | inl ms =>
    rw [h1] at e1
    rw [Wp e1]
    have hms:ms.length=nBx g.2.1:=Bf (n:=nBx g.2.1) (Inv:=fun _ (s:Ax)=>s.length=nBx g.2.1) (fun i s s' hi hl h=>Atm (m:=g.2.1) i s s' hi hl h) (nBx g.2.1) 0 _ _ (by omega) hg.ms h1
    have hy:Bb2 f tyG g.2 ms=some (Zw f g.2 (B6 (tkE (ctG g.2.1)) 0 16 (ms,gmO g.2.1,gk g.2))):=Bgt (x:=g.2) (s:=(ms,gmO g.2.1,gk g.2)) (k0:=(gk g.2).length) hg.sz hg.n hp ⟨hms,hg.os,by show (gk g.2).length≤(gk g.2).length+0;omega⟩ hk
    rw [hy]
    simp only
    cases B6 (tkE (ctG g.2.1)) 0 16 (ms,gmO g.2.1,gk g.2) with
    | inl s=>rfl
    | inr e =>
     have h1:isP 49 .i64 (some (Zw f g.2 (.inr e)))=true:=Po
     have h2:panO 49 .i64 (some (Zw f g.2 (.inr e)))=⟨e,((),())⟩:=Kd
     unfold Bb1
     rw [h1,h2]
     rfl
theorem Bb4 (Y:TY) (g:(FL_g 53).T):P1 (X_ti 53 Y) (Dx (X_ti 53 Y) 6) 54 (ofKs (FL_g 53).ks g.1 (FL_g 53).nx) ((FL_g 53).lay.hp g) ((FL_g 53).lay.of g).nx (Xa (FE_u 53))=T_ti 53 Y g.2:=by kernel_rfl
theorem B2d:C2 Tryz.prog 54 (spYT 53 O9):=by
 rw [spYT,Aja]
 exact Kj (Aj9 B7h (Baz B7h)) 6 I0 _ _ _ _ (fun g=>T_ti 53 tyG g.2) (Bb4 tyG) fun _ _ _ h=>Aum h
theorem Bb5 (Y:TY) (g:(FL_g 107).T):P1 (X_ti 107 Y) (Dx (X_ti 107 Y) 6) 54 (ofKs (FL_g 107).ks g.1 (FL_g 107).nx) ((FL_g 107).lay.hp g) ((FL_g 107).lay.of g).nx (Xa (FE_u 107))=T_ti 107 Y g.2:=by kernel_rfl
theorem B2e:C2 Tryz.prog 54 (spYT 107 O9):=by
 rw [spYT,Aja]
 exact Kj (Aj9 B7i (Bb0 B7i)) 6 I0 _ _ _ _ (fun g=>T_ti 107 tyG g.2) (Bb5 tyG) fun _ _ _ h=>Aum h
end St
end V
end Go.Proofs.YtcfanlgpkefogaaGreat
namespace Go.Proofs.YtcfanlgpkefogaaGreat
open Go.RowKit
namespace V
theorem Fq {S B:Type} {f:Nat→S→S⊕B}:∀ (k i:Nat) (s:S) (b:B),B6 f i k s=.inr b→∃ j t,f j t=.inr b
 | 0,_,_,_,h=>by cases h
 | k+1,i,s,b,h=>by
  unfold B6 at h
  cases hf:f i s with
  | inl t=>rw [hf] at h;exact Fq k (i+1) t b h
  | inr c=>rw [hf] at h;cases h;exact ⟨i,s,hf⟩
namespace St
theorem is_sTick:FnIs Tryz.prog (14,Tryz.f14):=⟨Tryz.func14,by kernel_rfl,by kernel_rfl⟩
theorem is_newGame:FnIs Tryz.prog (45,Tryz.f45):=⟨Tryz.func45,by kernel_rfl,by kernel_rfl⟩
theorem is_sTry:FnIs Tryz.prog (47,Tryz.f47):=⟨Tryz.func47,by kernel_rfl,by kernel_rfl⟩
theorem is_sTry1:FnIs Tryz.prog (97,Tryz.f97):=⟨Tryz.func97,by kernel_rfl,by kernel_rfl⟩
theorem is_clMot:FnIs Tryz.prog (95,Tryz.f95):=⟨Tryz.func95,by kernel_rfl,by kernel_rfl⟩
theorem is_clBool:FnIs Tryz.prog (96,Tryz.f96):=⟨Tryz.func96,by kernel_rfl,by kernel_rfl⟩
theorem Bb6 {l:TCT A5} {os:List Bool} {w fl:Int} {i:Nat} {ms:Ax} {e:Int} (h:slE l os w fl i ms=.inr e):e≠0:=by
 unfold slE at h
 cases h1:!Cf ms os i||F9 w fl i with
 | true=>rw [h1] at h;cases h
 | false =>
  rw [h1] at h
  cases h2:G5 l (A8 ms i).1 != 0 with
  | true=>rw [h2] at h;cases h;exact bne_iff_ne.1 h2
  | false =>
   rw [h2] at h
   cases h3:(M9 l (A8 ms i)).2.1 != 0 with
   | true=>rw [h3] at h;cases h;decide
   | false=>rw [h3] at h;cases h
theorem Bb7 {bl:List (TCT A3)} {os:List Bool} {i:Nat} {ms:Ax} {e:Int} (h:stE bl os i ms=.inr e):e≠0:=by
 unfold stE at h
 cases h1:!Cf ms os i with
 | true=>rw [h1] at h;cases h
 | false =>
  rw [h1] at h
  cases h3:(N3 (E6 bl i) (A8 ms i)).2.1 != 0 with
  | true=>rw [h3] at h;cases h;exact bne_iff_ne.1 h3
  | false=>rw [h3] at h;cases h
theorem Bb8 {bl:List (TCT A3)} {l:TCT A5} {t st:Int} {n:Nat} {s:S2} {e:Int} (h:mvF bl l t st n s=.inr e):e≠0:=by
 unfold mvF at h
 cases h1:B6 (stE bl s.2.1) 0 n s.1 with
 | inr e' =>
  rw [h1] at h
  cases h
  obtain ⟨j,t,hj⟩:=Fq _ _ _ _ h1
  exact Bb7 hj
 | inl ms =>
  rw [h1] at h
  obtain ⟨s',hs'⟩:=Vg (Ait (l:=l) (t:=t) (st:=st)) n 0 (ms,s.2.1,s.2.2)
  change B6 (lvE l t st) 0 n (ms,s.2.1,s.2.2)=.inr e at h
  rw [hs'] at h
  cases h
theorem Zx {bl:List (TCT A3)} {c:TCT Co} {t st w fl:Int} {n:Nat} {s:S2} {e:Int} (h:seF bl c t st w fl n s=.inr e):e≠0:=by
 unfold seF at h
 cases he:(seS bl c w fl n s).2.2.1 != 0 with
 | true=>rw [he] at h;cases h;exact bne_iff_ne.1 he
 | false=>rw [he] at h;cases h
theorem Bb9 {b:TCT A3} {c:TCT Co} {ps:Dss} {os:List Bool} {w fl t st:Int} {i k:Nat} {s:MK} {e:Int} (h:bpE b c ps os w fl t st i k s=.inr (.inr e)):e≠0:=by
 unfold bpE at h
 cases h1:!Cf s.1 os i||F9 w fl i with
 | true=>rw [h1] at h;cases h
 | false =>
  rw [h1] at h
  cases h2:(bmV b (A8 s.1 i) (Fi ps k) c).2.1==0 with
  | true=>rw [h2] at h;cases h
  | false =>
   rw [h2] at h
   cases h3:(bmV b (A8 s.1 i) (Fi ps k) c).2.1==4 with
   | true =>
    rw [h3] at h
    cases h
    exact beq_eq_false_iff_ne.1 h2
   | false=>rw [h3] at h;cases h
theorem Bba {bl:List (TCT A3)} {c:TCT Co} {ps:Dss} {t st w fl:Int} {n:Nat} {s:S2} {e:Int} (h:buF bl c ps t st w fl n s=.inr e):e≠0:=by
 unfold buF at h
 obtain ⟨j,u,hj⟩:=Fq _ _ _ _ h
 unfold boE at hj
 cases hf:B6 (bpE (E6 bl j) c ps s.2.1 w fl t st j) 0 ps.length u with
 | inl a=>rw [hf] at hj;cases hj
 | inr y =>
  rw [hf] at hj
  obtain ⟨k,v,hk⟩:=Fq _ _ _ _ hf
  have:y=.inr e:=hj
  subst this
  exact Bb9 hk
theorem Bbb {k:CT} {i:Nat} {s:S2} {e:Int} (h:tkE k i s=.inr e):e≠0:=by
 unfold tkE at h
 cases h1:mvF k.bl k.l k.t ((i+1:Nat):Int) k.bl.length s with
 | inr e'=>rw [h1] at h;cases h;exact Bb8 h1
 | inl s1 =>
  rw [h1] at h
  simp only at h
  cases h2:seF k.bl k.c k.t ((i+1:Nat):Int) k.w k.fl k.bl.length s1 with
  | inr e'=>rw [h2] at h;cases h;exact Zx h2
  | inl s2 =>
   rw [h2] at h
   simp only at h
   cases h3:buF k.bl k.c k.ps k.t ((i+1:Nat):Int) k.w k.fl k.bl.length (s2.1,s1.2.1,s2.2) with
   | inr e'=>rw [h3] at h;cases h;exact Bba h3
   | inl s3=>rw [h3] at h;cases h
theorem Aun {k:CT} {s:S2} {e:Int} (h:tkF k s=.inr e):e≠0:=by
 unfold tkF at h
 cases h0:k.t==4000 with
 | true=>rw [h0] at h;cases h;decide
 | false =>
  rw [h0] at h
  simp only [cond_false] at h
  cases h1:B6 (slE k.l s.2.1 k.w k.fl) 0 k.bl.length s.1 with
  | inr e' =>
   rw [h1] at h
   cases h
   obtain ⟨j,t,hj⟩:=Fq _ _ _ _ h1
   exact Bb6 hj
  | inl ms =>
   rw [h1] at h
   obtain ⟨j,t,hj⟩:=Fq _ _ _ _ h
   exact Bbb hj
def ctS (g:TCT cGr) (s:TCT cSt):CT:=⟨A4 g,g.1,g.2.2.1,Iq g.1,s.2.2.1,s.2.2.2.1,s.2.2.2.2.1⟩
abbrev TkR:Type:=TCTs [cSt,.sl cKn,cI]
def I1 (e:Int):TkR:=(zS,[],e,())
def tkR (s:TCT cSt):S2⊕Int→TkR
 | .inl r=>((r.1,r.2.1,s.2.2.1,max 0 (W64 (s.2.2.2.1-1)),W64 (s.2.2.2.2.1+1),()),r.2.2,0,())
 | .inr e=>I1 e
def tkV (g:TCT cGr) (s:TCT cSt):TkR:=tkR s (tkF (ctS g s) (msT s,osT s,[]))
def TickV (g:TCT cGr) (s:TCT cSt):TkR:=bif Fp g s != 0 then I1 (Fp g s) else tkV g s
def Zy (r:TkR):TkR:=(etaS r.1,r.2.1,r.2.2.1,())
abbrev B2f:PureT:=Bv [cGr,cSt] [cSt,.sl cKn,cI] (fun x=>decide ((x.1.1.1.size:Int)≤Bl .i64)) (fun x=>Zy (TickV x.1 x.2.1))
abbrev TTR:=Tree TkR
def gT (g:TCT cGr) (s:TCT cSt):GB:=((g.1.1,g.1.2.1,g.1.2.2.1,g.1.2.2.2.1,g.1.2.2.2.2.1,g.1.2.2.2.2.2.1.1.1,g.1.2.2.2.2.2.1.1.2.1,g.1.2.2.2.2.2.1.2.1,g.1.2.2.2.2.2.2.1,g.1.2.2.2.2.2.2.2.1,g.1.2.2.2.2.2.2.2.2.1,g.2.1,g.2.2.1.1,g.2.2.1.2.1,Iq g.1,([]++s.1),([]++s.2.1),s.2.2.1,s.2.2.2.1,s.2.2.2.2.1,0,((),(),()),()),([],()),())
def neT {β:Type} {c:Type} (l:List c) (k:Tree β):Tree β:=bif !List.isEmpty l then k else .fail
theorem Vj {β:Type} {c:Type} {l:List c} {k:Tree β} (h:1≤l.length):neT l k=k:=by
 cases l with
 | nil=>simp at h
 | cons _ _=>rfl
def acT {β:Type} {c:Type} (l:List c) (b:Nat) (k:Tree β):Tree β:=bif E8 [] l b then k else .fail
theorem Vk {β:Type} {c:Type} {l:List c} {b:Nat} {k:Tree β} (h:l.length≤1000) (hb:b≤48):acT l b k=k:=by
 unfold acT
 rw [Jm (by simp;omega) hb];rfl
def B2g (Y:Y2) (g:TCT cGr) (s:TCT cSt):TTR:=szT g.1 (bif Fp g s != 0 then .leaf (I1 (Fp g s)) else szT g.1 (neT (msT s) (acT (msT s) 48 (neT (osT s) (acT (osT s) 1 (
 thY (Y (gT g s)) z2 (fun e=>bif e != 0 then .leaf (I1 e) else .fail) fun r=>.leaf (tkR s (.inl r))))))))
abbrev plTk:List (Nat×PureT):=(25,A5r)::plGm
theorem puTk:Db Tryz.prog plTk:=puOk_cons is_Posts.plain Ai6 puGm
noncomputable def Bld:List (Nat×Func):=[(14,Tryz.f14),(45,Tryz.f45),(47,Tryz.f47),(97,Tryz.f97),(95,Tryz.f95),(96,Tryz.f96)]
noncomputable def Bgw (Y:Y2):Ctx:=W9 Tryz.prog plTk Bld [] [(54,spYT 53 Y)]
theorem B2h (Y:Y2) (x:TCTs [cGr,cSt]):Dx (Bgw Y) 8 (.fn 14) (E7 [cGr,cSt] x) Ce 0 (J3 Tryz.prog [cSt,.sl cKn,cI])=B2g Y x.1 x.2.1:=by kernel_rfl
theorem B2i:CtxOk (Bgw O9):=Hi Aw puTk (fns_cons is_sTick (fns_cons is_newGame (fns_cons is_sTry (fns_cons is_sTry1 (fns_cons is_clMot (fns_cons is_clBool A0)))))) Ir (fun p hp=>by
 rw [List.mem_singleton] at hp;subst hp;exact ⟨is_gtick.plain,B2d⟩)
theorem Zz {l:TCT A5}:(Iq l).length≤25:=by
 unfold Iq
 cases h:Ck l==0 with
 | false=>show (0:Nat)≤25;omega
 | true =>
  have k:Ck l=0:=beq_iff_eq.1 h
  have hh:(Bh l).length≤12:=by
   unfold Ck Nz at k
   cases h1:decide (((Bh l).length:Int)<1)||(decide (((Bh l).length:Int)>12)||decide (((Dl l).length:Int)>256)) with
   | true=>rw [h1] at k;cases k
   | false =>
    simp only [Bool.or_eq_false_iff,decide_eq_false_iff_not] at h1
    omega
  show (Bz l).length≤25
  rw [Vb]
  omega
structure StaOk (g:TCT cGr) (s:TCT cSt):Prop where
 gr:groE g=0
 n1:1≤(A4 g).length
 n8:(A4 g).length≤8
 m:(msT s).length=(A4 g).length
 o:(osT s).length=(A4 g).length
 ok:Ip (okS g (osT s)) 0 (msT s)=true
 num:A5u (A4 g).length s=false
theorem A69 {g:TCT cGr} {s:TCT cSt} (h:Fp g s=0):StaOk g s:=by
 unfold Fp at h
 cases h1:groE g != 0 with
 | true=>rw [h1,cond_true] at h;exact absurd h (bne_iff_ne.1 h1)
 | false =>
  have hg:groE g=0:=bne_eq_false_iff_eq.1 h1
  rw [h1,cond_false] at h
  unfold vaE at h
  cases h2:A2u g s with
  | false=>rw [h2] at h;cases h
  | true =>
   rw [h2,cond_true] at h
   cases h3:Ip (okS g (osT s)) 0 (msT s) with
   | false=>rw [h3] at h;cases h
   | true =>
    rw [h3,cond_true] at h
    cases h4:A5u (A4 g).length s with
    | true=>rw [h4] at h;cases h
    | false =>
     have a:=Aih hg
     have b:=Z8 h2
     exact ⟨hg,a.1,a.2,b.1,b.2,h3,h4⟩
theorem Ajb {g:TCT cGr} {s:TCT cSt} (hs:(g.1.1.size:Int)≤Bl .i64) (h:StaOk g s):Aa6 (gT g s)=true:=by
 unfold Aa6 A65 Qj
 simp only [Bool.and_eq_true,decide_eq_true_eq]
 refine ⟨⟨⟨F4.2 ⟨hs,?_,?_,h.n8⟩,by show (0:Nat)≤900000;omega⟩,?_⟩,by show (0:Nat)≤700000;omega⟩
 ·show ([]++s.1:Ax).length=(A4 g).length
  rw [List.nil_append];exact h.m
 ·show ([]++s.2.1:List Bool).length=(A4 g).length
  rw [List.nil_append];exact h.o
 ·have:=Zz (l:=g.1)
  show (Iq g.1).length≤1000
  omega
theorem B2j {g:TCT cGr} {s:TCT cSt} (hs:(g.1.1.size:Int)≤Bl .i64) (h:StaOk g s):O9 (gT g s)=some (tkF (ctS g s) (msT s,osT s,[])):=by
 unfold O9
 rw [Ajb hs h]
 rfl
theorem B2k {g:TCT cGr} {s:TCT cSt} (hs:(g.1.1.size:Int)≤Bl .i64):(B2g O9 g s).sat (fun y=>y=Zy (TickV g s)):=by
 unfold B2g TickV
 rw [Dg hs,Dg hs]
 cases h1:Fp g s != 0 with
 | true=>exact rfl
 | false =>
  have h:=A69 (bne_eq_false_iff_eq.1 h1)
  have hn1:=h.n1
  have hn8:=h.n8
  have hm:=h.m
  have ho:=h.o
  simp only [cond_false]
  rw [Vj (by omega),Vk (by omega) (by decide),Vj (by omega),Vk (by omega) (by decide)]
  have hy:=B2j hs h
  unfold tkV
  cases hf:tkF (ctS g s) (msT s,osT s,[]) with
  | inl r=>rw [hf] at hy;rw [Wp hy];exact rfl
  | inr e =>
   rw [hf] at hy
   rw [Wq hy,show (e != 0)=true from bne_iff_ne.2 (Aun hf)]
   exact rfl
theorem Ajc:A7 Tryz.prog 14 B2f:=C0 B2i 8 (fun x=>B2g O9 x.1 x.2.1) (B2h O9) fun x hok _=>B2k (of_decide_eq_true hok)
end St
end V
end Go.Proofs.YtcfanlgpkefogaaGreat
namespace Go.Proofs.YtcfanlgpkefogaaGreat
open Go.RowKit
namespace V
namespace St
theorem is_sStrike:FnIs Tryz.prog (11,Tryz.f11):=⟨Tryz.func11,by kernel_rfl,by kernel_rfl⟩
def ex2:Ax:=[((50000,60106,()),(0,190000,()),(0,-12800,()),()),((80000,60000,()),(0,0,()),(0,0,()),())]
end St
end V
end Go.Proofs.YtcfanlgpkefogaaGreat
namespace Go.Proofs.YtcfanlgpkefogaaGreat
open Go.RowKit
namespace V
namespace St
def Azx (a b:TCT Bd):Bool:=(a.1.1==b.1.1&&(a.1.2.1==b.1.2.1&&true))&&((a.2.1.1==b.2.1.1&&(a.2.1.2.1==b.2.1.2.1&&true))&&((a.2.2.1.1==b.2.2.1.1&&(a.2.2.1.2.1==b.2.2.1.2.1&&true))&&true))
end St
end V
end Go.Proofs.YtcfanlgpkefogaaGreat
