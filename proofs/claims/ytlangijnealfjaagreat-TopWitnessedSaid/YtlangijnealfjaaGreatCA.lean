import Derived.Test.YtlangijnealfjaaGreatBA
namespace Go.Proofs.YtlangijnealfjaaGreat
open Go.RowKit
namespace V
namespace St
abbrev kPt:List SK:=[.d cI,.d cI]
def p0:SKTs kPt:=(0,0,())
end St
end V
end Go.Proofs.YtlangijnealfjaaGreat
namespace Go.Proofs.YtlangijnealfjaaGreat
open Go.RowKit
namespace V
def isL {A B:Type}:Option (A⊕B)→Bool
 | some (.inl _)=>true
 | _=>false
def isR {A B:Type}:Option (A⊕B)→Bool
 | some (.inr _)=>true
 | _=>false
def gL {A B:Type} (d:A):Option (A⊕B)→A
 | some (.inl a)=>a
 | _=>d
def gR {A B:Type} (d:B):Option (A⊕B)→B
 | some (.inr b)=>b
 | _=>d
def FLay.dfl (F:FLay):F.T:=(dflKs F.ks,Bb2 F.bs)
theorem Y1 {α:Type} {t:Tree α} {R S:α→Prop} (h:t.sat R) (k:∀ x,R x→S x):t.sat S:=by
 induction t with
 | leaf a=>exact k a h
 | need p t ih=>exact ⟨h.1,ih h.2⟩
 | br c t e i1 i2=>exact ⟨fun x=>i1 (h.1 x),fun x=>i2 (h.2 x)⟩
 | fail=>exact h
def B7q {L:FLay} {E:Bool→FLay} (c:L.T→Bool) (r:L.T→(E true).T) (g:L.T):Tree (Ee E):=.br (c g) (.leaf ⟨true,r g⟩) .fail
theorem A4v {X:Ctx} (hX:CtxOk X) {f:FuncId} (m:Nat) {probe:Ao→List AV→Option (List Nat)} {L:FLay} {E:Bool→FLay} (hE:∀ b,L.nx≤(E b).nx) (c:L.T→Bool) (r:L.T→(E true).T) (T:L.T→Tree (Ee E))
  (he:∀ g,Qq X (D1 X m) f (ofKs L.ks g.1 L.nx) (L.lay.hp g) (L.lay.of g).nx (A0m E)=T g)
  (h:∀ g,L.lay.WF g→c g=true→(T g).run=some ⟨true,r g⟩):C5 X.P f (Ky probe L E (B7q c r)) :=
 Aah hX m hE fun g R hw hf=>by
  rw [he]
  cases hc:c g with
  | false=>exact (hf.2 hc).elim
  | true=>exact Y1 (Tree.sat_run (h g hw hc) (hf.1 hc)) fun x hx _=>hx
namespace St
theorem is_rolls:FnIs Tryz.prog (192,Tryz.f192):=⟨Tryz.func192,by kernel_rfl,by kernel_rfl⟩
theorem is_flies:FnIs Tryz.prog (134,Tryz.f134):=⟨Tryz.func134,by kernel_rfl,by kernel_rfl⟩
theorem is_knock:FnIs Tryz.prog (136,Tryz.f136):=⟨Tryz.func136,by kernel_rfl,by kernel_rfl⟩
theorem is_must:FnIs Tryz.prog (73,Tryz.f73):=⟨Tryz.func73,by kernel_rfl,by kernel_rfl⟩
theorem is_gslow:FnIs Tryz.prog (129,Tryz.f129):=⟨Tryz.func129,by kernel_rfl,by kernel_rfl⟩
theorem is_gmove:FnIs Tryz.prog (130,Tryz.f130):=⟨Tryz.func130,by kernel_rfl,by kernel_rfl⟩
theorem is_gsettle:FnIs Tryz.prog (74,Tryz.f74):=⟨Tryz.func74,by kernel_rfl,by kernel_rfl⟩
theorem is_gbump:FnIs Tryz.prog (131,Tryz.f131):=⟨Tryz.func131,by kernel_rfl,by kernel_rfl⟩
theorem is_gtick:FnIs Tryz.prog (68,Tryz.f68):=⟨Tryz.func68,by kernel_rfl,by kernel_rfl⟩
theorem is_Strike1:FnIs Tryz.prog (71,Tryz.f71):=⟨Tryz.func71,by kernel_rfl,by kernel_rfl⟩
theorem is_run1:FnIs Tryz.prog (137,Tryz.f137):=⟨Tryz.func137,by kernel_rfl,by kernel_rfl⟩
abbrev kGm (f:Nat):List SK:=[.d .s,.d cI,.d cI,.d cI,.d (.sl Bv),.d cI,.d cI,.d cI,.d cI,.d cI,.d (.sl D8),.d (.sl A3),.d cI,.d cI,.d (.sl A4),.w 2 84 B0,.o 4 .b,.d cI,.d cI,.d cI,.d cI,.f f [] [.p 1 0 0 0]]
abbrev bsG (f:Nat):List BK:=[(0,171,kGm f),(1,79,[.o 101 cKn])]
abbrev GM:Type:=SKTs (kGm 0)
abbrev Kns:Type:=List (TCT cKn)
abbrev Au:Type:=List (TCT B0)
def gmX (m:GM):SKTs kGr:=(m.1,m.2.1,m.2.2.1,m.2.2.2.1,m.2.2.2.2.1,m.2.2.2.2.2.1,m.2.2.2.2.2.2.1,m.2.2.2.2.2.2.2.1,m.2.2.2.2.2.2.2.2.1,m.2.2.2.2.2.2.2.2.2.1,m.2.2.2.2.2.2.2.2.2.2.1,m.2.2.2.2.2.2.2.2.2.2.2.1,m.2.2.2.2.2.2.2.2.2.2.2.2.1,m.2.2.2.2.2.2.2.2.2.2.2.2.2.1,())
def gmP (m:GM):List (TCT A4):=m.2.2.2.2.2.2.2.2.2.2.2.2.2.2.1
def gmM (m:GM):Au:=m.2.2.2.2.2.2.2.2.2.2.2.2.2.2.2.1
def gmO (m:GM):List Bool:=m.2.2.2.2.2.2.2.2.2.2.2.2.2.2.2.2.1
def gmW (m:GM):Int:=m.2.2.2.2.2.2.2.2.2.2.2.2.2.2.2.2.2.1
def gmF (m:GM):Int:=m.2.2.2.2.2.2.2.2.2.2.2.2.2.2.2.2.2.2.1
def gmT (m:GM):Int:=m.2.2.2.2.2.2.2.2.2.2.2.2.2.2.2.2.2.2.2.1
def gmS (m:GM):Int:=m.2.2.2.2.2.2.2.2.2.2.2.2.2.2.2.2.2.2.2.2.1
def gmU (m:GM) (ms:Au) (os:List Bool):GM:=(m.1,m.2.1,m.2.2.1,m.2.2.2.1,m.2.2.2.2.1,m.2.2.2.2.2.1,m.2.2.2.2.2.2.1,m.2.2.2.2.2.2.2.1,m.2.2.2.2.2.2.2.2.1,m.2.2.2.2.2.2.2.2.2.1,m.2.2.2.2.2.2.2.2.2.2.1,m.2.2.2.2.2.2.2.2.2.2.2.1,m.2.2.2.2.2.2.2.2.2.2.2.2.1,m.2.2.2.2.2.2.2.2.2.2.2.2.2.1,m.2.2.2.2.2.2.2.2.2.2.2.2.2.2.1,ms,os,m.2.2.2.2.2.2.2.2.2.2.2.2.2.2.2.2.2.1,m.2.2.2.2.2.2.2.2.2.2.2.2.2.2.2.2.2.2.1,m.2.2.2.2.2.2.2.2.2.2.2.2.2.2.2.2.2.2.2.1,m.2.2.2.2.2.2.2.2.2.2.2.2.2.2.2.2.2.2.2.2.1,m.2.2.2.2.2.2.2.2.2.2.2.2.2.2.2.2.2.2.2.2.2.1,())
def gmB (m:GM):List (TCT A3):=blX (gmX m)
def gmL (m:GM):TCT Am:=lwG (gmX m)
abbrev GB:Type:=GM×SKTs [.o 0 cKn]×Unit
def gb (m:GM) (k:Kns):GB:=(m,(k,()),())
def plGm:List (Nat×PureT):=(63,A7r)::(193,A7p)::(194,Aty)::(104,Att)::(195,Atx)::(135,A9a)::plS4
def Ayt:List AV→List Nat
 | []=>[]
 | .own i::l=>i::Ayt l
 | _::l=>Ayt l
def Lb (hp:Ao) (args:List AV):Option (List Nat):=match args with
 | .ptr id _ _ _::_=>match hp id with
  | some (.blk b)=>match nth b.cs 21 with
   | some (.fn _ _ [.ptr k _ _ _])=>match hp k with
    | some (.blk c)=>some (id::k::(Ayt b.cs++Ayt c.cs))
    | _=>none
   | _=>none
  | _=>none
 | _=>none
def A7z (f:Nat):FLay:={ ks:=[.p 0 0 0 0,.d cI],bs:=bsG f,nx:=1000 }
def Bi5 (f:Nat):FLay:={ ks:=[.d .b],bs:=bsG f,nx:=1000 }
def FN:FLay:={ ks:=[.i 39 .i64],bs:=[],nx:=1000 }
def A1s (f:Nat) (b:Bool):FLay:=bif b then Bi5 f else FN
def inO {β:Type} (n:Nat) (i:Int) (k:Tree β):Tree β:=inN n i (bif decide (Int.toNat i<n) then k else .fail)
theorem Hj {β:Type} {n:Nat} {i:Int} {k:Tree β} (h:0≤i∧i<(n:Int)):inO n i k=k:=by
 unfold inO
 rw [F3 h,decide_eq_true (by omega)];rfl
def Cf (ms:Au) (os:List Bool) (i:Nat):Bool:=!As os i (Aq .b)&&A7y (As ms i (Aq B0))
def Fi (w fl i:Int):Bool:=(i==w)&&decide (fl>0)
def A1t (ms:Au) (os:List Bool) (i:Int):Bool:=decide (0≤i∧i<(os.length:Int)∧i<(ms.length:Int))
def lfB (f:Nat) (b:Bool) (x:GB):Tree (Ee (A1s f)):=.leaf ⟨true,((b,()),x)⟩
def T_ro (f:Nat) (i:Int) (m:GM) (x:GB):Tree (Ee (A1s f)):=inO (gmO m).length i (bif !As (gmO m) (Int.toNat i) (Aq .b) then inO (gmM m).length i (lfB f (A7y (As (gmM m) (Int.toNat i) (Aq B0))) x) else lfB f false x)
abbrev C_ro (f:Nat) (g:(A7z f).T):Bool:=A1t g.2.1.2.2.2.2.2.2.2.2.2.2.2.2.2.2.2.1 g.2.1.2.2.2.2.2.2.2.2.2.2.2.2.2.2.2.2.1 g.1.2.1
def V_ro (f:Nat) (g:(A7z f).T):(A1s f true).T:=((Cf g.2.1.2.2.2.2.2.2.2.2.2.2.2.2.2.2.2.1 g.2.1.2.2.2.2.2.2.2.2.2.2.2.2.2.2.2.2.1 (Int.toNat g.1.2.1),()),g.2)
def C_fl (f:Nat) (_:(A7z f).T):Bool:=true
def V_fl (f:Nat) (g:(A7z f).T):(A1s f true).T:=((Fi g.2.1.2.2.2.2.2.2.2.2.2.2.2.2.2.2.2.2.2.1 g.2.1.2.2.2.2.2.2.2.2.2.2.2.2.2.2.2.2.2.2.1 g.1.2.1,()),g.2)
def T_fl (f:Nat) (i:Int) (m:GM) (x:GB):Tree (Ee (A1s f)):=bif i==gmW m then lfB f (decide (gmF m>0)) x else lfB f false x
theorem Wx {f:Nat} (b:Bool):1000≤(A1s f b).nx:=by cases b <;> exact Nat.le_refl _
theorem Aq8 {f:Nat} {g:(A7z f).T} (h:C_ro f g=true):(T_ro f g.1.2.1 g.2.1 g.2).run=some ⟨true,V_ro f g⟩:=by
 have hd:0≤g.1.2.1∧g.1.2.1<((gmO g.2.1).length:Int)∧g.1.2.1<((gmM g.2.1).length:Int):=of_decide_eq_true h
 unfold V_ro
 show (T_ro f g.1.2.1 g.2.1 g.2).run=some (⟨true,((Cf (gmM g.2.1) (gmO g.2.1) (Int.toNat g.1.2.1),()),g.2)⟩:Ee (A1s f))
 unfold T_ro Cf
 rw [Hj ⟨hd.1,hd.2.1⟩,Hj ⟨hd.1,hd.2.2⟩]
 cases As (gmO g.2.1) (Int.toNat g.1.2.1) (Aq .b) <;> rfl
theorem Aq9 {f:Nat} {g:(A7z f).T}:(T_fl f g.1.2.1 g.2.1 g.2).run=some ⟨true,V_fl f g⟩:=by
 unfold V_fl
 show (T_fl f g.1.2.1 g.2.1 g.2).run=some (⟨true,((Fi (gmW g.2.1) (gmF g.2.1) g.1.2.1,()),g.2)⟩:Ee (A1s f))
 unfold T_fl Fi
 cases g.1.2.1==gmW g.2.1 <;> rfl
abbrev sp_ro (f:Nat):Ao→Nat→List AV→Tree (Out×Ao×Nat):=Ky Lb (A7z f) (A1s f) (B7q (fun g=>A1t g.2.1.2.2.2.2.2.2.2.2.2.2.2.2.2.2.2.1 g.2.1.2.2.2.2.2.2.2.2.2.2.2.2.2.2.2.2.1 g.1.2.1) (V_ro f))
abbrev sp_fl (f:Nat):Ao→Nat→List AV→Tree (Out×Ao×Nat):=Ky Lb (A7z f) (A1s f) (B7q (fun _=>true) (V_fl f))
theorem puGm:D3 Tryz.prog plGm:=puOk_cons is_sOn.plain B4i (puOk_cons is_CellAt.plain Apl (puOk_cons is_Slow.plain Baa (puOk_cons is_Step.plain Ba8 (puOk_cons is_Bump.plain Ba9 (puOk_cons is_Settle.plain At1 puS4)))))
noncomputable def Bi6:Ctx:=ctx Tryz.prog plGm [(192,Tryz.f192),(134,Tryz.f134)]
theorem Wy:CtxOk Bi6:=Ap Ak puGm (fns_cons is_rolls (fns_cons is_flies A0))
theorem Wz:C5 Tryz.prog 192 (sp_ro 71):=A4v Wy 6 Wx (C_ro 71) (V_ro 71) (fun g=>T_ro 71 g.1.2.1 g.2.1 g.2) (fun g=>by kernel_rfl) fun _ _ h=>Aq8 h
theorem X0:C5 Tryz.prog 134 (sp_fl 71):=A4v Wy 6 Wx (C_fl 71) (V_fl 71) (fun g=>T_fl 71 g.1.2.1 g.2.1 g.2) (fun g=>by kernel_rfl) fun _ _ _=>Aq9
theorem Gs:C5 Tryz.prog 192 (sp_ro 137):=A4v Wy 6 Wx (C_ro 137) (V_ro 137) (fun g=>T_ro 137 g.1.2.1 g.2.1 g.2) (fun g=>by kernel_rfl) fun _ _ h=>Aq8 h
theorem Gt:C5 Tryz.prog 134 (sp_fl 137):=A4v Wy 6 Wx (C_fl 137) (V_fl 137) (fun g=>T_fl 137 g.1.2.1 g.2.1 g.2) (fun g=>by kernel_rfl) fun _ _ _=>Aq9
end St
end V
end Go.Proofs.YtlangijnealfjaaGreat
namespace Go.Proofs.YtlangijnealfjaaGreat
open Go.RowKit
namespace V
def Y3 {L:FLay} {E:Bool→FLay} {A:Type} (Y:L.T→Option (A⊕Int)) (mk:L.T→A→(E true).T) (pn:Int→(E false).T) (d:A) (g:L.T):Tree (Ee E) :=
 .br (isL (Y g)) (.leaf ⟨true,mk g (gL d (Y g))⟩) (.br (isR (Y g)) (.leaf ⟨false,pn (gR 0 (Y g))⟩) .fail)
def A1u {L:FLay} {E:Bool→FLay} {A:Type} (mk:L.T→A→(E true).T) (pn:Int→(E false).T) (g:L.T):A⊕Int→Ee E
 | .inl a=>⟨true,mk g a⟩
 | .inr e=>⟨false,pn e⟩
theorem Aqa {L:FLay} {E:Bool→FLay} {A:Type} {Y:L.T→Option (A⊕Int)} {mk:L.T→A→(E true).T} {pn:Int→(E false).T} {d:A} {g:L.T} {R:Ee E→Prop} (h:(Y3 Y mk pn d g).sat R):∃ z,Y g=some z∧R (A1u mk pn g z):=by
 unfold Y3 at h
 obtain ⟨h1,h2⟩:=h
 cases hF:Y g with
 | none =>
  rw [hF] at h2
  exact ((h2 rfl).2 rfl).elim
 | some z =>
  cases z with
  | inl a=>rw [hF] at h1;exact ⟨_,rfl,h1 rfl⟩
  | inr b=>rw [hF] at h2;exact ⟨_,rfl,(h2 rfl).1 rfl⟩
theorem U3 {X:Ctx} (hX:CtxOk X) {f:FuncId} (m:Nat) {probe:Ao→List AV→Option (List Nat)} {L:FLay} {E:Bool→FLay} (hE:∀ b,L.nx≤(E b).nx) {A:Type} (Y:L.T→Option (A⊕Int)) (mk:L.T→A→(E true).T) (pn:Int→(E false).T) (d:A) (T:L.T→Tree (Ee E))
  (he:∀ g,Qq X (D1 X m) f (ofKs L.ks g.1 L.nx) (L.lay.hp g) (L.lay.of g).nx (A0m E)=T g)
  (h:∀ g z,L.lay.WF g→Y g=some z→(T g).run=some (A1u mk pn g z)):C5 X.P f (Ky probe L E (Y3 Y mk pn d)) :=
 Aah hX m hE fun g R hw hf=>by
  rw [he]
  obtain ⟨z,hz,hr⟩:=Aqa hf
  exact Y1 (Tree.sat_run (h g z hw hz) hr) fun x hx _=>hx
namespace St
def nBx (m:GM):Nat:=(gmB m).length
def Ajy (m:GM):Bool:=decide ((m.1.size:Int)≤B7 .i64)&&(decide ((gmM m).length=nBx m)&&(decide ((gmO m).length=nBx m)&&decide (nBx m≤8)))
structure OkGM (m:GM):Prop where
 sz:(m.1.size:Int)≤B7 .i64
 ms:(gmM m).length=nBx m
 os:(gmO m).length=nBx m
 n:nBx m≤8
theorem Et {m:GM}:Ajy m=true ↔ OkGM m:=by
 unfold Ajy
 simp only [Bool.and_eq_true,decide_eq_true_eq]
 exact ⟨fun h=>⟨h.1,h.2.1,h.2.2.1,h.2.2.2⟩,fun h=>⟨h.sz,h.ms,h.os,h.n⟩⟩
def FL_g (f:Nat):FLay:={ ks:=[.p 0 0 0 0],bs:=bsG f,nx:=1000 }
def Bi7 (f:Nat):FLay:={ ks:=[],bs:=bsG f,nx:=1000 }
def FE_u (f:Nat) (b:Bool):FLay:=bif b then Bi7 f else FN
theorem P5 {f:Nat} (b:Bool):1000≤(FE_u f b).nx:=by cases b <;> exact Nat.le_refl _
def pnU (f:Nat) (e:Int):(FE_u f false).T:=((e,()),())
def mkU (f:Nat) (x:GB):(FE_u f true).T:=((),x)
def spG (f:Nat):List (Nat×(Ao→Nat→List AV→Tree (Out×Ao×Nat))):=[(192,sp_ro f),(134,sp_fl f)]
theorem Lx {P:Program} {f g:Nat} {sp sq:Ao→Nat→List AV→Tree (Out×Ao×Nat)} (h:Plain P f) (k:C5 P f sp) (h2:Plain P g) (k2:C5 P g sq):∀ p ∈ [(f,sp),(g,sq)],Plain P p.1∧C5 P p.1 p.2:=fun p hp=>by
 simp only [List.mem_cons,List.not_mem_nil,or_false] at hp
 rcases hp with rfl | rfl
 ·exact ⟨h,k⟩
 ·exact ⟨h2,k2⟩
theorem Ly {P:Program} {fns:List (Nat×Func)}:∀ p ∈ fns,∀ d ∈ Al (bodyOf p.2),∀ g,Co ([]:List ((Nat×Nat)×(St→Tree (XE×St)))) p.1 (keyOf d)=some g→Aw P p.1 d g:=fun _ _ _ _ _ h=>by simp [Co] at h
noncomputable def Bi8 (f:Nat):Ctx:=Wq Tryz.prog plGm [(73,Tryz.f73)] [] (spG f)
theorem Ayu {f:Nat} (h1:C5 Tryz.prog 192 (sp_ro f)) (h2:C5 Tryz.prog 134 (sp_fl f)):CtxOk (Bi8 f):=Hr Ak puGm (fns_cons is_must A0) Ly (Lx is_rolls.plain h1 is_flies.plain h2)
noncomputable def B4o:Code:=(Al (bodyOf Tryz.f129)).getD 0 .skip
def Ajz (f:Nat):Lay:={ keys:=[0,13,14],ks:=[.p 0 0 0 0,.d cI,.d cI],bs:=bsG f,n:=80,nx:=2000,marks:=[] }
def Bi9 (f:Nat):Lay:={ keys:=[],ks:=[],bs:=bsG f,n:=80,nx:=2000,marks:=[] }
def Bia:Lay:={ keys:=[],ks:=[],bs:=[],n:=80,nx:=2000,marks:=[] }
def Acn (f:Nat):XE→Lay:=fun e=>match e with | .panic _=>Bia | _=>Bi9 f
def Nq (l:TCT Am) (m:TCT B0):TCTs [cPt,cI]:=Ni (W64 (m.2.1.1+(Lu l m.1).2.1)) (W64 (m.2.1.2.1+(Lu l m.1).2.2.1)) (Lu l m.1).1
def Aco (l:TCT Am) (m:TCT B0):TCT B0:=(m.1,((Nq l m).1.1,(Nq l m).1.2.1,()),m.2.2.1,())
def A9 (ms:Au) (i:Nat):TCT B0:=As ms i (Aq B0)
def gk (x:GB):Kns:=x.2.1.1
def Q0 (f:Nat) (x:GB) (n i:Int) (ms:Au):(Ajz f).T:=(((),n,i,()),(gb (gmU x.1 ms (gmO x.1)) (gk x)))
def Aqb (f:Nat) (x:GB) (ms:Au):A1 (Acn f):=⟨.exit 0,((),(gb (gmU x.1 ms (gmO x.1)) (gk x)))⟩
def Aqc (f:Nat) (e:Int):A1 (Acn f):=⟨.panic (.ifc 39 (.int .i64 e)),((),())⟩
abbrev TSw (f:Nat):=Tree ((Ajz f).T⊕A1 (Acn f))
def inT {β:Type} (n:Nat) (i:Int) (k:Tree β):Tree β:=bif decide (Int.toNat i<n) then k else .fail
theorem Acp {β:Type} {n:Nat} {i:Int} {k:Tree β} (h:0≤i∧i<(n:Int)):inT n i k=k:=by unfold inT;rw [decide_eq_true (by omega)];rfl
def Aqd (f:Nat) (x:GB) (n i:Int) (ms:Au):TSw f :=
 bif Gk (gmL x.1) (A9 ms (Int.toNat i)).1 != 0 then .leaf (.inr (Aqc f (Gk (gmL x.1) (A9 ms (Int.toNat i)).1))) else inT ms.length i (inT ms.length i (
  bif (Nq (gmL x.1) (A9 ms (Int.toNat i))).2.1 != 0 then .leaf (.inr (Aqc f 4)) else inT ms.length i (.leaf (.inl (Q0 f x n (W64 (i+1)) (Bf ms (Int.toNat i) (Aco (gmL x.1) (A9 ms (Int.toNat i)))))))))
def szG {β:Type} (m:GM) (k:Tree β):Tree β:=bif decide ((m.1.size:Int)≤B7 .i64) then k else .fail
def Y4 (f:Nat) (x:GB) (n i:Int) (ms:Au):TSw f:=bif decide (i<n) then bif A1t ms (gmO x.1) i then
 bif !Cf ms (gmO x.1) (Int.toNat i) then .leaf (.inl (Q0 f x n (W64 (i+1)) ms)) else bif Fi (gmW x.1) (gmF x.1) i then .leaf (.inl (Q0 f x n (W64 (i+1)) ms)) else
 inO ms.length i (szG x.1 (Aqd f x n i ms)) else .fail else .leaf (.inr (Aqb f x ms))
def Aqe (f:Nat) (g:(Ajz f).T):TSw f:=Y4 f g.2 g.1.2.1 g.1.2.2.1 (gmM g.2.1)
def fu_sw (f:Nat) (g:(Ajz f).T):Nat:=Int.toNat g.1.2.1+1
def sm_sw (f:Nat):St→Tree (XE×St):=Ar (Ajz f) (Acn f) (finP 39 .i64 [.exit 0] (Aqe f) (fu_sw f))
theorem Ayv {f:Nat} (e:XE):(Ajz f).nx≤(Acn f e).nx:=by cases e <;> exact Nat.le_refl _
theorem B7r:Aw Tryz.prog 129 B4o (sm_sw 137):=Pr (Ayu Gs Gt) 7 _ _ _ Ayv _ _ _ _ (fu_sw 137) (fun g=>by kernel_rfl)
def A80 (m:GM) (i:Nat) (ms:Au):Au⊕Int :=
 bif !Cf ms (gmO m) i||Fi (gmW m) (gmF m) i then .inl ms else bif Gk (gmL m) (A9 ms i).1 != 0 then .inr (Gk (gmL m) (A9 ms i).1) else
 bif (Nq (gmL m) (A9 ms i)).2.1 != 0 then .inr 4 else .inl (Bf ms i (Aco (gmL m) (A9 ms i)))
def Y5 (f:Nat) (x:GB):Au⊕Int→A1 (Acn f)
 | .inl ms=>Aqb f x ms
 | .inr e=>Aqc f e
theorem C0 {α:Type}:∀ (l:List α) (i:Nat) (x:α),(Bf l i x).length=l.length
 | [],_,_=>rfl
 | _::_,0,_=>rfl
 | _::l,i+1,x=>by simp only [Bf,List.length_cons,C0 l i x]
theorem Aqf {m:GM} {n:Nat} (i:Nat) (s s':Au) (_:i<n) (hi:s.length=n) (h:A80 m i s=.inl s'):s'.length=n:=by
 unfold A80 at h
 cases h1:!Cf s (gmO m) i||Fi (gmW m) (gmF m) i with
 | true=>rw [h1] at h;cases h;exact hi
 | false =>
  rw [h1] at h
  cases h2:Gk (gmL m) (A9 s i).1 != 0 with
  | true=>rw [h2] at h;cases h
  | false =>
   rw [h2] at h
   cases h3:(Nq (gmL m) (A9 s i)).2.1 != 0 with
   | true=>rw [h3] at h;cases h
   | false=>rw [h3] at h;cases h;rw [C0];exact hi
theorem A4w {ms:Au} {os:List Bool} {i n:Nat} (h:i<n) (h1:ms.length=n) (h2:os.length=n):A1t ms os (i:Int)=true:=by
 unfold A1t
 exact decide_eq_true (by omega)
theorem Bdg {f:Nat} {x:GB} {ms:Au} (hx:OkGM x.1) (hm:ms.length=nBx x.1):iter (Aqe f) (nBx x.1+1) (Q0 f x (nBx x.1) 0 ms)=some (Y5 f x (Ax (A80 x.1) 0 (nBx x.1) ms)):=by
 have hn:(nBx x.1:Int)≤B7 .i64:=by have:=hx.n;show (nBx x.1:Int)≤9223372036854775807;omega
 refine J6 (nBx x.1) (fun i ms=>Q0 f x (nBx x.1) i ms) (A80 x.1) (Y5 f x) (fun _ ms=>ms.length=nBx x.1) (fun i ms hi hl=>?_) Aqf (fun ms hl=>?_) (nBx x.1) 0 ms (by omega) hm
 ·show (Y4 f (gb (gmU x.1 ms (gmO x.1)) (gk x)) (nBx x.1) (i:Int) ms).run=_
  have e:∀ y z,Q0 f (gb (gmU x.1 ms (gmO x.1)) (gk x)) (nBx x.1) y z=Q0 f x (nBx x.1) y z:=fun _ _=>rfl
  unfold Y4
  have hin:=A4w hi hl hx.os
  show Tree.run (bif decide ((i:Int)<(nBx x.1:Int)) then bif A1t ms (gmO x.1) (i:Int) then bif !Cf ms (gmO x.1) i then .leaf (.inl (Q0 f x (nBx x.1) (W64 ((i:Int)+1)) ms)) else bif Fi (gmW x.1) (gmF x.1) i then .leaf (.inl (Q0 f x (nBx x.1) (W64 ((i:Int)+1)) ms)) else
   inO ms.length i (szG x.1 (Aqd f x (nBx x.1) i ms)) else .fail else .leaf (.inr (Aqb f x ms)):TSw f)=_
  have hsz:∀ k:TSw f,szG x.1 k=k:=fun k=>by unfold szG;rw [decide_eq_true hx.sz];rfl
  rw [decide_eq_true (show (i:Int)<(nBx x.1:Int) by omega),hin,Hj (by omega),hsz,Ey hi hn]
  unfold A80 Aqd
  rw [Acp (by omega),Acp (by omega),Acp (by omega),show Int.toNat (i:Int)=i from rfl,Ey hi hn]
  cases Cf ms (gmO x.1) i with
  | false=>rfl
  | true =>
   cases Fi (gmW x.1) (gmF x.1) i with
   | true=>rfl
   | false =>
    simp only [Bool.not_true,Bool.or_self,cond_true,cond_false]
    cases Gk (gmL x.1) (A9 ms i).1 != 0 with
    | true=>rfl
    | false =>
     simp only [cond_false]
     cases (Nq (gmL x.1) (A9 ms i)).2.1 != 0 <;> rfl
 ·show (Y4 f (gb (gmU x.1 ms (gmO x.1)) (gk x)) (nBx x.1) (nBx x.1) ms).run=_
  unfold Y4
  rw [decide_eq_false (show ¬ (nBx x.1:Int)<(nBx x.1:Int) by omega)]
  rfl
end St
end V
end Go.Proofs.YtlangijnealfjaaGreat
namespace Go.Proofs.YtlangijnealfjaaGreat
open Go.RowKit
namespace V
namespace St
noncomputable def Bib (f:Nat):Ctx:=Wq Tryz.prog plGm [(129,Tryz.f129)] [((129,1),sm_sw f)] (spG f)
theorem Ayw {f:Nat} (h1:C5 Tryz.prog 192 (sp_ro f)) (h2:C5 Tryz.prog 134 (sp_fl f)) (hl:Aw Tryz.prog 129 B4o (sm_sw f)):CtxOk (Bib f) :=
 Hr Ak puGm (fns_cons is_gslow A0) (Cc (by kernel_rfl) (by kernel_rfl) hl) (Lx is_rolls.plain h1 is_flies.plain h2)
def Aqg (f:Nat) (x:GB):Option (A1 (Acn f)):=iter (Aqe f) (nBx x.1+1) (Q0 f x (nBx x.1) 0 (gmM x.1))
def T_slw (f:Nat) (x:GB):Tree (Ee (FE_u f)):=bif isP 39 .i64 (Aqg f x) then .leaf ⟨false,pnU f (panO 39 .i64 (Aqg f x)).1⟩ else bif isE (.exit 0) (Aqg f x) then .leaf ⟨true,((),(C2 (.exit 0) (Aqg f x)).2)⟩ else .fail
def Y6 (x:GB):Option (Au⊕Int):=bif Ajy x.1 then some (Ax (A80 x.1) 0 (nBx x.1) (gmM x.1)) else none
def Acr (f:Nat) (x:GB) (ms:Au):(FE_u f true).T:=mkU f (gb (gmU x.1 ms (gmO x.1)) (gk x))
abbrev sp_slw (f:Nat):Ao→Nat→List AV→Tree (Out×Ao×Nat):=Ky Lb (FL_g f) (FE_u f) (Y3 (fun g:(FL_g f).T=>Y6 g.2) (fun g=>Acr f g.2) (pnU f) [])
theorem Ayx {f:Nat} {g:(FL_g f).T} {z:Au⊕Int} (h:Y6 g.2=some z):(T_slw f g.2).run=some (A1u (L:=FL_g f) (E:=FE_u f) (fun g=>Acr f g.2) (pnU f) g z):=by
 unfold Y6 at h
 cases ho:Ajy g.2.1 with
 | false=>rw [ho] at h;cases h
 | true =>
  rw [ho] at h
  cases h
  have hy:Aqg f g.2=some (Y5 f g.2 (Ax (A80 g.2.1) 0 (nBx g.2.1) (gmM g.2.1))):=Bdg (Et.1 ho) (Et.1 ho).ms
  unfold T_slw
  rw [hy]
  cases Ax (A80 g.2.1) 0 (nBx g.2.1) (gmM g.2.1) with
  | inl ms=>rfl
  | inr e =>
   have h1:isP 39 .i64 (some (Y5 f g.2 (.inr e)))=true:=Oy
   have h2:panO 39 .i64 (some (Y5 f g.2 (.inr e)))=⟨e,((),())⟩:=Jz
   rw [h1,h2]
   rfl
theorem Aqh:C5 Tryz.prog 129 (sp_slw 137):=U3 (Ayw Gs Gt B7r) 6 P5 _ _ _ _ (fun g=>T_slw 137 g.2) (fun g=>by kernel_rfl) fun _ _ _ h=>Ayx h
end St
end V
end Go.Proofs.YtlangijnealfjaaGreat
namespace Go.Proofs.YtlangijnealfjaaGreat
open Go.RowKit
namespace V
theorem Az {P:Program} {f:Nat} {fn:Func} {loops:List ((Nat×Nat)×(St→Tree (XE×St)))} (h:Al (bodyOf fn)=[]):∀ d ∈ Al (bodyOf fn),∀ g,Co loops f (keyOf d)=some g→Aw P f d g:=by
 intro d hd
 rw [h] at hd
 cases hd
theorem Dd {P:Program} {loops:List ((Nat×Nat)×(St→Tree (XE×St)))}:∀ q ∈ ([]:List (Nat×Func)),∀ d ∈ Al (bodyOf q.2),∀ g,Co loops q.1 (keyOf d)=some g→Aw P q.1 d g:=fun _ h=>nomatch h
theorem A8 {P:Program} {f:Nat} {fn:Func} {rest:List (Nat×Func)} {loops:List ((Nat×Nat)×(St→Tree (XE×St)))} (h:∀ d ∈ Al (bodyOf fn),∀ g,Co loops f (keyOf d)=some g→Aw P f d g)
  (hr:∀ q ∈ rest,∀ d ∈ Al (bodyOf q.2),∀ g,Co loops q.1 (keyOf d)=some g→Aw P q.1 d g):∀ q ∈ (f,fn)::rest,∀ d ∈ Al (bodyOf q.2),∀ g,Co loops q.1 (keyOf d)=some g→Aw P q.1 d g:=by
 intro q hq
 rcases List.mem_cons.1 hq with rfl | hq
 ·exact h
 ·exact hr q hq
def B4p (P:Program) (f:Nat) (loops:List ((Nat×Nat)×(St→Tree (XE×St)))):List Code→Prop
 | []=>True
 | d::l=>(∀ g,Co loops f (keyOf d)=some g→Aw P f d g)∧B4p P f loops l
theorem E6 {P:Program} {f:Nat} {fn:Func} {loops:List ((Nat×Nat)×(St→Tree (XE×St)))} {ds:List Code} (h:Al (bodyOf fn)=ds) (ha:B4p P f loops ds):∀ d ∈ Al (bodyOf fn),∀ g,Co loops f (keyOf d)=some g→Aw P f d g:=by
 rw [h]
 clear h
 induction ds with
 | nil=>intro d hd;cases hd
 | cons a l ih =>
  intro d hd
  rcases List.mem_cons.1 hd with rfl | hd
  ·exact ha.1
  ·exact ih ha.2 d hd
theorem Dk {P:Program} {f:Nat} {d:Code} {loops:List ((Nat×Nat)×(St→Tree (XE×St)))} {k:Nat} {s:St→Tree (XE×St)} (hk:keyOf d=k) (ha:Co loops f k=some s) (h:Aw P f d s):∀ g,Co loops f (keyOf d)=some g→Aw P f d g:=by
 intro g hg
 rw [hk,ha] at hg
 cases hg
 exact h
namespace St
noncomputable def Aqi:Code:=(Al (bodyOf Tryz.f130)).getD 0 .skip
def Ak0 (f:Nat):Lay:={ keys:=[0,12,13,14],ks:=[.p 0 0 0 0,.d (.sl A3),.d cI,.d cI],bs:=bsG f,n:=104,nx:=2000,marks:=[] }
def Bic (f:Nat):Lay:={ keys:=[0],ks:=[.p 0 0 0 0],bs:=bsG f,n:=104,nx:=2000,marks:=[] }
def Bdh:Lay:={ keys:=[],ks:=[],bs:=[],n:=104,nx:=3000,marks:=[] }
def A81 (f:Nat):XE→Lay:=fun e=>match e with | .panic _=>Bdh | _=>Bic f
def Qg (b:TCT A3) (m:TCT B0):TCTs [B0,cI]:=M3 (bm b m)
def Ej (bl:List (TCT A3)) (i:Nat):TCT A3:=As bl i (Aq A3)
def A2t (f:Nat) (x:GB) (bl:List (TCT A3)) (n i:Int) (ms:Au):(Ak0 f).T:=(((),bl,n,i,()),(gb (gmU x.1 ms (gmO x.1)) (gk x)))
def Aqj (f:Nat) (x:GB) (ms:Au):A1 (A81 f):=⟨.exit 0,(((),()),(gb (gmU x.1 ms (gmO x.1)) (gk x)))⟩
def B4q (f:Nat) (e:Int):A1 (A81 f):=⟨.panic (.ifc 39 (.int .i64 e)),((),())⟩
abbrev TM1 (f:Nat):=Tree ((Ak0 f).T⊕A1 (A81 f))
def Aqk (f:Nat) (x:GB) (bl:List (TCT A3)) (n i:Int) (ms:Au):TM1 f:=inO ms.length i (bif (Qg (Ej bl (Int.toNat i)) (A9 ms (Int.toNat i))).2.1 != 0 then .leaf (.inr (B4q f (Qg (Ej bl (Int.toNat i)) (A9 ms (Int.toNat i))).2.1)) else
 inO ms.length i (.leaf (.inl (A2t f x bl n (W64 (i+1)) (Bf ms (Int.toNat i) (Qg (Ej bl (Int.toNat i)) (A9 ms (Int.toNat i))).1)))))
def Acs (f:Nat) (x:GB) (bl:List (TCT A3)) (n i:Int) (ms:Au):TM1 f:=bif decide (i<n) then inN bl.length i (bif A1t ms (gmO x.1) i then bif Cf ms (gmO x.1) (Int.toNat i) then Aqk f x bl n i ms else .leaf (.inl (A2t f x bl n (W64 (i+1)) ms)) else .fail) else .leaf (.inr (Aqj f x ms))
def Aql (f:Nat) (g:(Ak0 f).T):TM1 f:=Acs f g.2 g.1.2.1 g.1.2.2.1 g.1.2.2.2.1 (gmM g.2.1)
def fu_m1 (f:Nat) (g:(Ak0 f).T):Nat:=Int.toNat g.1.2.2.1+1
def sm_m1 (f:Nat):St→Tree (XE×St):=Ar (Ak0 f) (A81 f) (finP 39 .i64 [.exit 0] (Aql f) (fu_m1 f))
theorem Ayy {f:Nat} (e:XE):(Ak0 f).nx≤(A81 f e).nx:=by cases e <;> first | exact Nat.le_refl _ | exact (by decide:(2000:Nat)≤3000)
def stE (bl:List (TCT A3)) (os:List Bool) (i:Nat) (ms:Au):Au⊕Int:=bif !Cf ms os i then .inl ms else bif (Qg (Ej bl i) (A9 ms i)).2.1 != 0 then .inr (Qg (Ej bl i) (A9 ms i)).2.1 else .inl (Bf ms i (Qg (Ej bl i) (A9 ms i)).1)
def U4 (f:Nat) (x:GB):Au⊕Int→A1 (A81 f)
 | .inl ms=>Aqj f x ms
 | .inr e=>B4q f e
theorem Acu {bl:List (TCT A3)} {os:List Bool} {n:Nat} (i:Nat) (s s':Au) (_:i<n) (hi:s.length=n) (h:stE bl os i s=.inl s'):s'.length=n:=by
 unfold stE at h
 cases h1:!Cf s os i with
 | true=>rw [h1] at h;cases h;exact hi
 | false =>
  rw [h1] at h
  cases h3:(Qg (Ej bl i) (A9 s i)).2.1 != 0 with
  | true=>rw [h3] at h;cases h
  | false=>rw [h3] at h;cases h;rw [C0];exact hi
theorem Bdi {f:Nat} {x:GB} {ms:Au} (hx:OkGM x.1) (hm:ms.length=nBx x.1):iter (Aql f) (nBx x.1+1) (A2t f x (gmB x.1) (nBx x.1) 0 ms)=some (U4 f x (Ax (stE (gmB x.1) (gmO x.1)) 0 (nBx x.1) ms)):=by
 have hn:(nBx x.1:Int)≤B7 .i64:=by have:=hx.n;show (nBx x.1:Int)≤9223372036854775807;omega
 refine J6 (nBx x.1) (fun i ms=>A2t f x (gmB x.1) (nBx x.1) i ms) (stE (gmB x.1) (gmO x.1)) (U4 f x) (fun _ ms=>ms.length=nBx x.1) (fun i ms hi hl=>?_) Acu (fun ms hl=>?_) (nBx x.1) 0 ms (by omega) hm
 ·show Tree.run (bif decide ((i:Int)<(nBx x.1:Int)) then inN (nBx x.1) i (bif A1t ms (gmO x.1) i then bif Cf ms (gmO x.1) i then Aqk f x (gmB x.1) (nBx x.1) i ms else .leaf (.inl (A2t f x (gmB x.1) (nBx x.1) (W64 ((i:Int)+1)) ms)) else .fail) else .leaf (.inr (Aqj f x ms)):TM1 f)=_
  rw [decide_eq_true (show (i:Int)<(nBx x.1:Int) by omega),F3 (by omega),A4w hi hl hx.os,Ey hi hn]
  unfold stE Aqk
  rw [Hj (by omega),Hj (by omega),show Int.toNat (i:Int)=i from rfl,Ey hi hn]
  cases Cf ms (gmO x.1) i with
  | false=>rfl
  | true =>
   simp only [Bool.not_true,cond_true,cond_false]
   cases (Qg (Ej (gmB x.1) i) (A9 ms i)).2.1 != 0 <;> rfl
 ·show (Acs f (gb (gmU x.1 ms (gmO x.1)) (gk x)) (gmB x.1) (nBx x.1) (nBx x.1) ms).run=_
  unfold Acs
  rw [decide_eq_false (show ¬ (nBx x.1:Int)<(nBx x.1:Int) by omega)]
  rfl
noncomputable def Aqm:Code:=(Al (bodyOf Tryz.f130)).getD 1 .skip
def Ak1 (f:Nat):Lay:={ keys:=[0,52,53],ks:=[.p 0 0 0 0,.d cI,.d cI],bs:=bsG f,n:=104,nx:=3000,marks:=[] }
def Bid (f:Nat):Lay:={ keys:=[],ks:=[],bs:=bsG f,n:=104,nx:=3000,marks:=[] }
def Acv (f:Nat):XE→Lay:=fun e=>match e with | .panic _=>Bdh | _=>Bid f
abbrev S2:Type:=Au×List Bool×Kns
def kn (t s k b o:Int):TCT cKn:=(t,s,k,b,o,())
def Bdj (m:TCT B0):TCT B0:=(m.1,(0,0,()),m.2.2.1,())
def A2u (f:Nat) (x:GB) (n i:Int) (s:S2):(Ak1 f).T:=(((),n,i,()),(gb (gmU x.1 s.1 s.2.1) s.2.2))
def Aqn (f:Nat) (x:GB) (s:S2):A1 (Acv f):=⟨.exit 2,((),(gb (gmU x.1 s.1 s.2.1) s.2.2))⟩
abbrev TM2 (f:Nat):=Tree ((Ak1 f).T⊕A1 (Acv f))
def Ak2 {β:Type} (ks:Kns) (k:TCT cKn) (t:Kns→Tree β):Tree β:=bif Df ks [k] 40 then t (ks++[k]) else .fail
def Y7 (f:Nat) (x:GB) (n i:Int) (ms:Au) (os:List Bool) (ks:Kns):TM2 f:=bif decide (i<n) then inO os.length i (bif !As os (Int.toNat i) (Aq .b) then inO ms.length i (
 bif !onB (gmL x.1) (A9 ms (Int.toNat i)).1 then inO os.length i (inO ms.length i (Ak2 ks (kn (gmT x.1) (gmS x.1) 2 i 0) fun ks'=>.leaf (.inl (A2u f x n (W64 (i+1)) (Bf ms (Int.toNat i) (Bdj (A9 ms (Int.toNat i))),Bf os (Int.toNat i) true,ks')))))
 else .leaf (.inl (A2u f x n (W64 (i+1)) (ms,os,ks)))) else .leaf (.inl (A2u f x n (W64 (i+1)) (ms,os,ks)))) else .leaf (.inr (Aqn f x (ms,os,ks)))
def Aqo (f:Nat) (g:(Ak1 f).T):TM2 f:=Y7 f g.2 g.1.2.1 g.1.2.2.1 (gmM g.2.1) (gmO g.2.1) (gk g.2)
def fu_m2 (f:Nat) (g:(Ak1 f).T):Nat:=Int.toNat g.1.2.1+1
def sm_m2 (f:Nat):St→Tree (XE×St):=Ar (Ak1 f) (Acv f) (D7 [.exit 2] (Aqo f) (fu_m2 f))
theorem Ayz {f:Nat} (e:XE):(Ak1 f).nx≤(Acv f e).nx:=by cases e <;> exact Nat.le_refl _
noncomputable def Bie (f:Nat) (c:Nat×Func):Ctx:=Wq Tryz.prog plGm [(73,Tryz.f73),(136,Tryz.f136),c] [] (spG f)
theorem Im {f:Nat} {c:Nat×Func} (hc:FnIs Tryz.prog c) (h1:C5 Tryz.prog 192 (sp_ro f)) (h2:C5 Tryz.prog 134 (sp_fl f)):CtxOk (Bie f c):=Hr Ak puGm (fns_cons is_must (fns_cons is_knock (fns_cons hc A0))) Ly (Lx is_rolls.plain h1 is_flies.plain h2)
theorem B7s:Aw Tryz.prog 130 Aqi (sm_m1 137):=Pr (Im is_run1 Gs Gt) 7 _ _ _ Ayy _ _ _ _ (fu_m1 137) (fun g=>by kernel_rfl)
theorem B7t:Aw Tryz.prog 130 Aqm (sm_m2 137):=B8 (Im is_run1 Gs Gt) 7 _ _ _ Ayz _ _ (fu_m2 137) (fun g=>by kernel_rfl)
def lvE (l:TCT Am) (t st:Int) (i:Nat) (s:S2):S2⊕Int:=bif !As s.2.1 i (Aq .b) then bif !onB l (A9 s.1 i).1 then .inl (Bf s.1 i (Bdj (A9 s.1 i)),Bf s.2.1 i true,s.2.2++[kn t st 2 i 0]) else .inl s else .inl s
def Acw (f:Nat) (x:GB):S2⊕Int→A1 (Acv f)
 | .inl s=>Aqn f x s
 | .inr _=>Aqn f x ([],[],[])
structure Inv2 (n k:Nat) (i:Nat) (s:S2):Prop where
 m:s.1.length=n
 o:s.2.1.length=n
 k:s.2.2.length≤k+i
theorem Aqp {l:TCT Am} {t st:Int} {n k:Nat} (i:Nat) (s s':S2) (_:i<n) (hi:Inv2 n k i s) (h:lvE l t st i s=.inl s'):Inv2 n k (i+1) s':=by
 unfold lvE at h
 have hk:=hi.k
 cases h1:!As s.2.1 i (Aq .b) with
 | false=>rw [h1] at h;cases h;exact ⟨hi.m,hi.o,by omega⟩
 | true =>
  rw [h1] at h
  cases h3:!onB l (A9 s.1 i).1 with
  | false=>rw [h3] at h;cases h;exact ⟨hi.m,hi.o,by omega⟩
  | true=>rw [h3] at h;cases h;exact ⟨by rw [C0];exact hi.m,by rw [C0];exact hi.o,by simp;omega⟩
theorem Bdk {f:Nat} {x:GB} {s:S2} {n k:Nat} (hn8:n≤8) (hk:k≤900000) (hs:Inv2 n k 0 s):iter (Aqo f) (n+1) (A2u f x n 0 s)=some (Acw f x (Ax (lvE (gmL x.1) (gmT x.1) (gmS x.1)) 0 n s)):=by
 have hn:(n:Int)≤B7 .i64:=by show (n:Int)≤9223372036854775807;omega
 refine J6 n (fun i s=>A2u f x n i s) (lvE (gmL x.1) (gmT x.1) (gmS x.1)) (Acw f x) (Inv2 n k) (fun i s hi hl=>?_) Aqp (fun s hl=>?_) n 0 s (by omega) hs
 ·show (Y7 f (gb (gmU x.1 s.1 s.2.1) s.2.2) n i s.1 s.2.1 s.2.2).run=_
  unfold Y7 lvE Ak2
  have h1:=hl.m
  have h2:=hl.o
  have h3:=hl.k
  rw [decide_eq_true (show (i:Int)<(n:Int) by omega),Hj (by omega),Hj (by omega),Hj (by omega),Hj (by omega),show Int.toNat (i:Int)=i from rfl,Ey hi hn,Hi (by simp;omega) (by decide)]
  cases As s.2.1 i (Aq .b) with
  | true=>rfl
  | false =>
   show (bif !onB (gmL x.1) (A9 s.1 i).1 then _ else _:TM2 f).run=_
   simp only [Bool.not_false,cond_true]
   cases onB (gmL x.1) (A9 s.1 i).1 <;> rfl
 ·show (Y7 f (gb (gmU x.1 s.1 s.2.1) s.2.2) n n s.1 s.2.1 s.2.2).run=_
  unfold Y7
  rw [decide_eq_false (show ¬ (n:Int)<(n:Int) by omega)]
  rfl
end St
end V
end Go.Proofs.YtlangijnealfjaaGreat
namespace Go.Proofs.YtlangijnealfjaaGreat
open Go.RowKit
namespace V
theorem U5 {S B:Type} {f:Nat→S→S⊕B} (h:∀ i s,∃ s',f i s=.inl s'):∀ (k i:Nat) (s:S),∃ s',Ax f i k s=.inl s'
 | 0,_,s=>⟨s,rfl⟩
 | k+1,i,s=>by
  obtain ⟨s',hs⟩:=h i s
  unfold Ax
  rw [hs]
  exact U5 h k (i+1) s'
namespace St
theorem Agh {l:TCT Am} {t st:Int} (i:Nat) (s:S2):∃ s',lvE l t st i s=.inl s':=by
 unfold lvE
 cases !As s.2.1 i (Aq .b) with
 | false=>exact ⟨_,rfl⟩
 | true=>cases !onB l (A9 s.1 i).1 <;> exact ⟨_,rfl⟩
noncomputable def Bif (f:Nat):Ctx:=Wq Tryz.prog plGm [(130,Tryz.f130)] [((130,1),sm_m1 f),((130,9),sm_m2 f)] (spG f)
theorem Az0 {f:Nat} (h1:C5 Tryz.prog 192 (sp_ro f)) (h2:C5 Tryz.prog 134 (sp_fl f)) (hl:Aw Tryz.prog 130 Aqi (sm_m1 f)) (hm:Aw Tryz.prog 130 Aqm (sm_m2 f)):CtxOk (Bif f) :=
 Hr Ak puGm (fns_cons is_gmove A0) (A8 (E6 (ds:=[Aqi,Aqm]) (by kernel_rfl) ⟨Dk (k:=1) (by kernel_rfl) rfl hl,Dk (k:=9) (by kernel_rfl) rfl hm,trivial⟩) Dd) (Lx is_rolls.plain h1 is_flies.plain h2)
def mvF (bl:List (TCT A3)) (l:TCT Am) (t st:Int) (n:Nat) (s:S2):S2⊕Int:=match Ax (stE bl s.2.1) 0 n s.1 with
 | .inl ms=>Ax (lvE l t st) 0 n (ms,s.2.1,s.2.2)
 | .inr e=>.inr e
def gs (x:GB):S2:=(gmM x.1,gmO x.1,gk x)
def Bdl (f:Nat) (x:GB):Option (A1 (A81 f)):=iter (Aql f) (nBx x.1+1) (A2t f x (gmB x.1) (nBx x.1) 0 (gmM x.1))
def B7u (f:Nat) (x:GB):Option (A1 (Acv f)):=iter (Aqo f) (nBx x.1+1) (A2u f x (nBx x.1) 0 (gs x))
abbrev TU (f:Nat):=Tree (Ee (FE_u f))
def B4r (f:Nat) (y:Option (A1 (Acv f))):TU f:=bif isE (.exit 2) y then .leaf ⟨true,((),(C2 (.exit 2) y).2)⟩ else .fail
def Aqq (f:Nat) (y:Option (A1 (A81 f))):TU f:=bif isP 39 .i64 y then .leaf ⟨false,pnU f (panO 39 .i64 y).1⟩ else bif isE (.exit 0) y then B4r f (B7u f (C2 (.exit 0) y).2) else .fail
def T_mv (f:Nat) (x:GB):TU f:=Aqq f (Bdl f x)
def Pw (x:GB):Bool:=Ajy x.1&&decide ((gk x).length≤900000)
def A82 (x:GB):Option (S2⊕Int):=bif Pw x then some (mvF (gmB x.1) (gmL x.1) (gmT x.1) (gmS x.1) (nBx x.1) (gs x)) else none
def Aqr (f:Nat) (x:GB) (s:S2):(FE_u f true).T:=mkU f (gb (gmU x.1 s.1 s.2.1) s.2.2)
abbrev sp_mv (f:Nat):Ao→Nat→List AV→Tree (Out×Ao×Nat):=Ky Lb (FL_g f) (FE_u f) (Y3 (fun g:(FL_g f).T=>A82 g.2) (fun g=>Aqr f g.2) (pnU f) ([],[],[]))
theorem Y8 {x:GB} (h:Pw x=true):OkGM x.1∧(gk x).length≤900000:=by
 unfold Pw at h
 simp only [Bool.and_eq_true,decide_eq_true_eq] at h
 exact ⟨Et.1 h.1,h.2⟩
theorem B7v {f:Nat} {g:(FL_g f).T} {z:S2⊕Int} (h:A82 g.2=some z):(T_mv f g.2).run=some (A1u (L:=FL_g f) (E:=FE_u f) (fun g=>Aqr f g.2) (pnU f) g z):=by
 unfold A82 at h
 cases ho:Pw g.2 with
 | false=>rw [ho] at h;cases h
 | true =>
  rw [ho] at h
  cases h
  obtain ⟨hg,hk⟩:=Y8 ho
  have hy:Bdl f g.2=some (U4 f g.2 (Ax (stE (gmB g.2.1) (gmO g.2.1)) 0 (nBx g.2.1) (gmM g.2.1))):=Bdi hg hg.ms
  unfold T_mv mvF
  rw [hy]
  show (Aqq f (some (U4 f g.2 (Ax (stE (gmB g.2.1) (gmO g.2.1)) 0 (nBx g.2.1) (gmM g.2.1))))).run=some (A1u (L:=FL_g f) (E:=FE_u f) (fun g=>Aqr f g.2) (pnU f) g (match Ax (stE (gmB g.2.1) (gmO g.2.1)) 0 (nBx g.2.1) (gmM g.2.1) with
   | .inl ms=>Ax (lvE (gmL g.2.1) (gmT g.2.1) (gmS g.2.1)) 0 (nBx g.2.1) (ms,gmO g.2.1,gk g.2)
   | .inr e=>.inr e))
  cases h1:Ax (stE (gmB g.2.1) (gmO g.2.1)) 0 (nBx g.2.1) (gmM g.2.1) with
  | inr e =>
   have h1:isP 39 .i64 (some (U4 f g.2 (.inr e)))=true:=Oy
   have h2:panO 39 .i64 (some (U4 f g.2 (.inr e)))=⟨e,((),())⟩:=Jz
   unfold Aqq
   rw [h1,h2]
   rfl
  | inl ms =>
   have hms:ms.length=nBx g.2.1:=B6 (n:=nBx g.2.1) (Inv:=fun _ (s:Au)=>s.length=nBx g.2.1) Acu (nBx g.2.1) 0 _ _ (by omega) hg.ms h1
   have hz:B7u f (gb (gmU g.2.1 ms (gmO g.2.1)) (gk g.2))=some (Acw f (gb (gmU g.2.1 ms (gmO g.2.1)) (gk g.2)) (Ax (lvE (gmL g.2.1) (gmT g.2.1) (gmS g.2.1)) 0 (nBx g.2.1) (ms,gmO g.2.1,gk g.2))) :=
    Bdk (n:=nBx g.2.1) (x:=gb (gmU g.2.1 ms (gmO g.2.1)) (gk g.2)) (s:=(ms,gmO g.2.1,gk g.2)) (k:=(gk g.2).length) hg.n hk ⟨hms,hg.os,by simp⟩
   show (B4r f (B7u f (gb (gmU g.2.1 ms (gmO g.2.1)) (gk g.2)))).run=some (A1u (L:=FL_g f) (E:=FE_u f) (fun g=>Aqr f g.2) (pnU f) g (Ax (lvE (gmL g.2.1) (gmT g.2.1) (gmS g.2.1)) 0 (nBx g.2.1) (ms,gmO g.2.1,gk g.2)))
   rw [hz]
   obtain ⟨s',hs'⟩:=U5 (Agh (l:=gmL g.2.1) (t:=gmT g.2.1) (st:=gmS g.2.1)) (nBx g.2.1) 0 (ms,gmO g.2.1,gk g.2)
   rw [hs']
   rfl
theorem Az1:C5 Tryz.prog 130 (sp_mv 137):=U3 (Az0 Gs Gt B7s B7t) 6 P5 _ _ _ _ (fun g=>T_mv 137 g.2) (fun g=>by kernel_rfl) fun _ _ _ h=>B7v h
end St
end V
end Go.Proofs.YtlangijnealfjaaGreat
namespace Go.Proofs.YtlangijnealfjaaGreat
open Go.RowKit
namespace V
def U6 (n:Nat) (p:TCT Hk):Prop:=0≤p.1∧p.1<p.2.1∧p.2.1<(n:Int)
theorem Aqs {l:List (TCT A3)} {re dr:Int} {i k n:Nat} {s s':SS} (h:Fe l re dr i k s=some s') (hik:i<k) (hk:k<n) (hs:∀ p ∈ s.2,U6 n p):∀ p ∈ s'.2,U6 n p:=by
 unfold Fe at h
 cases h1:(C4 (bAt l s.1 i) (bAt l s.1 k) re dr).2.2.1==0 with
 | true =>
  rw [h1] at h
  simp only [cond_true,Option.some.injEq] at h
  subst h
  intro p hp
  rcases List.mem_append.1 hp with hp | hp
  ·exact hs p hp
  ·rw [List.mem_singleton] at hp
   subst hp
   exact ⟨Int.natCast_nonneg i,Int.ofNat_lt.2 hik,Int.ofNat_lt.2 hk⟩
 | false =>
  rw [h1,cond_false] at h
  cases h2:(C4 (bAt l s.1 i) (bAt l s.1 k) re dr).2.2.1==4 with
  | true=>rw [h2] at h;simp at h
  | false=>rw [h2] at h;simp only [cond_false,Option.some.injEq] at h;subst h;exact hs
theorem Aqt {l:List (TCT A3)} {re dr:Int} {i n:Nat}:∀ (f k:Nat) (s s':SS),inR l re dr i f k s=some s'→i<k→k+f≤n→(∀ p ∈ s.2,U6 n p)→∀ p ∈ s'.2,U6 n p
 | 0,k,s,s',h,_,_,hs=>by rw [inR,Option.some.injEq] at h;subst h;exact hs
 | f+1,k,s,s',h,hik,hk,hs=>by
  rw [inR] at h
  cases h1:Fe l re dr i k s with
  | none=>rw [h1] at h;simp at h
  | some s1 =>
   rw [h1,Option.bind_some] at h
   exact Aqt f (k+1) s1 s' h (by omega) (by omega) (Aqs h1 hik (by omega) hs)
theorem Agi {l:List (TCT A3)} {re dr:Int}:∀ (f i:Nat) (s s':SS),I5 l re dr f i s=some s'→i+f=l.length→(∀ p ∈ s.2,U6 l.length p)→(∀ p ∈ s'.2,U6 l.length p)∧s'.1.length=s.1.length∧s'.2.length≤s.2.length+f*l.length
 | 0,i,s,s',h,_,hs=>by rw [M1,Option.some.injEq] at h;subst h;exact ⟨hs,rfl,by omega⟩
 | f+1,i,s,s',h,hi,hs=>by
  rw [Jt] at h
  cases h1:inR l re dr i (l.length-(i+1)) (i+1) s with
  | none=>rw [h1] at h;simp at h
  | some s1 =>
   rw [h1,Option.bind_some] at h
   have a:=Ahq _ _ _ _ h1
   have b:=Agi f (i+1) s1 s' h (by omega) (Aqt _ _ _ _ h1 (by omega) (by omega) hs)
   refine ⟨b.1,b.2.1.trans a.1,?_⟩
   have e:(f+1)*l.length=f*l.length+l.length:=Nat.succ_mul f l.length
   omega
theorem Ak3 {l:List (TCT A3)} {s:List (TCT B0)} {re dr:Int} (h:(Bw l s re dr).2.2.1=0) (hl:l.length≤8):(Bw l s re dr).1.length=s.length∧(Bw l s re dr).2.1.length≤64∧∀ p ∈ (Bw l s re dr).2.1,U6 l.length p:=by
 unfold Bw at h ⊢
 cases h1:Mk l s != 0 with
 | true=>rw [h1,cond_true] at h;exact absurd h (bne_iff_ne.1 h1)
 | false =>
  rw [h1,cond_false] at h
  simp only [cond_false]
  cases h2:!Hw re dr with
  | true=>rw [h2] at h;cases h
  | false =>
   rw [h2,cond_false] at h
   simp only [cond_false]
   cases h3:I5 l re dr l.length 0 (s,[]) with
   | none=>rw [h3] at h;cases h
   | some s' =>
    have a:=Agi _ _ _ _ h3 (by omega) (fun p hp=>nomatch hp)
    refine ⟨a.2.1,?_,a.1⟩
    have b:s'.2.length≤0+l.length*l.length:=a.2.2
    have c:l.length*l.length≤8*8:=Nat.mul_le_mul hl hl
    show s'.2.length≤64
    omega
end V
end Go.Proofs.YtlangijnealfjaaGreat
namespace Go.Proofs.YtlangijnealfjaaGreat
open Go.RowKit
namespace V
def unE {S:Type}:S⊕Empty→S
 | .inl s=>s
 | .inr e=>nomatch e
theorem J7 {S:Type} (x:S⊕Empty):x=.inl (unE x):=by
 cases x with
 | inl s=>rfl
 | inr e=>exact nomatch e
namespace St
abbrev kI:SK:=.o 3 cI
abbrev kBa:SK:=.o 68 A3
abbrev kMo:SK:=.o 84 B0
noncomputable def Agj:Code:=(Al (bodyOf Tryz.f74)).getD 0 .skip
noncomputable def Agk:Code:=(Al (bodyOf Tryz.f74)).getD 1 .skip
noncomputable def Agl:Code:=(Al (bodyOf Tryz.f74)).getD 2 .skip
def Ak4 (f:Nat):Lay:={ keys:=[0,2,3,4,18,19,20],ks:=[.p 0 0 0 0,kI,kBa,kMo,.d (.sl A3),.d cI,.d cI],bs:=bsG f,n:=113,nx:=2000,marks:=[] }
def Bih (f:Nat):Lay:={ keys:=[0,2,3,4],ks:=[.p 0 0 0 0,kI,kBa,kMo],bs:=bsG f,n:=113,nx:=2000,marks:=[] }
def Acx (f:Nat):XE→Lay:=fun _=>Bih f
abbrev GA:Type:=List Int×List (TCT A3)×Au
def Ry (f:Nat) (x:GB) (bl:List (TCT A3)) (n i:Int) (s:GA):(Ak4 f).T:=(((),s.1,s.2.1,s.2.2,bl,n,i,()),x)
def A83 (f:Nat) (x:GB) (s:GA):A1 (Acx f):=⟨.exit 0,(((),s.1,s.2.1,s.2.2,()),x)⟩
abbrev TS1 (f:Nat):=Tree ((Ak4 f).T⊕A1 (Acx f))
def ap8 {β:Type} (w:List Int) (i:Int) (k:Tree β):Tree β:=bif Df w [i] 8 then k else .fail
def Az2 {β:Type} (w:List (TCT A3)) (i:TCT A3) (k:Tree β):Tree β:=bif Df w [i] 16 then k else .fail
def Az3 {β:Type} (w:Au) (i:TCT B0) (k:Tree β):Tree β:=bif Df w [i] 48 then k else .fail
theorem B7w {β:Type} {w:List Int} {i:Int} {k:Tree β} (h:w.length≤1000):ap8 w i k=k:=by unfold ap8;rw [Hi (by simp;omega) (by decide)];rfl
theorem Az4 {β:Type} {w:List (TCT A3)} {i:TCT A3} {k:Tree β} (h:w.length≤1000):Az2 w i k=k:=by unfold Az2;rw [Hi (by simp;omega) (by decide)];rfl
theorem Az5 {β:Type} {w:Au} {i:TCT B0} {k:Tree β} (h:w.length≤1000):Az3 w i k=k:=by unfold Az3;rw [Hi (by simp;omega) (by decide)];rfl
def ga1 (i:Int) (b:TCT A3) (m:TCT B0) (s:GA):GA:=(s.1++[i],s.2.1++[b],s.2.2++[m])
def Acy (f:Nat) (x:GB) (bl:List (TCT A3)) (n i:Int) (s:GA):TS1 f:=bif decide (i<n) then inN bl.length i (inO (gmO x.1).length i (
 bif !As (gmO x.1) (Int.toNat i) (Aq .b) then bif !Fi (gmW x.1) (gmF x.1) i then inO (gmM x.1).length i (ap8 s.1 i (Az2 s.2.1 (Ej bl (Int.toNat i)) (Az3 s.2.2 (A9 (gmM x.1) (Int.toNat i))
  (.leaf (.inl (Ry f x bl n (W64 (i+1)) (ga1 i (Ej bl (Int.toNat i)) (A9 (gmM x.1) (Int.toNat i)) s)))))))
 else .leaf (.inl (Ry f x bl n (W64 (i+1)) s)) else .leaf (.inl (Ry f x bl n (W64 (i+1)) s)))) else .leaf (.inr (A83 f x s))
def Aqu (f:Nat) (g:(Ak4 f).T):TS1 f:=Acy f g.2 g.1.2.2.2.2.1 g.1.2.2.2.2.2.1 g.1.2.2.2.2.2.2.1 (g.1.2.1,g.1.2.2.1,g.1.2.2.2.1)
def fu_s1 (f:Nat) (g:(Ak4 f).T):Nat:=Int.toNat g.1.2.2.2.2.2.1+1
def sm_s1 (f:Nat):St→Tree (XE×St):=Ar (Ak4 f) (Acx f) (D7 [.exit 0] (Aqu f) (fu_s1 f))
theorem Agm {f:Nat} (e:XE):(Ak4 f).nx≤(Acx f e).nx:=Nat.le_refl _
def gaE (bl:List (TCT A3)) (ms:Au) (os:List Bool) (w fl:Int) (i:Nat) (s:GA):GA⊕Empty:=.inl (bif !As os i (Aq .b)&&!Fi w fl i then ga1 i (Ej bl i) (A9 ms i) s else s)
def gaV (bl:List (TCT A3)) (w fl:Int) (n:Nat) (ms:Au) (os:List Bool):GA:=unE (Ax (gaE bl ms os w fl) 0 n ([],[],[]))
structure InvG (n i:Nat) (s:GA):Prop where
 b:s.2.1.length=s.1.length
 m:s.2.2.length=s.1.length
 k:s.1.length≤i
 r:∀ w ∈ s.1,0≤w∧w<(n:Int)
theorem Acz {bl:List (TCT A3)} {ms:Au} {os:List Bool} {w fl:Int} {n:Nat} (i:Nat) (s s':GA) (hi:i<n) (h:InvG n i s) (h2:gaE bl ms os w fl i s=.inl s'):InvG n (i+1) s':=by
 unfold gaE at h2
 have hb:=h.b
 have hm:=h.m
 have hk:=h.k
 cases hc:!As os i (Aq .b)&&!Fi w fl i with
 | false =>
  rw [hc] at h2
  simp only [cond_false,Sum.inl.injEq] at h2
  subst h2
  exact ⟨hb,hm,by omega,h.r⟩
 | true =>
  rw [hc] at h2
  simp only [cond_true,Sum.inl.injEq] at h2
  subst h2
  refine ⟨by simp [ga1,hb],by simp [ga1,hm],by simp [ga1];omega,fun v hv=>?_⟩
  rcases List.mem_append.1 hv with hv | hv
  ·exact h.r v hv
  ·rw [List.mem_singleton] at hv;subst hv;omega
theorem Agn {bl:List (TCT A3)} {w fl:Int} {n:Nat} {ms:Au} {os:List Bool}:InvG n n (gaV bl w fl n ms os) :=
 B6 (n:=n) (Inv:=InvG n) Acz n 0 _ _ (by omega) ⟨rfl,rfl,Nat.le_refl _,fun _ h=>absurd h List.not_mem_nil⟩ (J7 (Ax (gaE bl ms os w fl) 0 n ([],[],[])))
def B7x (f:Nat) (x:GB) (r:GA⊕Empty):A1 (Acx f):=A83 f x (unE r)
theorem Bdm {f:Nat} {x:GB} (hx:OkGM x.1):iter (Aqu f) (nBx x.1+1) (Ry f x (gmB x.1) (nBx x.1) 0 ([],[],[]))=some (A83 f x (gaV (gmB x.1) (gmW x.1) (gmF x.1) (nBx x.1) (gmM x.1) (gmO x.1))):=by
 have hn8:=hx.n
 have hos:=hx.os
 have hms:=hx.ms
 have hn:(nBx x.1:Int)≤B7 .i64:=by show (nBx x.1:Int)≤9223372036854775807;omega
 refine J6 (nBx x.1) (fun i s=>Ry f x (gmB x.1) (nBx x.1) i s) (gaE (gmB x.1) (gmM x.1) (gmO x.1) (gmW x.1) (gmF x.1)) (B7x f x) (InvG (nBx x.1)) (fun i s hi hl=>?_) Acz (fun s hl=>?_) (nBx x.1) 0 ([],[],[]) (by omega) ⟨rfl,rfl,Nat.le_refl _,fun _ h=>absurd h List.not_mem_nil⟩
 ·show Tree.run (bif decide ((i:Int)<(nBx x.1:Int)) then inN (nBx x.1) i (inO (gmO x.1).length i (
   bif !As (gmO x.1) i (Aq .b) then bif !Fi (gmW x.1) (gmF x.1) i then inO (gmM x.1).length i (ap8 s.1 i (Az2 s.2.1 (Ej (gmB x.1) i) (Az3 s.2.2 (A9 (gmM x.1) i)
    (.leaf (.inl (Ry f x (gmB x.1) (nBx x.1) (W64 (i+1)) (ga1 i (Ej (gmB x.1) i) (A9 (gmM x.1) i) s)))))))
   else .leaf (.inl (Ry f x (gmB x.1) (nBx x.1) (W64 (i+1)) s)) else .leaf (.inl (Ry f x (gmB x.1) (nBx x.1) (W64 (i+1)) s)))) else .leaf (.inr (A83 f x s)):TS1 f)=_
  have h1:=hl.b
  have h2:=hl.m
  have h3:=hl.k
  rw [decide_eq_true (show (i:Int)<(nBx x.1:Int) by omega),F3 (by omega),Hj (by omega),Hj (by omega),B7w (by omega),Az4 (by omega),Az5 (by omega),Ey hi hn]
  unfold gaE
  cases As (gmO x.1) i (Aq .b) with
  | true=>rfl
  | false=>cases Fi (gmW x.1) (gmF x.1) i <;> rfl
 ·show (Acy f x (gmB x.1) (nBx x.1) (nBx x.1) s).run=_
  unfold Acy
  rw [decide_eq_false (show ¬ (nBx x.1:Int)<(nBx x.1:Int) by omega)]
  rfl
def Ak5 (f:Nat):Lay:={ keys:=[0,2,4,7,75,76,77],ks:=[.p 0 0 0 0,.d (.sl cI),.d (.sl B0),.d (.sl Hk),.d (.sl cI),.d cI,.d cI],bs:=bsG f,n:=113,nx:=3000,marks:=[] }
def Bii (f:Nat):Lay:={ keys:=[0,2,7],ks:=[.p 0 0 0 0,.d (.sl cI),.d (.sl Hk)],bs:=bsG f,n:=113,nx:=3000,marks:=[] }
def Ad0 (f:Nat):XE→Lay:=fun _=>Bii f
abbrev Prs:Type:=List (TCT Hk)
def Ago (f:Nat) (x:GB) (W:List Int) (M:Au) (P:Prs) (W2:List Int) (n i:Int) (ms:Au):(Ak5 f).T:=(((),W,M,P,W2,n,i,()),gb (gmU x.1 ms (gmO x.1)) (gk x))
def Aqv (f:Nat) (x:GB) (W:List Int) (P:Prs) (ms:Au):A1 (Ad0 f):=⟨.exit 2,(((),W,P,()),gb (gmU x.1 ms (gmO x.1)) (gk x))⟩
abbrev TS2 (f:Nat):=Tree ((Ak5 f).T⊕A1 (Ad0 f))
def Y9 (f:Nat) (x:GB) (W:List Int) (M:Au) (P:Prs) (W2:List Int) (n i:Int) (ms:Au):TS2 f:=bif decide (i<n) then inN W2.length i (inN M.length i (inO ms.length (As W2 (Int.toNat i) (Aq cI)) (
 .leaf (.inl (Ago f x W M P W2 n (W64 (i+1)) (Bf ms (Int.toNat (As W2 (Int.toNat i) (Aq cI))) (A9 M (Int.toNat i)))))))) else .leaf (.inr (Aqv f x W P ms))
def Aqw (f:Nat) (g:(Ak5 f).T):TS2 f:=Y9 f g.2 g.1.2.1 g.1.2.2.1 g.1.2.2.2.1 g.1.2.2.2.2.1 g.1.2.2.2.2.2.1 g.1.2.2.2.2.2.2.1 (gmM g.2.1)
def fu_s2 (f:Nat) (g:(Ak5 f).T):Nat:=Int.toNat g.1.2.2.2.2.2.1+1
def sm_s2 (f:Nat):St→Tree (XE×St):=Ar (Ak5 f) (Ad0 f) (D7 [.exit 2] (Aqw f) (fu_s2 f))
theorem Agp {f:Nat} (e:XE):(Ak5 f).nx≤(Ad0 f e).nx:=Nat.le_refl _
def scE (W:List Int) (M:Au) (i:Nat) (ms:Au):Au⊕Empty:=.inl (Bf ms (Int.toNat (As W i (Aq cI))) (A9 M i))
def scV (W:List Int) (M ms:Au):Au:=unE (Ax (scE W M) 0 W.length ms)
theorem Aqx {W:List Int} {M:Au} {n k:Nat} (i:Nat) (s s':Au) (_:i<n) (h:s.length=k) (h2:scE W M i s=.inl s'):s'.length=k:=by
 cases h2
 rw [C0];exact h
theorem Agq {W:List Int} {M ms:Au}:(scV W M ms).length=ms.length :=
 B6 (n:=W.length) (Inv:=fun _ (s:Au)=>s.length=ms.length) Aqx W.length 0 ms _ (by omega) rfl (J7 (Ax (scE W M) 0 W.length ms))
def B7y (f:Nat) (x:GB) (W:List Int) (P:Prs) (r:Au⊕Empty):A1 (Ad0 f):=Aqv f x W P (unE r)
theorem Bdn {f:Nat} {x:GB} {W:List Int} {M:Au} {P:Prs} {ms:Au} {n:Nat} (hW:∀ w ∈ W,0≤w∧w<(n:Int)) (hM:M.length=W.length) (hms:ms.length=n) (hl:W.length≤1000) :
  iter (Aqw f) (W.length+1) (Ago f x W M P W W.length 0 ms)=some (Aqv f x W P (scV W M ms)):=by
 have hn:(W.length:Int)≤B7 .i64:=by show (W.length:Int)≤9223372036854775807;omega
 refine J6 W.length (fun i s=>Ago f x W M P W W.length i s) (scE W M) (B7y f x W P) (fun _ s=>s.length=n) (fun i s hi hs=>?_) Aqx (fun s hs=>?_) W.length 0 ms (by omega) hms
 ·show (Y9 f (gb (gmU x.1 s (gmO x.1)) (gk x)) W M P W W.length i s).run=_
  have hw:=hW (As W i (Aq cI)) (by rw [De hi];exact List.getElem_mem hi)
  unfold Y9
  rw [decide_eq_true (show (i:Int)<(W.length:Int) by omega),F3 (by omega),F3 (by omega),show Int.toNat (i:Int)=i from rfl,Hj (by omega),Ey hi hn]
  rfl
 ·show (Y9 f (gb (gmU x.1 s (gmO x.1)) (gk x)) W M P W W.length W.length s).run=_
  unfold Y9
  rw [decide_eq_false (show ¬ (W.length:Int)<(W.length:Int) by omega)]
  rfl
def Ak6 (f:Nat):Lay:={ keys:=[0,2,94,95,96],ks:=[.p 0 0 0 0,.d (.sl cI),.d (.sl Hk),.d cI,.d cI],bs:=bsG f,n:=113,nx:=4000,marks:=[] }
def Bij (f:Nat):Lay:={ keys:=[],ks:=[],bs:=bsG f,n:=113,nx:=4000,marks:=[] }
def Ad1 (f:Nat):XE→Lay:=fun _=>Bij f
def Agr (f:Nat) (x:GB) (W:List Int) (P:Prs) (n i:Int) (ks:Kns):(Ak6 f).T:=(((),W,P,n,i,()),gb x.1 ks)
def Aqy (f:Nat) (x:GB) (ks:Kns):A1 (Ad1 f):=⟨.exit 4,((),gb x.1 ks)⟩
abbrev TS3 (f:Nat):=Tree ((Ak6 f).T⊕A1 (Ad1 f))
def Lz (P:Prs) (i:Nat):TCT Hk:=As P i (Aq Hk)
def knP (t st:Int) (W:List Int) (p:TCT Hk):TCT cKn:=kn t st 0 (As W (Int.toNat p.1) (Aq cI)) (As W (Int.toNat p.2.1) (Aq cI))
def Ya (f:Nat) (x:GB) (W:List Int) (P:Prs) (n i:Int) (ks:Kns):TS3 f:=bif decide (i<n) then inN P.length i (inN W.length (Lz P (Int.toNat i)).1 (inN W.length (Lz P (Int.toNat i)).2.1 (
 Ak2 ks (knP (gmT x.1) (gmS x.1) W (Lz P (Int.toNat i))) fun ks'=>.leaf (.inl (Agr f x W P n (W64 (i+1)) ks'))))) else .leaf (.inr (Aqy f x ks))
def Aqz (f:Nat) (g:(Ak6 f).T):TS3 f:=Ya f g.2 g.1.2.1 g.1.2.2.1 g.1.2.2.2.1 g.1.2.2.2.2.1 (gk g.2)
def fu_s3 (f:Nat) (g:(Ak6 f).T):Nat:=Int.toNat g.1.2.2.2.1+1
def sm_s3 (f:Nat):St→Tree (XE×St):=Ar (Ak6 f) (Ad1 f) (D7 [.exit 4] (Aqz f) (fu_s3 f))
theorem Ags {f:Nat} (e:XE):(Ak6 f).nx≤(Ad1 f e).nx:=Nat.le_refl _
def kpE (W:List Int) (P:Prs) (t st:Int) (i:Nat) (ks:Kns):Kns⊕Empty:=.inl (ks++[knP t st W (Lz P i)])
def kpV (W:List Int) (P:Prs) (t st:Int) (ks:Kns):Kns:=unE (Ax (kpE W P t st) 0 P.length ks)
theorem Ar0 {W:List Int} {P:Prs} {t st:Int} {n k:Nat} (i:Nat) (s s':Kns) (_:i<n) (h:s.length=k+i) (h2:kpE W P t st i s=.inl s'):s'.length=k+(i+1):=by
 cases h2
 simp only [List.length_append,List.length_singleton]
 omega
theorem Agt {W:List Int} {P:Prs} {t st:Int} {ks:Kns}:(kpV W P t st ks).length=ks.length+P.length :=
 B6 (n:=P.length) (Inv:=fun i (s:Kns)=>s.length=ks.length+i) Ar0 P.length 0 ks _ (by omega) rfl (J7 (Ax (kpE W P t st) 0 P.length ks))
def B7z (f:Nat) (x:GB) (r:Kns⊕Empty):A1 (Ad1 f):=Aqy f x (unE r)
theorem Bdo {f:Nat} {x:GB} {W:List Int} {P:Prs} {ks:Kns} (hP:∀ p ∈ P,U6 W.length p) (hk:ks.length≤900000) (hl:P.length≤1000) :
  iter (Aqz f) (P.length+1) (Agr f x W P P.length 0 ks)=some (Aqy f x (kpV W P (gmT x.1) (gmS x.1) ks)):=by
 have hn:(P.length:Int)≤B7 .i64:=by show (P.length:Int)≤9223372036854775807;omega
 refine J6 P.length (fun i s=>Agr f x W P P.length i s) (kpE W P (gmT x.1) (gmS x.1)) (B7z f x) (fun i s=>s.length=ks.length+i) (fun i s hi hs=>?_) Ar0 (fun s hs=>?_) P.length 0 ks (by omega) rfl
 ·show (Ya f (gb x.1 s) W P P.length i s).run=_
  have hp:=hP (Lz P i) (by unfold Lz;rw [De hi];exact List.getElem_mem hi)
  unfold Ya Ak2
  rw [decide_eq_true (show (i:Int)<(P.length:Int) by omega),F3 (by omega),show Int.toNat (i:Int)=i from rfl,F3 ⟨hp.1,Int.lt_trans hp.2.1 hp.2.2⟩,F3 ⟨Int.le_trans hp.1 (Int.le_of_lt hp.2.1),hp.2.2⟩,Hi (by simp;omega) (by decide),Ey hi hn]
  rfl
 ·show (Ya f (gb x.1 s) W P P.length P.length s).run=_
  unfold Ya
  rw [decide_eq_false (show ¬ (P.length:Int)<(P.length:Int) by omega)]
  rfl
theorem B80:Aw Tryz.prog 74 Agj (sm_s1 71):=B8 (Im is_Strike1 Wz X0) 7 _ _ _ Agm _ _ (fu_s1 71) (fun g=>by kernel_rfl)
theorem B81:Aw Tryz.prog 74 Agk (sm_s2 71):=B8 (Im is_Strike1 Wz X0) 7 _ _ _ Agp _ _ (fu_s2 71) (fun g=>by kernel_rfl)
theorem B82:Aw Tryz.prog 74 Agl (sm_s3 71):=B8 (Im is_Strike1 Wz X0) 7 _ _ _ Ags _ _ (fu_s3 71) (fun g=>by kernel_rfl)
theorem B83:Aw Tryz.prog 74 Agj (sm_s1 137):=B8 (Im is_run1 Gs Gt) 7 _ _ _ Agm _ _ (fu_s1 137) (fun g=>by kernel_rfl)
theorem B84:Aw Tryz.prog 74 Agk (sm_s2 137):=B8 (Im is_run1 Gs Gt) 7 _ _ _ Agp _ _ (fu_s2 137) (fun g=>by kernel_rfl)
theorem B85:Aw Tryz.prog 74 Agl (sm_s3 137):=B8 (Im is_run1 Gs Gt) 7 _ _ _ Ags _ _ (fu_s3 137) (fun g=>by kernel_rfl)
end St
end V
end Go.Proofs.YtlangijnealfjaaGreat
namespace Go.Proofs.YtlangijnealfjaaGreat
open Go.RowKit
namespace V
namespace St
def gmC (m:GM):TCT Cj:=(m.2.2.2.2.2.2.2.2.2.2.2.2.1,m.2.2.2.2.2.2.2.2.2.2.2.2.2.1,())
noncomputable def A4x (f:Nat):Ctx:=Wq Tryz.prog plGm [(74,Tryz.f74),(73,Tryz.f73)] [((74,4),sm_s1 f),((74,12),sm_s2 f),((74,17),sm_s3 f)] (spG f)
theorem Agu {f:Nat} (h1:C5 Tryz.prog 192 (sp_ro f)) (h2:C5 Tryz.prog 134 (sp_fl f)) (l1:Aw Tryz.prog 74 Agj (sm_s1 f)) (l2:Aw Tryz.prog 74 Agk (sm_s2 f)) (l3:Aw Tryz.prog 74 Agl (sm_s3 f)):CtxOk (A4x f) :=
 Hr Ak puGm (fns_cons is_gsettle (fns_cons is_must A0)) (A8 (E6 (ds:=[Agj,Agk,Agl]) (by kernel_rfl) ⟨Dk (k:=4) (by kernel_rfl) rfl l1,Dk (k:=12) (by kernel_rfl) rfl l2,Dk (k:=17) (by kernel_rfl) rfl l3,trivial⟩) (A8 (Az (by kernel_rfl)) Dd)) (Lx is_rolls.plain h1 is_flies.plain h2)
def seG (bl:List (TCT A3)) (w fl:Int) (n:Nat) (s:S2):GA:=gaV bl w fl n s.1 s.2.1
def seS (bl:List (TCT A3)) (bc:TCT Cj) (w fl:Int) (n:Nat) (s:S2):B1m:=Bw (seG bl w fl n s).2.1 (seG bl w fl n s).2.2 bc.1 bc.2.1
def seF (bl:List (TCT A3)) (bc:TCT Cj) (t st w fl:Int) (n:Nat) (s:S2):(Au×Kns)⊕Int :=
 bif (seS bl bc w fl n s).2.2.1 != 0 then .inr (seS bl bc w fl n s).2.2.1 else .inl (scV (seG bl w fl n s).1 (seS bl bc w fl n s).1 s.1,kpV (seG bl w fl n s).1 (seS bl bc w fl n s).2.1 t st s.2.2)
def B4s (f:Nat) (y:Option (A1 (Ad1 f))):TU f:=bif isE (.exit 4) y then .leaf ⟨true,((),(C2 (.exit 4) y).2)⟩ else .fail
def B86 (f:Nat) (x:GB) (W:List Int) (P:Prs):Option (A1 (Ad1 f)):=iter (Aqz f) (P.length+1) (Agr f x W P P.length 0 (gk x))
def Bdp (f:Nat) (y:Option (A1 (Ad0 f))):TU f:=bif isE (.exit 2) y then B4s f (B86 f (C2 (.exit 2) y).2 (C2 (.exit 2) y).1.2.1 (C2 (.exit 2) y).1.2.2.1) else .fail
def Bdq (f:Nat) (x:GB) (W:List Int) (M:Au) (P:Prs):Option (A1 (Ad0 f)):=iter (Aqw f) (W.length+1) (Ago f x W M P W W.length 0 (gmM x.1))
def Ad2 (f:Nat) (x:GB) (W:List Int) (r:B1m):TU f:=bif r.2.2.1 != 0 then .leaf ⟨false,pnU f r.2.2.1⟩ else Bdp f (Bdq f x W r.1 r.2.1)
def Bdr (f:Nat) (y:Option (A1 (Acx f))):TU f:=bif isE (.exit 0) y then Ad2 f (C2 (.exit 0) y).2 (C2 (.exit 0) y).1.2.1 (Bw (C2 (.exit 0) y).1.2.2.1 (C2 (.exit 0) y).1.2.2.2.1 (gmC (C2 (.exit 0) y).2.1).1 (gmC (C2 (.exit 0) y).2.1).2.1) else .fail
def Bds (f:Nat) (x:GB):Option (A1 (Acx f)):=iter (Aqu f) (nBx x.1+1) (Ry f x (gmB x.1) (nBx x.1) 0 ([],[],[]))
def T_se (f:Nat) (x:GB):TU f:=Bdr f (Bds f x)
def Qh (x:GB):Option ((Au×Kns)⊕Int):=bif Pw x then some (seF (gmB x.1) (gmC x.1) (gmT x.1) (gmS x.1) (gmW x.1) (gmF x.1) (nBx x.1) (gs x)) else none
def A84 (f:Nat) (x:GB) (s:Au×Kns):(FE_u f true).T:=mkU f (gb (gmU x.1 s.1 (gmO x.1)) s.2)
abbrev sp_se (f:Nat):Ao→Nat→List AV→Tree (Out×Ao×Nat):=Ky Lb (FL_g f) (FE_u f) (Y3 (fun g:(FL_g f).T=>Qh g.2) (fun g=>A84 f g.2) (pnU f) ([],[]))
theorem U7 {bl:List (TCT A3)} {bc:TCT Cj} {w fl:Int} {n:Nat} {s:S2} (hn:n≤8) (h:(seS bl bc w fl n s).2.2.1=0):(seS bl bc w fl n s).1.length=(seG bl w fl n s).1.length∧(seS bl bc w fl n s).2.1.length≤64∧∀ p ∈ (seS bl bc w fl n s).2.1,U6 (seG bl w fl n s).1.length p:=by
 have hg:InvG n n (seG bl w fl n s):=Agn
 have a:=Ak3 (l:=(seG bl w fl n s).2.1) (s:=(seG bl w fl n s).2.2) (re:=bc.1) (dr:=bc.2.1) h (by rw [hg.b];have:=hg.k;omega)
 rw [hg.b] at a
 exact ⟨a.1.trans hg.m,a.2.1,a.2.2⟩
theorem Ar1 {f:Nat} {g:(FL_g f).T} {z:(Au×Kns)⊕Int} (h:Qh g.2=some z):(T_se f g.2).run=some (A1u (L:=FL_g f) (E:=FE_u f) (fun g=>A84 f g.2) (pnU f) g z):=by
 unfold Qh at h
 cases ho:Pw g.2 with
 | false=>rw [ho] at h;cases h
 | true =>
  rw [ho] at h
  cases h
  obtain ⟨hg,hk⟩:=Y8 ho
  unfold T_se
  rw [show Bds f g.2=some (A83 f g.2 (seG (gmB g.2.1) (gmW g.2.1) (gmF g.2.1) (nBx g.2.1) (gs g.2))) from Bdm hg]
  show (Ad2 f g.2 (seG (gmB g.2.1) (gmW g.2.1) (gmF g.2.1) (nBx g.2.1) (gs g.2)).1 (seS (gmB g.2.1) (gmC g.2.1) (gmW g.2.1) (gmF g.2.1) (nBx g.2.1) (gs g.2))).run=_
  unfold seF Ad2
  have hn8:=hg.n
  cases he:(seS (gmB g.2.1) (gmC g.2.1) (gmW g.2.1) (gmF g.2.1) (nBx g.2.1) (gs g.2)).2.2.1 != 0 with
  | true=>rfl
  | false =>
   have hs:=U7 hn8 (bne_eq_false_iff_eq.1 he)
   have hi:InvG (nBx g.2.1) (nBx g.2.1) (seG (gmB g.2.1) (gmW g.2.1) (gmF g.2.1) (nBx g.2.1) (gs g.2)):=Agn
   have hik:=hi.k
   simp only [cond_false]
   rw [show Bdq f g.2 (seG (gmB g.2.1) (gmW g.2.1) (gmF g.2.1) (nBx g.2.1) (gs g.2)).1 (seS (gmB g.2.1) (gmC g.2.1) (gmW g.2.1) (gmF g.2.1) (nBx g.2.1) (gs g.2)).1 (seS (gmB g.2.1) (gmC g.2.1) (gmW g.2.1) (gmF g.2.1) (nBx g.2.1) (gs g.2)).2.1=_ from Bdn hi.r hs.1 hg.ms (by omega)]
   show (B4s f (B86 f (gb (gmU g.2.1 (scV (seG (gmB g.2.1) (gmW g.2.1) (gmF g.2.1) (nBx g.2.1) (gs g.2)).1 (seS (gmB g.2.1) (gmC g.2.1) (gmW g.2.1) (gmF g.2.1) (nBx g.2.1) (gs g.2)).1 (gmM g.2.1)) (gmO g.2.1)) (gk g.2)) (seG (gmB g.2.1) (gmW g.2.1) (gmF g.2.1) (nBx g.2.1) (gs g.2)).1 (seS (gmB g.2.1) (gmC g.2.1) (gmW g.2.1) (gmF g.2.1) (nBx g.2.1) (gs g.2)).2.1)).run=_
   have hs64:=hs.2.1
   rw [show B86 f (gb (gmU g.2.1 (scV (seG (gmB g.2.1) (gmW g.2.1) (gmF g.2.1) (nBx g.2.1) (gs g.2)).1 (seS (gmB g.2.1) (gmC g.2.1) (gmW g.2.1) (gmF g.2.1) (nBx g.2.1) (gs g.2)).1 (gmM g.2.1)) (gmO g.2.1)) (gk g.2)) (seG (gmB g.2.1) (gmW g.2.1) (gmF g.2.1) (nBx g.2.1) (gs g.2)).1 (seS (gmB g.2.1) (gmC g.2.1) (gmW g.2.1) (gmF g.2.1) (nBx g.2.1) (gs g.2)).2.1=_ from Bdo (x:=gb (gmU g.2.1 (scV (seG (gmB g.2.1) (gmW g.2.1) (gmF g.2.1) (nBx g.2.1) (gs g.2)).1 (seS (gmB g.2.1) (gmC g.2.1) (gmW g.2.1) (gmF g.2.1) (nBx g.2.1) (gs g.2)).1 (gmM g.2.1)) (gmO g.2.1)) (gk g.2)) hs.2.2 hk (by omega)]
   rfl
theorem Az6:C5 Tryz.prog 74 (sp_se 71):=U3 (Agu Wz X0 B80 B81 B82) 6 P5 _ _ _ _ (fun g=>T_se 71 g.2) (fun g=>by kernel_rfl) fun _ _ _ h=>Ar1 h
theorem Az7:C5 Tryz.prog 74 (sp_se 137):=U3 (Agu Gs Gt B83 B84 B85) 6 P5 _ _ _ _ (fun g=>T_se 137 g.2) (fun g=>by kernel_rfl) fun _ _ _ h=>Ar1 h
end St
end V
end Go.Proofs.YtlangijnealfjaaGreat
namespace Go.Proofs.YtlangijnealfjaaGreat
open Go.RowKit
namespace V
namespace St
noncomputable def A85:Code:=(Al (bodyOf Tryz.f131)).getD 0 .skip
noncomputable def A2v:Code:=(Al (bodyOf Tryz.f131)).getD 1 .skip
abbrev kBb:List SK:=[.d cI,.d cI]
def Ad3 (f:Nat):Lay:={ keys:=[0,2,3,13,14,15,24,25,26],ks:=[.p 0 0 0 0,.d cI,.p 2002 0 0 0,.d (.sl A3),.d cI,.d cI,.d (.sl A4),.d cI,.d cI],bs:=[(0,171,kGm f),(1,79,[.o 101 cKn]),(2002,68,kBb)],n:=81,nx:=3000,marks:=[] }
def Bdt (f:Nat):Lay:={ keys:=[0,13,14,15],ks:=[.p 0 0 0 0,.d (.sl A3),.d cI,.d cI],bs:=bsG f,n:=81,nx:=3000,marks:=[] }
def Bdu:Lay:={ keys:=[],ks:=[],bs:=[],n:=81,nx:=4000,marks:=[] }
def A86 (f:Nat):XE→Lay:=fun e=>match e with | .panic _=>Bdu | _=>Bdt f
def Ad4 (f:Nat):Lay:={ keys:=[0,13,14,15],ks:=[.p 0 0 0 0,.d (.sl A3),.d cI,.d cI],bs:=bsG f,n:=81,nx:=2000,marks:=[] }
def Bik (f:Nat):Lay:={ keys:=[],ks:=[],bs:=bsG f,n:=81,nx:=2000,marks:=[] }
def Ad5 (f:Nat):XE→Lay:=fun e=>match e with | .panic _=>Bdu | _=>Bik f
theorem Az8 {f:Nat} (e:XE):(Ad3 f).nx≤(A86 f e).nx:=by cases e <;> first | exact Nat.le_refl _ | exact (by decide:(3000:Nat)≤4000)
theorem Az9 {f:Nat} (e:XE):(Ad4 f).nx≤(Ad5 f e).nx:=by cases e <;> first | exact Nat.le_refl _ | exact (by decide:(2000:Nat)≤4000)
abbrev Dss:Type:=List (TCT A4)
abbrev MK:Type:=Au×Kns
def Fc (ps:Dss) (i:Nat):TCT A4:=As ps i (Aq A4)
def bmV (b:TCT A3) (m:TCT B0) (d:TCT A4) (c:TCT Cj):TCTs [B0,cI]:=A9l (bm b m) d.1.1 d.1.2.1 d.2.1 c.1 c.2.1
structure Cb where
 i:Int
 b:TCT A3
 bl:List (TCT A3)
 n1:Int
 i1:Int
 ps:Dss
def gmb (m:GM) (k:Kns) (b:TCT A3):GM×SKTs [.o 0 cKn]×SKTs kBb×Unit:=(m,(k,()),b,())
def A87 (f:Nat) (x:GB) (c:Cb) (n k:Int) (s:MK):(Ad3 f).T:=(((),c.i,(),c.bl,c.n1,c.i1,c.ps,n,k,()),gmb (gmU x.1 s.1 (gmO x.1)) s.2 c.b)
def Yb (f:Nat) (x:GB) (c:Cb) (s:MK):A1 (A86 f):=⟨.exit 2,(((),c.bl,c.n1,c.i1,()),gb (gmU x.1 s.1 (gmO x.1)) s.2)⟩
def A88 (f:Nat) (e:Int):A1 (A86 f):=⟨.panic (.ifc 39 (.int .i64 e)),((),())⟩
abbrev TB2 (f:Nat):=Tree ((Ad3 f).T⊕A1 (A86 f))
def Ad6 (f:Nat) (x:GB) (c:Cb) (n k:Int) (s:MK) (r:TCTs [B0,cI]):TB2 f :=
 bif r.2.1==0 then inO s.1.length c.i (Ak2 s.2 (kn (gmT x.1) (gmS x.1) 1 c.i k) fun ks=>.leaf (.inl (A87 f x c n (W64 (k+1)) (Bf s.1 (Int.toNat c.i) r.1,ks))))
 else bif r.2.1==4 then .leaf (.inr (A88 f r.2.1)) else .leaf (.inl (A87 f x c n (W64 (k+1)) s))
def Yc (f:Nat) (x:GB) (c:Cb) (n k:Int) (s:MK):TB2 f:=bif decide (k<n) then inN c.ps.length k (bif A1t s.1 (gmO x.1) c.i then
 bif !Cf s.1 (gmO x.1) (Int.toNat c.i) then .leaf (.inr (Yb f x c s)) else bif Fi (gmW x.1) (gmF x.1) c.i then .leaf (.inr (Yb f x c s)) else
 inO s.1.length c.i (Ad6 f x c n k s (bmV c.b (A9 s.1 (Int.toNat c.i)) (Fc c.ps (Int.toNat k)) (gmC x.1))) else .fail) else .leaf (.inr (Yb f x c s))
def cb (f:Nat) (g:(Ad3 f).T):Cb:=⟨g.1.2.1,g.2.2.2.1,g.1.2.2.2.1,g.1.2.2.2.2.1,g.1.2.2.2.2.2.1,g.1.2.2.2.2.2.2.1⟩
def Ar2 (f:Nat) (g:(Ad3 f).T):TB2 f:=Yc f (gb g.2.1 g.2.2.1.1) (cb f g) g.1.2.2.2.2.2.2.2.1 g.1.2.2.2.2.2.2.2.2.1 (gmM g.2.1,g.2.2.1.1)
def fu_b2 (f:Nat) (g:(Ad3 f).T):Nat:=Int.toNat g.1.2.2.2.2.2.2.2.1+1
def sm_b2 (f:Nat):St→Tree (XE×St):=Ar (Ad3 f) (A86 f) (finP 39 .i64 [.exit 2] (Ar2 f) (fu_b2 f))
def bpE (b:TCT A3) (c:TCT Cj) (ps:Dss) (os:List Bool) (w fl t st:Int) (i:Nat) (k:Nat) (s:MK):MK⊕(MK⊕Int) :=
 bif !Cf s.1 os i||Fi w fl i then .inr (.inl s) else
 bif (bmV b (A9 s.1 i) (Fc ps k) c).2.1==0 then .inl (Bf s.1 i (bmV b (A9 s.1 i) (Fc ps k) c).1,s.2++[kn t st 1 i k]) else
 bif (bmV b (A9 s.1 i) (Fc ps k) c).2.1==4 then .inr (.inr (bmV b (A9 s.1 i) (Fc ps k) c).2.1) else .inl s
def Yd:MK⊕(MK⊕Int)→MK⊕Int
 | .inl s=>.inl s
 | .inr x=>x
def A4y (f:Nat) (x:GB) (c:Cb) (r:MK⊕(MK⊕Int)):A1 (A86 f):=match Yd r with
 | .inl s=>Yb f x c s
 | .inr e=>A88 f e
structure InvK (n k:Nat) (i:Nat) (s:MK):Prop where
 m:s.1.length=n
 k:s.2.length≤k+i
theorem Ar3 {b:TCT A3} {c:TCT Cj} {ps:Dss} {os:List Bool} {w fl t st:Int} {i n k0 m:Nat} (k:Nat) (s s':MK) (_:k<m) (hi:InvK n k0 k s) (h:bpE b c ps os w fl t st i k s=.inl s'):InvK n k0 (k+1) s':=by
 unfold bpE at h
 have hk:=hi.k
 cases h1:!Cf s.1 os i||Fi w fl i with
 | true=>rw [h1] at h;cases h
 | false =>
  rw [h1] at h
  cases h2:(bmV b (A9 s.1 i) (Fc ps k) c).2.1==0 with
  | true=>rw [h2] at h;cases h;exact ⟨by rw [C0];exact hi.m,by simp;omega⟩
  | false =>
   rw [h2] at h
   cases h3:(bmV b (A9 s.1 i) (Fc ps k) c).2.1==4 with
   | true=>rw [h3] at h;cases h
   | false=>rw [h3] at h;cases h;exact ⟨hi.m,by omega⟩
theorem Bdv {f:Nat} {x:GB} {c:Cb} {i n k0:Nat} {s:MK} (hci:c.i=(i:Int)) (hi:i<n) (hos:(gmO x.1).length=n) (hs:InvK n k0 0 s) (hk0:k0≤990000) (hps:c.ps.length≤1000) :
  iter (Ar2 f) (c.ps.length+1) (A87 f x c c.ps.length 0 s)=some (A4y f x c (Ax (bpE c.b (gmC x.1) c.ps (gmO x.1) (gmW x.1) (gmF x.1) (gmT x.1) (gmS x.1) i) 0 c.ps.length s)):=by
 have hn:(c.ps.length:Int)≤B7 .i64:=by show (c.ps.length:Int)≤9223372036854775807;omega
 refine J6 c.ps.length (fun k s=>A87 f x c c.ps.length k s) (bpE c.b (gmC x.1) c.ps (gmO x.1) (gmW x.1) (gmF x.1) (gmT x.1) (gmS x.1) i) (A4y f x c) (InvK n k0) (fun k s hk hl=>?_) Ar3 (fun s hl=>?_) c.ps.length 0 s (by omega) hs
 ·show (Yc f (gb (gmU x.1 s.1 (gmO x.1)) s.2) c c.ps.length k s).run=_
  have h1:=hl.m
  have h2:=hl.k
  unfold Yc
  show Tree.run (bif decide ((k:Int)<(c.ps.length:Int)) then inN c.ps.length k (bif A1t s.1 (gmO x.1) c.i then
   bif !Cf s.1 (gmO x.1) (Int.toNat c.i) then .leaf (.inr (Yb f x c s)) else bif Fi (gmW x.1) (gmF x.1) c.i then .leaf (.inr (Yb f x c s)) else
   inO s.1.length c.i (Ad6 f x c c.ps.length k s (bmV c.b (A9 s.1 (Int.toNat c.i)) (Fc c.ps k) (gmC x.1))) else .fail) else .leaf (.inr (Yb f x c s)):TB2 f)=_
  rw [hci,decide_eq_true (show (k:Int)<(c.ps.length:Int) by omega),F3 (by omega),A4w hi h1 hos,Hj (by omega),show Int.toNat (i:Int)=i from rfl]
  unfold Ad6 bpE Ak2
  rw [hci,Hj (by omega),Hi (by simp;omega) (by decide),Ey hk hn,show Int.toNat (i:Int)=i from rfl]
  cases Cf s.1 (gmO x.1) i with
  | false=>rfl
  | true =>
   cases Fi (gmW x.1) (gmF x.1) i with
   | true=>rfl
   | false =>
    simp only [Bool.not_true,Bool.or_self,cond_true,cond_false]
    cases (bmV c.b (A9 s.1 i) (Fc c.ps k) (gmC x.1)).2.1==0 with
    | true=>rfl
    | false =>
     simp only [cond_false]
     cases (bmV c.b (A9 s.1 i) (Fc c.ps k) (gmC x.1)).2.1==4 <;> rfl
 ·show (Yc f (gb (gmU x.1 s.1 (gmO x.1)) s.2) c c.ps.length c.ps.length s).run=_
  unfold Yc
  rw [decide_eq_false (show ¬ (c.ps.length:Int)<(c.ps.length:Int) by omega)]
  rfl
def Ar4 (f:Nat) (x:GB) (bl:List (TCT A3)) (n i:Int) (s:MK):(Ad4 f).T:=(((),bl,n,i,()),gb (gmU x.1 s.1 (gmO x.1)) s.2)
def B4t (f:Nat) (x:GB) (s:MK):A1 (Ad5 f):=⟨.exit 0,((),gb (gmU x.1 s.1 (gmO x.1)) s.2)⟩
def B4u (f:Nat) (e:Int):A1 (Ad5 f):=⟨.panic (.ifc 39 (.int .i64 e)),((),())⟩
abbrev TB1 (f:Nat):=Tree ((Ad4 f).T⊕A1 (Ad5 f))
def Bdw (f:Nat) (r:(Bdt f).T):(Ad4 f).T:=(((),r.1.2.1,r.1.2.2.1,W64 (r.1.2.2.2.1+1),()),r.2)
def Ar5 (f:Nat) (y:Option (A1 (A86 f))):TB1 f:=bif isP 39 .i64 y then .leaf (.inr (B4u f (panO 39 .i64 y).1)) else bif isE (.exit 2) y then .leaf (.inl (Bdw f (C2 (.exit 2) y))) else .fail
def Bdx (f:Nat) (x:GB) (c:Cb):Option (A1 (A86 f)):=iter (Ar2 f) (c.ps.length+1) (A87 f x c c.ps.length 0 (gmM x.1,gk x))
def cb1 (x:GB) (bl:List (TCT A3)) (n i:Int):Cb:=⟨i,Ej bl (Int.toNat i),bl,n,i,gmP x.1⟩
def Ye (f:Nat) (x:GB) (bl:List (TCT A3)) (n i:Int):TB1 f:=bif decide (i<n) then inN bl.length i (Ar5 f (Bdx f x (cb1 x bl n i))) else .leaf (.inr (B4t f x (gmM x.1,gk x)))
def Ar6 (f:Nat) (g:(Ad4 f).T):TB1 f:=Ye f g.2 g.1.2.1 g.1.2.2.1 g.1.2.2.2.1
def fu_b1 (f:Nat) (g:(Ad4 f).T):Nat:=Int.toNat g.1.2.2.1+1
def sm_b1 (f:Nat):St→Tree (XE×St):=Ar (Ad4 f) (Ad5 f) (finP 39 .i64 [.exit 0] (Ar6 f) (fu_b1 f))
def Lt_b1 (f:Nat):M7:=fun k=>bif Nat.beq k 4 then some (sm_b2 f) else none
theorem Ar7:Al A85=[A2v]:=by kernel_rfl
theorem B87:keyOf A2v=4:=by kernel_rfl
theorem Ar8 {f:Nat} (h:Aw Tryz.prog 131 A2v (sm_b2 f)):∀ d ∈ Al A85,∀ g,Lt_b1 f (keyOf d)=some g→Aw Tryz.prog 131 d g:=fun d hd g hg=>by
 rw [Ar7,List.mem_singleton] at hd
 subst hd
 rw [B87] at hg
 cases hg
 exact h
theorem Ar9:Aw Tryz.prog 131 A2v (sm_b2 137):=Pr (Im is_run1 Gs Gt) 7 _ _ _ Az8 _ _ _ _ (fu_b2 137) (fun g=>by kernel_rfl)
theorem B88:Aw Tryz.prog 131 A85 (sm_b1 137):=Abb (Im is_run1 Gs Gt) 7 _ (Lt_b1 137) (Ar8 Ar9) _ _ Az9 _ _ _ _ (fu_b1 137) (fun g=>by kernel_rfl)
def boE (bl:List (TCT A3)) (c:TCT Cj) (ps:Dss) (os:List Bool) (w fl t st:Int) (i:Nat) (s:MK):MK⊕Int:=Yd (Ax (bpE (Ej bl i) c ps os w fl t st i) 0 ps.length s)
def Yf (f:Nat) (x:GB):MK⊕Int→A1 (Ad5 f)
 | .inl s=>B4t f x s
 | .inr e=>B4u f e
theorem Ara {b:TCT A3} {c:TCT Cj} {ps:Dss} {os:List Bool} {w fl t st:Int} {i n k0 m:Nat}:∀ (j k:Nat) (s s':MK),k+j=m→InvK n k0 k s→Yd (Ax (bpE b c ps os w fl t st i) k j s)=.inl s'→InvK n k0 m s'
 | 0,k,s,s',hj,hi,h=>by
  have e:k=m:=by omega
  subst e
  cases h
  exact hi
 | j+1,k,s,s',hj,hi,h=>by
  unfold Ax at h
  cases hf:bpE b c ps os w fl t st i k s with
  | inl t1=>rw [hf] at h;exact Ara j (k+1) t1 s' (by omega) (Ar3 (m:=m) k s t1 (by omega) hi hf) h
  | inr y =>
   rw [hf] at h
   unfold bpE at hf
   have hk:=hi.k
   cases h1:!Cf s.1 os i||Fi w fl i with
   | true =>
    rw [h1] at hf
    cases hf
    cases h
    exact ⟨hi.m,by omega⟩
   | false =>
    rw [h1] at hf
    cases h2:(bmV b (A9 s.1 i) (Fc ps k) c).2.1==0 with
    | true=>rw [h2] at hf;cases hf
    | false =>
     rw [h2] at hf
     cases h3:(bmV b (A9 s.1 i) (Fc ps k) c).2.1==4 with
     | true=>rw [h3] at hf;cases hf;cases h
     | false=>rw [h3] at hf;cases hf
structure InvO (n k P:Nat) (i:Nat) (s:MK):Prop where
 m:s.1.length=n
 k:s.2.length≤k+i*P
theorem Arb {bl:List (TCT A3)} {c:TCT Cj} {ps:Dss} {os:List Bool} {w fl t st:Int} {n k0 m:Nat} (i:Nat) (s s':MK) (_:i<m) (hi:InvO n k0 ps.length i s) (h:boE bl c ps os w fl t st i s=.inl s'):InvO n k0 ps.length (i+1) s':=by
 have a:=Ara (n:=n) (k0:=k0+i*ps.length) (m:=ps.length) ps.length 0 s s' (by omega) ⟨hi.m,by have:=hi.k;omega⟩ h
 have e:(i+1)*ps.length=i*ps.length+ps.length:=Nat.succ_mul i ps.length
 exact ⟨a.m,by have:=a.k;omega⟩
theorem Bdy {f:Nat} {x:GB} {s:MK} (hx:OkGM x.1) (hm:s.1.length=nBx x.1) (hk:s.2.length≤900000) (hps:(gmP x.1).length≤1000) :
  iter (Ar6 f) (nBx x.1+1) (Ar4 f x (gmB x.1) (nBx x.1) 0 s)=some (Yf f x (Ax (boE (gmB x.1) (gmC x.1) (gmP x.1) (gmO x.1) (gmW x.1) (gmF x.1) (gmT x.1) (gmS x.1)) 0 (nBx x.1) s)):=by
 have hn8:=hx.n
 have hn:(nBx x.1:Int)≤B7 .i64:=by show (nBx x.1:Int)≤9223372036854775807;omega
 refine J6 (nBx x.1) (fun i s=>Ar4 f x (gmB x.1) (nBx x.1) i s) (boE (gmB x.1) (gmC x.1) (gmP x.1) (gmO x.1) (gmW x.1) (gmF x.1) (gmT x.1) (gmS x.1)) (Yf f x) (InvO (nBx x.1) s.2.length (gmP x.1).length) (fun i s1 hi hl=>?_) Arb (fun s hl=>?_) (nBx x.1) 0 s (by omega) ⟨hm,by omega⟩
 ·show (Ye f (gb (gmU x.1 s1.1 (gmO x.1)) s1.2) (gmB x.1) (nBx x.1) i).run=_
  have h2:=hl.k
  have h3:i*(gmP x.1).length≤8*1000:=Nat.mul_le_mul (by omega) hps
  have hy:Bdx f (gb (gmU x.1 s1.1 (gmO x.1)) s1.2) (cb1 (gb (gmU x.1 s1.1 (gmO x.1)) s1.2) (gmB x.1) (nBx x.1) i)=some (A4y f (gb (gmU x.1 s1.1 (gmO x.1)) s1.2) (cb1 (gb (gmU x.1 s1.1 (gmO x.1)) s1.2) (gmB x.1) (nBx x.1) i) (Ax (bpE (Ej (gmB x.1) i) (gmC x.1) (gmP x.1) (gmO x.1) (gmW x.1) (gmF x.1) (gmT x.1) (gmS x.1) i) 0 (gmP x.1).length s1)) :=
   Bdv (f:=f) (x:=gb (gmU x.1 s1.1 (gmO x.1)) s1.2) (c:=cb1 (gb (gmU x.1 s1.1 (gmO x.1)) s1.2) (gmB x.1) (nBx x.1) i) (i:=i) (n:=nBx x.1) (k0:=s.2.length+i*(gmP x.1).length) (s:=s1) rfl hi hx.os ⟨hl.m,by omega⟩ (by omega) hps
  unfold Ye
  rw [decide_eq_true (show (i:Int)<(nBx x.1:Int) by omega),F3 (n:=(gmB x.1).length) (by show 0≤(i:Int)∧(i:Int)<(nBx x.1:Int);omega),hy]
  unfold boE A4y
  cases Yd (Ax (bpE (Ej (gmB x.1) i) (gmC x.1) (gmP x.1) (gmO x.1) (gmW x.1) (gmF x.1) (gmT x.1) (gmS x.1) i) 0 (gmP x.1).length s1) with
  | inl s2 =>
   show (Tree.leaf (.inl (((),gmB x.1,(nBx x.1:Int),W64 ((i:Int)+1),()),gb (gmU x.1 s2.1 (gmO x.1)) s2.2)):TB1 f).run=_
   rw [Ey hi hn]
   rfl
  | inr e =>
   have h1:isP 39 .i64 (some (A88 f e))=true:=Oy
   have h2:panO 39 .i64 (some (A88 f e))=⟨e,((),())⟩:=Jz
   show (Ar5 f (some (A88 f e))).run=_
   unfold Ar5
   rw [h1,h2]
   rfl
 ·show (Ye f (gb (gmU x.1 s.1 (gmO x.1)) s.2) (gmB x.1) (nBx x.1) (nBx x.1)).run=_
  unfold Ye
  rw [decide_eq_false (show ¬ (nBx x.1:Int)<(nBx x.1:Int) by omega)]
  rfl
end St
end V
end Go.Proofs.YtlangijnealfjaaGreat
namespace Go.Proofs.YtlangijnealfjaaGreat
open Go.RowKit
namespace V
namespace St
noncomputable def Bil (f:Nat):Ctx:=Wq Tryz.prog plGm [(131,Tryz.f131)] [((131,1),sm_b1 f),((131,4),sm_b2 f)] (spG f)
theorem Aza {f:Nat} (h1:C5 Tryz.prog 192 (sp_ro f)) (h2:C5 Tryz.prog 134 (sp_fl f)) (l1:Aw Tryz.prog 131 A85 (sm_b1 f)) (l2:Aw Tryz.prog 131 A2v (sm_b2 f)):CtxOk (Bil f) :=
 Hr Ak puGm (fns_cons is_gbump A0) (A8 (E6 (ds:=[A85,A2v]) (by kernel_rfl) ⟨Dk (k:=1) (by kernel_rfl) rfl l1,Dk (k:=4) (by kernel_rfl) rfl l2,trivial⟩) Dd) (Lx is_rolls.plain h1 is_flies.plain h2)
def Arc (f:Nat) (x:GB):Option (A1 (Ad5 f)):=iter (Ar6 f) (nBx x.1+1) (Ar4 f x (gmB x.1) (nBx x.1) 0 (gmM x.1,gk x))
def T_bp (f:Nat) (x:GB):TU f:=bif isP 39 .i64 (Arc f x) then .leaf ⟨false,pnU f (panO 39 .i64 (Arc f x)).1⟩ else bif isE (.exit 0) (Arc f x) then .leaf ⟨true,((),(C2 (.exit 0) (Arc f x)).2)⟩ else .fail
def buF (bl:List (TCT A3)) (c:TCT Cj) (ps:Dss) (t st w fl:Int) (n:Nat) (s:S2):MK⊕Int:=Ax (boE bl c ps s.2.1 w fl t st) 0 n (s.1,s.2.2)
def A4z (x:GB):Bool:=Pw x&&decide ((gmP x.1).length≤1000)
theorem A89 {x:GB} (h:A4z x=true):OkGM x.1∧(gk x).length≤900000∧(gmP x.1).length≤1000:=by
 unfold A4z at h
 simp only [Bool.and_eq_true,decide_eq_true_eq] at h
 have a:=Y8 h.1
 exact ⟨a.1,a.2,h.2⟩
def A8a (x:GB):Option (MK⊕Int):=bif A4z x then some (buF (gmB x.1) (gmC x.1) (gmP x.1) (gmT x.1) (gmS x.1) (gmW x.1) (gmF x.1) (nBx x.1) (gs x)) else none
abbrev sp_bp (f:Nat):Ao→Nat→List AV→Tree (Out×Ao×Nat):=Ky Lb (FL_g f) (FE_u f) (Y3 (fun g:(FL_g f).T=>A8a g.2) (fun g=>A84 f g.2) (pnU f) ([],[]))
theorem B89 {f:Nat} {g:(FL_g f).T} {z:MK⊕Int} (h:A8a g.2=some z):(T_bp f g.2).run=some (A1u (L:=FL_g f) (E:=FE_u f) (fun g=>A84 f g.2) (pnU f) g z):=by
 unfold A8a at h
 cases ho:A4z g.2 with
 | false=>rw [ho] at h;cases h
 | true =>
  rw [ho] at h
  cases h
  obtain ⟨hg,hk,hp⟩:=A89 ho
  have hy:Arc f g.2=some (Yf f g.2 (buF (gmB g.2.1) (gmC g.2.1) (gmP g.2.1) (gmT g.2.1) (gmS g.2.1) (gmW g.2.1) (gmF g.2.1) (nBx g.2.1) (gs g.2))):=Bdy hg hg.ms hk hp
  unfold T_bp
  rw [hy]
  cases buF (gmB g.2.1) (gmC g.2.1) (gmP g.2.1) (gmT g.2.1) (gmS g.2.1) (gmW g.2.1) (gmF g.2.1) (nBx g.2.1) (gs g.2) with
  | inl s=>rfl
  | inr e =>
   have h1:isP 39 .i64 (some (Yf f g.2 (.inr e)))=true:=Oy
   have h2:panO 39 .i64 (some (Yf f g.2 (.inr e)))=⟨e,((),())⟩:=Jz
   rw [h1,h2]
   rfl
theorem Azb:C5 Tryz.prog 131 (sp_bp 137):=U3 (Aza Gs Gt B88 Ar9) 6 P5 _ _ _ _ (fun g=>T_bp 137 g.2) (fun g=>by kernel_rfl) fun _ _ _ h=>B89 h
end St
end V
end Go.Proofs.YtlangijnealfjaaGreat
namespace Go.Proofs.YtlangijnealfjaaGreat
open Go.RowKit
namespace V
def thY {A β:Type} (y:Option (A⊕Int)) (d:A) (pn:Int→Tree β) (k:A→Tree β):Tree β:=bif isL y then k (gL d y) else bif isR y then pn (gR 0 y) else .fail
theorem Yg {A β:Type} {y:Option (A⊕Int)} {d a:A} {pn:Int→Tree β} {k:A→Tree β} (h:y=some (.inl a)):thY y d pn k=k a:=by rw [h];rfl
theorem Yh {A β:Type} {y:Option (A⊕Int)} {d:A} {e:Int} {pn:Int→Tree β} {k:A→Tree β} (h:y=some (.inr e)):thY y d pn k=pn e:=by rw [h];rfl
namespace St
noncomputable def Ard:Code:=(Al (bodyOf Tryz.f68)).getD 0 .skip
def Ad7 (f:Nat):Lay:={ keys:=[0],ks:=[.p 0 0 0 0],bs:=bsG f,n:=52,nx:=4000,marks:=[] }
def Bim:Lay:={ keys:=[],ks:=[],bs:=[],n:=52,nx:=9000,marks:=[] }
def A8b (f:Nat):XE→Lay:=fun e=>match e with | .panic _=>Bim | _=>Ad7 f
theorem Azc {f:Nat} (e:XE):(Ad7 f).nx≤(A8b f e).nx:=by cases e <;> first | exact Nat.le_refl _ | exact (by decide:(4000:Nat)≤9000)
abbrev YS:Type:=GB→Option (Au⊕Int)
abbrev Y2:Type:=GB→Option (S2⊕Int)
abbrev YK:Type:=GB→Option (MK⊕Int)
abbrev SPf:Type:=Ao→Nat→List AV→Tree (Out×Ao×Nat)
def Bin {β:Type} (m:GM) (ms:Au) (os:List Bool) (k:GM→β):β:=match m with
 | (a0,a1,a2,a3,a4,a5,a6,a7,a8,a9,a10,a11,a12,a13,a14,_,_,a17,a18,a19,a20,a21,_)=>k (a0,a1,a2,a3,a4,a5,a6,a7,a8,a9,a10,a11,a12,a13,a14,ms,os,a17,a18,a19,a20,a21,())
def Bdz {β:Type} (m:GM) (ms:Au) (k:GM→β):β:=match m with
 | (a0,a1,a2,a3,a4,a5,a6,a7,a8,a9,a10,a11,a12,a13,a14,_,a16,a17,a18,a19,a20,a21,_)=>k (a0,a1,a2,a3,a4,a5,a6,a7,a8,a9,a10,a11,a12,a13,a14,ms,a16,a17,a18,a19,a20,a21,())
def gmA (m:GM) (ms:Au) (os:List Bool) (fl tk st:Int):GM:=(m.1,m.2.1,m.2.2.1,m.2.2.2.1,m.2.2.2.2.1,m.2.2.2.2.2.1,m.2.2.2.2.2.2.1,m.2.2.2.2.2.2.2.1,m.2.2.2.2.2.2.2.2.1,m.2.2.2.2.2.2.2.2.2.1,m.2.2.2.2.2.2.2.2.2.2.1,m.2.2.2.2.2.2.2.2.2.2.2.1,m.2.2.2.2.2.2.2.2.2.2.2.2.1,m.2.2.2.2.2.2.2.2.2.2.2.2.2.1,m.2.2.2.2.2.2.2.2.2.2.2.2.2.2.1,ms,os,m.2.2.2.2.2.2.2.2.2.2.2.2.2.2.2.2.2.1,fl,tk,st,m.2.2.2.2.2.2.2.2.2.2.2.2.2.2.2.2.2.2.2.2.2.1,())
def Vi {L:FLay} {E:Bool→FLay} {A:Type} (Y:L.T→Option (A⊕Int)) (mk:L.T→A→((E true).T→Tree (Ee E))→Tree (Ee E)) (pn:Int→(E false).T) (d:A) (g:L.T):Tree (Ee E) :=
 .br (isL (Y g)) (mk g (gL d (Y g)) fun y=>.leaf ⟨true,y⟩) (.br (isR (Y g)) (.leaf ⟨false,pn (gR 0 (Y g))⟩) .fail)
def Be0 (f:Nat) (x:GB) (s:S2) (k:(FE_u f true).T→Tree (Ee (FE_u f))):Tree (Ee (FE_u f)):=Bin x.1 s.1 s.2.1 fun m=>k ((),(m,(s.2.2,()),()))
def Be1 (f:Nat) (x:GB) (s:MK) (k:(FE_u f true).T→Tree (Ee (FE_u f))):Tree (Ee (FE_u f)):=Bdz x.1 s.1 fun m=>k ((),(m,(s.2,()),()))
def Be2 (f:Nat) (x:GB) (s:Au) (k:(FE_u f true).T→Tree (Ee (FE_u f))):Tree (Ee (FE_u f)):=Bdz x.1 s fun m=>k ((),(m,(x.2.1.1,()),()))
theorem Azd {f:Nat} (Y:Y2):(Vi (L:=FL_g f) (E:=FE_u f) (fun g=>Y g.2) (fun g=>Be0 f g.2) (pnU f) ([],[],[]))=(Y3 (L:=FL_g f) (E:=FE_u f) (fun g=>Y g.2) (fun g=>Aqr f g.2) (pnU f) ([],[],[])):=rfl
theorem A50 {f:Nat} (Y:YK):(Vi (L:=FL_g f) (E:=FE_u f) (fun g=>Y g.2) (fun g=>Be1 f g.2) (pnU f) ([],[]))=(Y3 (L:=FL_g f) (E:=FE_u f) (fun g=>Y g.2) (fun g=>A84 f g.2) (pnU f) ([],[])):=rfl
theorem Aze {f:Nat} (Y:YS):(Vi (L:=FL_g f) (E:=FE_u f) (fun g=>Y g.2) (fun g=>Be2 f g.2) (pnU f) [])=(Y3 (L:=FL_g f) (E:=FE_u f) (fun g=>Y g.2) (fun g=>Acr f g.2) (pnU f) []):=rfl
abbrev Be3 (f:Nat) (Y:YS):SPf:=Ky Lb (FL_g f) (FE_u f) (Vi (fun g:(FL_g f).T=>Y g.2) (fun g=>Be2 f g.2) (pnU f) [])
abbrev Be4 (f:Nat) (Y:Y2):SPf:=Ky Lb (FL_g f) (FE_u f) (Vi (fun g:(FL_g f).T=>Y g.2) (fun g=>Be0 f g.2) (pnU f) ([],[],[]))
abbrev Ak7 (f:Nat) (Y:YK):SPf:=Ky Lb (FL_g f) (FE_u f) (Vi (fun g:(FL_g f).T=>Y g.2) (fun g=>Be1 f g.2) (pnU f) ([],[]))
structure TY where
 s:YS
 m:Y2
 e:YK
 b:YK
def spT (f:Nat) (Y:TY):List (Nat×SPf):=[(129,Be3 f Y.s),(130,Be4 f Y.m),(74,Ak7 f Y.e),(131,Ak7 f Y.b)]
def tyG:TY:=⟨Y6,A82,Qh,A8a⟩
theorem B8a {f:Nat} (h1:C5 Tryz.prog 129 (sp_slw f)) (h2:C5 Tryz.prog 130 (sp_mv f)) (h3:C5 Tryz.prog 74 (sp_se f)) (h4:C5 Tryz.prog 131 (sp_bp f)):∀ p ∈ spT f tyG,Plain Tryz.prog p.1∧C5 Tryz.prog p.1 p.2:=fun p hp=>by
 unfold spT at hp
 simp only [List.mem_cons,List.not_mem_nil,or_false] at hp
 rcases hp with rfl | rfl | rfl | rfl
 ·exact ⟨is_gslow.plain,by rw [tyG,Be3,Aze];exact h1⟩
 ·exact ⟨is_gmove.plain,by rw [tyG,Be4,Azd];exact h2⟩
 ·exact ⟨is_gsettle.plain,by rw [tyG,Ak7,A50];exact h3⟩
 ·exact ⟨is_gbump.plain,by rw [tyG,Ak7,A50];exact h4⟩
theorem B4v:∀ p ∈ spT 137 tyG,Plain Tryz.prog p.1∧C5 Tryz.prog p.1 p.2:=B8a Aqh Az1 Az7 Azb
noncomputable def Bio (f:Nat) (Y:TY):Ctx:=Wq Tryz.prog plGm [(73,Tryz.f73)] [] (spT f Y)
theorem Azf {f:Nat} {Y:TY} (h:∀ p ∈ spT f Y,Plain Tryz.prog p.1∧C5 Tryz.prog p.1 p.2):CtxOk (Bio f Y):=Hr Ak puGm (fns_cons is_must A0) Ly h
def x2 (x:GB) (s:S2):GB:=gb (gmU x.1 s.1 s.2.1) s.2.2
abbrev TTk (f:Nat):=Tree ((Ad7 f).T⊕A1 (A8b f))
def B4w (f:Nat) (e:Int):A1 (A8b f):=⟨.panic (.ifc 39 (.int .i64 e)),((),())⟩
def A2w (f:Nat) (e:Int):TTk f:=.leaf (.inr (B4w f e))
def z2:S2:=([],[],[])
def zM:MK:=([],[])
def xS (x:GB) (i:Int) (s:S2):GB:=(gmA x.1 s.1 s.2.1 (gmF x.1) (gmT x.1) i,(s.2.2,()),())
def Yi (f:Nat) (Y:TY) (x:GB) (i:Int) (s:S2):TTk f:=bif decide (i≤16) then thY (Y.m (xS x i s)) z2 (A2w f) fun s1=>thY (Y.e (xS x i s1)) zM (A2w f) fun s2=>thY (Y.b (xS x i (s2.1,s1.2.1,s2.2))) zM (A2w f) fun s3=>.leaf (.inl (((),()),xS x (W64 (i+1)) (s3.1,s1.2.1,s3.2)))
 else .leaf (.inr ⟨.exit 0,(((),()),xS x i s)⟩)
def Agv (f:Nat) (Y:TY) (g:(Ad7 f).T):TTk f:=Yi f Y g.2 (gmS g.2.1) (gs g.2)
def fu_tk (f:Nat) (_:(Ad7 f).T):Nat:=17
def sm_tk (f:Nat) (Y:TY):St→Tree (XE×St):=Ar (Ad7 f) (A8b f) (finP 39 .i64 [.exit 0] (Agv f Y) (fu_tk f))
theorem B8b {Y:TY} (h:∀ p ∈ spT 137 Y,Plain Tryz.prog p.1∧C5 Tryz.prog p.1 p.2):Aw Tryz.prog 68 Ard (sm_tk 137 Y):=Pr (Azf h) 7 _ _ _ Azc _ _ _ _ (fu_tk 137) (fun g=>by kernel_rfl)
structure CT where
 bl:List (TCT A3)
 l:TCT Am
 c:TCT Cj
 ps:Dss
 w:Int
 fl:Int
 t:Int
def tkE (k:CT) (i:Nat) (s:S2):S2⊕Int:=match mvF k.bl k.l k.t ((i+1:Nat):Int) k.bl.length s with
 | .inr e=>.inr e
 | .inl s1=>match seF k.bl k.c k.t ((i+1:Nat):Int) k.w k.fl k.bl.length s1 with
  | .inr e=>.inr e
  | .inl s2=>match buF k.bl k.c k.ps k.t ((i+1:Nat):Int) k.w k.fl k.bl.length (s2.1,s1.2.1,s2.2) with
   | .inr e=>.inr e
   | .inl s3=>.inl (s3.1,s1.2.1,s3.2)
theorem A51 {bl:List (TCT A3)} {l:TCT Am} {t st:Int} {n k:Nat} {s s':S2} (hs:Inv2 n k 0 s) (h:mvF bl l t st n s=.inl s'):Inv2 n (k+n) 0 s':=by
 unfold mvF at h
 cases h1:Ax (stE bl s.2.1) 0 n s.1 with
 | inr e=>rw [h1] at h;cases h
 | inl ms =>
  rw [h1] at h
  change Ax (lvE l t st) 0 n (ms,s.2.1,s.2.2)=.inl s' at h
  have hm:ms.length=n:=B6 (n:=n) (Inv:=fun _ (s:Au)=>s.length=n) Acu n 0 _ _ (by omega) hs.m h1
  have a:=B6 (n:=n) (Inv:=Inv2 n k) Aqp n 0 (ms,s.2.1,s.2.2) s' (by omega) ⟨hm,hs.o,hs.k⟩ h
  exact ⟨a.m,a.o,by have:=a.k;omega⟩
theorem Agw {bl:List (TCT A3)} {c:TCT Cj} {t st w fl:Int} {n k:Nat} {s:S2} {s':MK} (hn:n≤8) (hs:Inv2 n k 0 s) (h:seF bl c t st w fl n s=.inl s'):Inv2 n (k+64) 0 (s'.1,s.2.1,s'.2):=by
 unfold seF at h
 cases he:(seS bl c w fl n s).2.2.1 != 0 with
 | true=>rw [he] at h;cases h
 | false =>
  rw [he] at h
  cases h
  have a:=U7 (bl:=bl) (bc:=c) (w:=w) (fl:=fl) (s:=s) hn (bne_eq_false_iff_eq.1 he)
  have hk:=hs.k
  refine ⟨?_,hs.o,?_⟩
  ·show (scV _ _ _).length=n
   rw [Agq];exact hs.m
  ·show (kpV _ _ _ _ _).length≤_
   rw [Agt];have:=a.2.1;omega
theorem Azg {bl:List (TCT A3)} {c:TCT Cj} {ps:Dss} {t st w fl:Int} {n k:Nat} {s:S2} {s':MK} (hs:Inv2 n k 0 s) (h:buF bl c ps t st w fl n s=.inl s'):Inv2 n (k+n*ps.length) 0 (s'.1,s.2.1,s'.2):=by
 unfold buF at h
 have hk:=hs.k
 have a:=B6 (n:=n) (Inv:=InvO n s.2.2.length ps.length) Arb n 0 _ _ (by omega) ⟨hs.m,by show s.2.2.length≤s.2.2.length+0*ps.length;omega⟩ h
 exact ⟨a.m,hs.o,by have:=a.k;show s'.2.length≤_;omega⟩
theorem A52 {k:CT} {k0 m:Nat} (hn:k.bl.length≤8) (hp:k.ps.length≤1000) (i:Nat) (s s':S2) (_:i<m) (hs:Inv2 k.bl.length (k0+i*8072) 0 s) (h:tkE k i s=.inl s'):Inv2 k.bl.length (k0+(i+1)*8072) 0 s':=by
 unfold tkE at h
 cases h1:mvF k.bl k.l k.t ((i+1:Nat):Int) k.bl.length s with
 | inr e=>rw [h1] at h;cases h
 | inl s1 =>
  rw [h1] at h
  have a:=A51 hs h1
  simp only at h
  cases h2:seF k.bl k.c k.t ((i+1:Nat):Int) k.w k.fl k.bl.length s1 with
  | inr e=>rw [h2] at h;cases h
  | inl s2 =>
   rw [h2] at h
   have b:=Agw hn a h2
   simp only at h
   cases h3:buF k.bl k.c k.ps k.t ((i+1:Nat):Int) k.w k.fl k.bl.length (s2.1,s1.2.1,s2.2) with
   | inr e=>rw [h3] at h;cases h
   | inl s3 =>
    rw [h3] at h
    cases h
    have c:=Azg b h3
    have d:k.bl.length*k.ps.length≤8*1000:=Nat.mul_le_mul hn hp
    exact ⟨c.m,c.o,by have:=c.k;simp only at this ⊢;omega⟩
def ctG (m:GM):CT:=⟨gmB m,gmL m,gmC m,gmP m,gmW m,gmF m,gmT m⟩
theorem Azh {x:GB} {i:Int} {s:S2} {k:Nat} (hsz:(x.1.1.size:Int)≤B7 .i64) (hn:nBx x.1≤8) (hs:Inv2 (nBx x.1) k 0 s) (hk:k≤900000):A82 (xS x i s)=some (mvF (gmB x.1) (gmL x.1) (gmT x.1) i (nBx x.1) s):=by
 have h:Pw (xS x i s)=true:=by
  have:=hs.k
  unfold Pw
  rw [Bool.and_eq_true,decide_eq_true_eq]
  exact ⟨Et.2 ⟨hsz,hs.m,hs.o,hn⟩,by show s.2.2.length≤900000;omega⟩
 unfold A82;rw [h];rfl
theorem Azi {x:GB} {i:Int} {s:S2} {k:Nat} (hsz:(x.1.1.size:Int)≤B7 .i64) (hn:nBx x.1≤8) (hs:Inv2 (nBx x.1) k 0 s) (hk:k≤900000):Qh (xS x i s)=some (seF (gmB x.1) (gmC x.1) (gmT x.1) i (gmW x.1) (gmF x.1) (nBx x.1) s):=by
 have h:Pw (xS x i s)=true:=by
  have:=hs.k
  unfold Pw
  rw [Bool.and_eq_true,decide_eq_true_eq]
  exact ⟨Et.2 ⟨hsz,hs.m,hs.o,hn⟩,by show s.2.2.length≤900000;omega⟩
 unfold Qh;rw [h];rfl
theorem Azj {x:GB} {i:Int} {s:S2} {k:Nat} (hsz:(x.1.1.size:Int)≤B7 .i64) (hn:nBx x.1≤8) (hp:(gmP x.1).length≤1000) (hs:Inv2 (nBx x.1) k 0 s) (hk:k≤900000):A8a (xS x i s)=some (buF (gmB x.1) (gmC x.1) (gmP x.1) (gmT x.1) i (gmW x.1) (gmF x.1) (nBx x.1) s):=by
 have h:A4z (xS x i s)=true:=by
  have:=hs.k
  unfold A4z Pw
  rw [Bool.and_eq_true,Bool.and_eq_true,decide_eq_true_eq,decide_eq_true_eq]
  exact ⟨⟨Et.2 ⟨hsz,hs.m,hs.o,hn⟩,by show s.2.2.length≤900000;omega⟩,hp⟩
 unfold A8a;rw [h];rfl
def Are (f:Nat) (x:GB) (i:Nat) (s:S2):(Ad7 f).T:=(((),()),xS x ((i+1:Nat):Int) s)
def Be5 (f:Nat) (x:GB) (s:S2):A1 (A8b f):=⟨.exit 0,(((),()),xS x 17 s)⟩
def Yj (f:Nat) (x:GB):S2⊕Int→A1 (A8b f)
 | .inl s=>Be5 f x s
 | .inr e=>B4w f e
theorem Be6 (x:GB) (i j:Int) (s t:S2):xS (xS x i s) j t=xS x j t:=by
 unfold xS gmA
 rfl
theorem A8c {f:Nat} {x:GB} {i:Nat} {s:S2}:Agv f tyG (Are f x i s)=Yi f tyG x ((i+1:Nat):Int) s:=by
 show Yi f tyG (xS x ((i+1:Nat):Int) s) ((i+1:Nat):Int) s=_
 unfold Yi
 simp only [Be6]
theorem Be7 {f:Nat} {x:GB} {s:S2} {k0:Nat} (hsz:(x.1.1.size:Int)≤B7 .i64) (hn:nBx x.1≤8) (hp:(gmP x.1).length≤1000) (hs:Inv2 (nBx x.1) k0 0 s) (hk0:k0≤700000) :
  iter (Agv f tyG) 17 (Are f x 0 s)=some (Yj f x (Ax (tkE (ctG x.1)) 0 16 s)):=by
 refine J6 16 (fun i s=>Are f x i s) (tkE (ctG x.1)) (Yj f x) (fun i s=>Inv2 (nBx x.1) (k0+i*8072) 0 s) (fun i s hi hl=>?_) (fun i s s' hi hl h=>A52 (k:=ctG x.1) (k0:=k0) (m:=16) hn hp i s s' hi hl h) (fun s hl=>?_) 16 0 s (by omega) ⟨hs.m,hs.o,by have:=hs.k;omega⟩
 ·rw [A8c]
  have e1:=Azh (i:=((i+1:Nat):Int)) hsz hn (s:=s) hl (by omega)
  unfold Yi
  rw [decide_eq_true (show ((i+1:Nat):Int)≤16 by omega),cond_true]
  show (thY (A82 (xS x ((i+1:Nat):Int) s)) z2 (A2w f) fun s1=>thY (Qh (xS x ((i+1:Nat):Int) s1)) zM (A2w f) fun s2=>thY (A8a (xS x ((i+1:Nat):Int) (s2.1,s1.2.1,s2.2))) zM (A2w f) fun s3 =>
   .leaf (.inl (((),()),xS x (W64 (((i+1:Nat):Int)+1)) (s3.1,s1.2.1,s3.2)))).run=_
  unfold tkE
  change A82 (xS x ((i+1:Nat):Int) s)=some (mvF (ctG x.1).bl (ctG x.1).l (ctG x.1).t ((i+1:Nat):Int) (ctG x.1).bl.length s) at e1
  cases h1:mvF (ctG x.1).bl (ctG x.1).l (ctG x.1).t ((i+1:Nat):Int) (ctG x.1).bl.length s with
  | inr e=>rw [h1] at e1;rw [Yh e1];rfl
  | inl s1 =>
   rw [h1] at e1
   rw [Yg e1]
   have a:Inv2 (nBx x.1) (k0+i*8072+nBx x.1) 0 s1:=A51 hl h1
   have e2:=Azi (i:=((i+1:Nat):Int)) hsz hn (s:=s1) a (by omega)
   change Qh (xS x ((i+1:Nat):Int) s1)=some (seF (ctG x.1).bl (ctG x.1).c (ctG x.1).t ((i+1:Nat):Int) (ctG x.1).w (ctG x.1).fl (ctG x.1).bl.length s1) at e2
   simp only
   cases h2:seF (ctG x.1).bl (ctG x.1).c (ctG x.1).t ((i+1:Nat):Int) (ctG x.1).w (ctG x.1).fl (ctG x.1).bl.length s1 with
   | inr e=>rw [h2] at e2;rw [Yh e2];rfl
   | inl s2 =>
    rw [h2] at e2
    rw [Yg e2]
    have b:Inv2 (nBx x.1) (k0+i*8072+nBx x.1+64) 0 (s2.1,s1.2.1,s2.2):=Agw hn a h2
    have e3:=Azj (i:=((i+1:Nat):Int)) hsz hn hp (s:=(s2.1,s1.2.1,s2.2)) b (by omega)
    change A8a (xS x ((i+1:Nat):Int) (s2.1,s1.2.1,s2.2))=some (buF (ctG x.1).bl (ctG x.1).c (ctG x.1).ps (ctG x.1).t ((i+1:Nat):Int) (ctG x.1).w (ctG x.1).fl (ctG x.1).bl.length (s2.1,s1.2.1,s2.2)) at e3
    simp only
    cases h3:buF (ctG x.1).bl (ctG x.1).c (ctG x.1).ps (ctG x.1).t ((i+1:Nat):Int) (ctG x.1).w (ctG x.1).fl (ctG x.1).bl.length (s2.1,s1.2.1,s2.2) with
    | inr e=>rw [h3] at e3;rw [Yh e3];rfl
    | inl s3 =>
     rw [h3] at e3
     rw [Yg e3,Be (by omega) (by omega)]
     rfl
 ·rw [A8c]
  rfl
end St
end V
end Go.Proofs.YtlangijnealfjaaGreat
namespace Go.Proofs.YtlangijnealfjaaGreat
open Go.RowKit
namespace V
namespace St
noncomputable def X_ti (f:Nat) (Y:TY):Ctx:=Wq Tryz.prog plGm [(68,Tryz.f68),(73,Tryz.f73)] [((68,4),sm_tk f Y)] (spT f Y)
theorem Azk {f:Nat} {Y:TY} (h:∀ p ∈ spT f Y,Plain Tryz.prog p.1∧C5 Tryz.prog p.1 p.2) (hl:Aw Tryz.prog 68 Ard (sm_tk f Y)):CtxOk (X_ti f Y) :=
 Hr Ak puGm (fns_cons is_gtick (fns_cons is_must A0)) (A8 (E6 (ds:=[Ard]) (by kernel_rfl) ⟨Dk (k:=4) (by kernel_rfl) rfl hl,trivial⟩) (A8 (Az (by kernel_rfl)) Dd)) h
def A8d (f:Nat) (e:Int):TU f:=.leaf ⟨false,pnU f e⟩
def Be8 (v:GB):GB:=(gmA v.1 (gmM v.1) (gmO v.1) (max 0 (W64 (gmF v.1-1))) (W64 (gmT v.1+1)) (gmS v.1),(gk v,()),())
def B8c (f:Nat) (y:Option (A1 (A8b f))):TU f:=bif isP 39 .i64 y then A8d f (panO 39 .i64 y).1 else bif isE (.exit 0) y then .leaf ⟨true,((),Be8 (C2 (.exit 0) y).2)⟩ else .fail
def B8d (f:Nat) (Y:TY) (x:GB) (ms:Au):Option (A1 (A8b f)):=iter (Agv f Y) 17 (((),()),xS x 1 (ms,gmO x.1,gk x))
def T_ti (f:Nat) (Y:TY) (x:GB):TU f:=bif gmT x.1==4000 then A8d f 3 else thY (Y.s x) [] (A8d f) fun ms=>B8c f (B8d f Y x ms)
def slE (l:TCT Am) (os:List Bool) (w fl:Int) (i:Nat) (ms:Au):Au⊕Int :=
 bif !Cf ms os i||Fi w fl i then .inl ms else bif Gk l (A9 ms i).1 != 0 then .inr (Gk l (A9 ms i).1) else
 bif (Nq l (A9 ms i)).2.1 != 0 then .inr 4 else .inl (Bf ms i (Aco l (A9 ms i)))
def tkF (k:CT) (s:S2):S2⊕Int:=bif k.t==4000 then .inr 3 else match Ax (slE k.l s.2.1 k.w k.fl) 0 k.bl.length s.1 with
 | .inr e=>.inr e
 | .inl ms=>Ax (tkE k) 0 16 (ms,s.2.1,s.2.2)
def A8e (x:GB):Bool:=A4z x&&decide ((gk x).length≤700000)
theorem A8f {x:GB} (h:A8e x=true):OkGM x.1∧(gk x).length≤700000∧(gmP x.1).length≤1000:=by
 unfold A8e at h
 simp only [Bool.and_eq_true,decide_eq_true_eq] at h
 have a:=A89 h.1
 exact ⟨a.1,h.2,a.2.2⟩
def Yk (x:GB):Option (S2⊕Int):=bif A8e x then some (tkF (ctG x.1) (gs x)) else none
def xT (x:GB) (s:S2):GB:=(gmA x.1 s.1 s.2.1 (max 0 (W64 (gmF x.1-1))) (W64 (gmT x.1+1)) 17,(s.2.2,()),())
def Bip {β:Type} (m:GM) (ms:Au) (os:List Bool) (k:GM→β):β:=match m with
 | (a0,a1,a2,a3,a4,a5,a6,a7,a8,a9,a10,a11,a12,a13,a14,_,_,a17,a18,a19,_,a21,_)=>k (a0,a1,a2,a3,a4,a5,a6,a7,a8,a9,a10,a11,a12,a13,a14,ms,os,a17,max 0 (W64 (a18-1)),W64 (a19+1),17,a21,())
def Be9 (f:Nat) (x:GB) (s:S2) (k:(FE_u f true).T→Tree (Ee (FE_u f))):Tree (Ee (FE_u f)):=Bip x.1 s.1 s.2.1 fun m=>k ((),(m,(s.2.2,()),()))
def B8e (f:Nat) (x:GB) (s:S2):(FE_u f true).T:=((),xT x s)
theorem Azl {f:Nat} (Y:Y2):(Vi (L:=FL_g f) (E:=FE_u f) (fun g=>Y g.2) (fun g=>Be9 f g.2) (pnU f) ([],[],[]))=(Y3 (L:=FL_g f) (E:=FE_u f) (fun g=>Y g.2) (fun g=>B8e f g.2) (pnU f) ([],[],[])):=rfl
abbrev spYT (f:Nat) (Y:Y2):SPf:=Ky Lb (FL_g f) (FE_u f) (Vi (fun g:(FL_g f).T=>Y g.2) (fun g=>Be9 f g.2) (pnU f) ([],[],[]))
theorem B8f {f:Nat} {g:(FL_g f).T} {z:S2⊕Int} (h:Yk g.2=some z):(T_ti f tyG g.2).run=some (A1u (L:=FL_g f) (E:=FE_u f) (fun g=>B8e f g.2) (pnU f) g z):=by
 unfold Yk at h
 cases ho:A8e g.2 with
 | false=>rw [ho] at h;cases h
 | true =>
  rw [ho] at h
  cases h
  obtain ⟨hg,hk,hp⟩:=A8f ho
  unfold T_ti tkF
  show Tree.run (bif gmT g.2.1==4000 then A8d f 3 else thY (Y6 g.2) [] (A8d f) fun ms=>B8c f (B8d f tyG g.2 ms))=some (A1u (L:=FL_g f) (E:=FE_u f) (fun g=>B8e f g.2) (pnU f) g (bif gmT g.2.1==4000 then .inr 3 else match Ax (slE (gmL g.2.1) (gmO g.2.1) (gmW g.2.1) (gmF g.2.1)) 0 (nBx g.2.1) (gmM g.2.1) with
   | .inr e=>.inr e
   | .inl ms=>Ax (tkE (ctG g.2.1)) 0 16 (ms,gmO g.2.1,gk g.2)))
  cases gmT g.2.1==4000 with
  | true=>rfl
  | false =>
   simp only [cond_false]
   have e1:Y6 g.2=some (Ax (slE (gmL g.2.1) (gmO g.2.1) (gmW g.2.1) (gmF g.2.1)) 0 (nBx g.2.1) (gmM g.2.1)):=by
    unfold Y6
    rw [Et.2 hg]
    rfl
   cases h1:Ax (slE (gmL g.2.1) (gmO g.2.1) (gmW g.2.1) (gmF g.2.1)) 0 (nBx g.2.1) (gmM g.2.1) with
   | inr e=>rw [h1] at e1;rw [Yh e1];rfl
   | inl ms =>
    rw [h1] at e1
    rw [Yg e1]
    have hms:ms.length=nBx g.2.1:=B6 (n:=nBx g.2.1) (Inv:=fun _ (s:Au)=>s.length=nBx g.2.1) (fun i s s' hi hl h=>Aqf (m:=g.2.1) i s s' hi hl h) (nBx g.2.1) 0 _ _ (by omega) hg.ms h1
    have hy:B8d f tyG g.2 ms=some (Yj f g.2 (Ax (tkE (ctG g.2.1)) 0 16 (ms,gmO g.2.1,gk g.2))):=Be7 (x:=g.2) (s:=(ms,gmO g.2.1,gk g.2)) (k0:=(gk g.2).length) hg.sz hg.n hp ⟨hms,hg.os,by show (gk g.2).length≤(gk g.2).length+0;omega⟩ hk
    rw [hy]
    simp only
    cases Ax (tkE (ctG g.2.1)) 0 16 (ms,gmO g.2.1,gk g.2) with
    | inl s=>rfl
    | inr e =>
     have h1:isP 39 .i64 (some (Yj f g.2 (.inr e)))=true:=Oy
     have h2:panO 39 .i64 (some (Yj f g.2 (.inr e)))=⟨e,((),())⟩:=Jz
     unfold B8c
     rw [h1,h2]
     rfl
theorem B8g (Y:TY) (g:(FL_g 137).T):Qq (X_ti 137 Y) (D1 (X_ti 137 Y) 6) 68 (ofKs (FL_g 137).ks g.1 (FL_g 137).nx) ((FL_g 137).lay.hp g) ((FL_g 137).lay.of g).nx (A0m (FE_u 137))=T_ti 137 Y g.2:=by kernel_rfl
theorem Azm:C5 Tryz.prog 68 (spYT 137 Yk):=by
 rw [spYT,Azl]
 exact U3 (Azk B4v (B8b B4v)) 6 P5 _ _ _ _ (fun g=>T_ti 137 tyG g.2) (B8g tyG) fun _ _ _ h=>B8f h
end St
end V
end Go.Proofs.YtlangijnealfjaaGreat
namespace Go.Proofs.YtlangijnealfjaaGreat
open Go.RowKit
namespace V
theorem Fq {S B:Type} {f:Nat→S→S⊕B}:∀ (k i:Nat) (s:S) (b:B),Ax f i k s=.inr b→∃ j t,f j t=.inr b
 | 0,_,_,_,h=>by cases h
 | k+1,i,s,b,h=>by
  unfold Ax at h
  cases hf:f i s with
  | inl t=>rw [hf] at h;exact Fq k (i+1) t b h
  | inr c=>rw [hf] at h;cases h;exact ⟨i,s,hf⟩
namespace St
theorem is_newGame:FnIs Tryz.prog (65,Tryz.f65):=⟨Tryz.func65,by kernel_rfl,by kernel_rfl⟩
theorem is_sTry:FnIs Tryz.prog (67,Tryz.f67):=⟨Tryz.func67,by kernel_rfl,by kernel_rfl⟩
theorem is_sTry1:FnIs Tryz.prog (128,Tryz.f128):=⟨Tryz.func128,by kernel_rfl,by kernel_rfl⟩
theorem is_clMot:FnIs Tryz.prog (126,Tryz.f126):=⟨Tryz.func126,by kernel_rfl,by kernel_rfl⟩
theorem is_clBool:FnIs Tryz.prog (127,Tryz.f127):=⟨Tryz.func127,by kernel_rfl,by kernel_rfl⟩
theorem B8h {l:TCT Am} {os:List Bool} {w fl:Int} {i:Nat} {ms:Au} {e:Int} (h:slE l os w fl i ms=.inr e):e≠0:=by
 unfold slE at h
 cases h1:!Cf ms os i||Fi w fl i with
 | true=>rw [h1] at h;cases h
 | false =>
  rw [h1] at h
  cases h2:Gk l (A9 ms i).1 != 0 with
  | true=>rw [h2] at h;cases h;exact bne_iff_ne.1 h2
  | false =>
   rw [h2] at h
   cases h3:(Nq l (A9 ms i)).2.1 != 0 with
   | true=>rw [h3] at h;cases h;decide
   | false=>rw [h3] at h;cases h
theorem B8i {bl:List (TCT A3)} {os:List Bool} {i:Nat} {ms:Au} {e:Int} (h:stE bl os i ms=.inr e):e≠0:=by
 unfold stE at h
 cases h1:!Cf ms os i with
 | true=>rw [h1] at h;cases h
 | false =>
  rw [h1] at h
  cases h3:(Qg (Ej bl i) (A9 ms i)).2.1 != 0 with
  | true=>rw [h3] at h;cases h;exact bne_iff_ne.1 h3
  | false=>rw [h3] at h;cases h
theorem B8j {bl:List (TCT A3)} {l:TCT Am} {t st:Int} {n:Nat} {s:S2} {e:Int} (h:mvF bl l t st n s=.inr e):e≠0:=by
 unfold mvF at h
 cases h1:Ax (stE bl s.2.1) 0 n s.1 with
 | inr e' =>
  rw [h1] at h
  cases h
  obtain ⟨j,t,hj⟩:=Fq _ _ _ _ h1
  exact B8i hj
 | inl ms =>
  rw [h1] at h
  obtain ⟨s',hs'⟩:=U5 (Agh (l:=l) (t:=t) (st:=st)) n 0 (ms,s.2.1,s.2.2)
  change Ax (lvE l t st) 0 n (ms,s.2.1,s.2.2)=.inr e at h
  rw [hs'] at h
  cases h
theorem Yl {bl:List (TCT A3)} {c:TCT Cj} {t st w fl:Int} {n:Nat} {s:S2} {e:Int} (h:seF bl c t st w fl n s=.inr e):e≠0:=by
 unfold seF at h
 cases he:(seS bl c w fl n s).2.2.1 != 0 with
 | true=>rw [he] at h;cases h;exact bne_iff_ne.1 he
 | false=>rw [he] at h;cases h
theorem B8k {b:TCT A3} {c:TCT Cj} {ps:Dss} {os:List Bool} {w fl t st:Int} {i k:Nat} {s:MK} {e:Int} (h:bpE b c ps os w fl t st i k s=.inr (.inr e)):e≠0:=by
 unfold bpE at h
 cases h1:!Cf s.1 os i||Fi w fl i with
 | true=>rw [h1] at h;cases h
 | false =>
  rw [h1] at h
  cases h2:(bmV b (A9 s.1 i) (Fc ps k) c).2.1==0 with
  | true=>rw [h2] at h;cases h
  | false =>
   rw [h2] at h
   cases h3:(bmV b (A9 s.1 i) (Fc ps k) c).2.1==4 with
   | true =>
    rw [h3] at h
    cases h
    exact beq_eq_false_iff_ne.1 h2
   | false=>rw [h3] at h;cases h
theorem B8l {bl:List (TCT A3)} {c:TCT Cj} {ps:Dss} {t st w fl:Int} {n:Nat} {s:S2} {e:Int} (h:buF bl c ps t st w fl n s=.inr e):e≠0:=by
 unfold buF at h
 obtain ⟨j,u,hj⟩:=Fq _ _ _ _ h
 unfold boE at hj
 cases hf:Ax (bpE (Ej bl j) c ps s.2.1 w fl t st j) 0 ps.length u with
 | inl a=>rw [hf] at hj;cases hj
 | inr y =>
  rw [hf] at hj
  obtain ⟨k,v,hk⟩:=Fq _ _ _ _ hf
  have:y=.inr e:=hj
  subst this
  exact B8k hk
theorem B8m {k:CT} {i:Nat} {s:S2} {e:Int} (h:tkE k i s=.inr e):e≠0:=by
 unfold tkE at h
 cases h1:mvF k.bl k.l k.t ((i+1:Nat):Int) k.bl.length s with
 | inr e'=>rw [h1] at h;cases h;exact B8j h1
 | inl s1 =>
  rw [h1] at h
  simp only at h
  cases h2:seF k.bl k.c k.t ((i+1:Nat):Int) k.w k.fl k.bl.length s1 with
  | inr e'=>rw [h2] at h;cases h;exact Yl h2
  | inl s2 =>
   rw [h2] at h
   simp only at h
   cases h3:buF k.bl k.c k.ps k.t ((i+1:Nat):Int) k.w k.fl k.bl.length (s2.1,s1.2.1,s2.2) with
   | inr e'=>rw [h3] at h;cases h;exact B8l h3
   | inl s3=>rw [h3] at h;cases h
theorem B8n {k:CT} {s:S2} {e:Int} (h:tkF k s=.inr e):e≠0:=by
 unfold tkF at h
 cases h0:k.t==4000 with
 | true=>rw [h0] at h;cases h;decide
 | false =>
  rw [h0] at h
  simp only [cond_false] at h
  cases h1:Ax (slE k.l s.2.1 k.w k.fl) 0 k.bl.length s.1 with
  | inr e' =>
   rw [h1] at h
   cases h
   obtain ⟨j,t,hj⟩:=Fq _ _ _ _ h1
   exact B8h hj
  | inl ms =>
   rw [h1] at h
   obtain ⟨j,t,hj⟩:=Fq _ _ _ _ h
   exact B8m hj
def ctS (g:TCT cGr) (s:TCT cSt):CT:=⟨A2 g,g.1,g.2.2.1,I3 g.1,s.2.2.1,s.2.2.2.1,s.2.2.2.2.1⟩
abbrev TkR:Type:=TCTs [cSt,.sl cKn,cI]
def Jm (e:Int):TkR:=(zS,[],e,())
def A8g (r:TkR):TkR:=(etaS r.1,r.2.1,r.2.2.1,())
abbrev TTR:=Tree TkR
def gT (g:TCT cGr) (s:TCT cSt):GB:=((g.1.1,g.1.2.1,g.1.2.2.1,g.1.2.2.2.1,g.1.2.2.2.2.1,g.1.2.2.2.2.2.1.1.1,g.1.2.2.2.2.2.1.1.2.1,g.1.2.2.2.2.2.1.2.1,g.1.2.2.2.2.2.2.1,g.1.2.2.2.2.2.2.2.1,g.1.2.2.2.2.2.2.2.2.1,g.2.1,g.2.2.1.1,g.2.2.1.2.1,I3 g.1,([]++s.1),([]++s.2.1),s.2.2.1,s.2.2.2.1,s.2.2.2.2.1,0,((),(),()),()),([],()),())
def neT {β:Type} {c:Type} (l:List c) (k:Tree β):Tree β:=bif !List.isEmpty l then k else .fail
theorem A53 {β:Type} {c:Type} {l:List c} {k:Tree β} (h:1≤l.length):neT l k=k:=by
 cases l with
 | nil=>simp at h
 | cons _ _=>rfl
def acT {β:Type} {c:Type} (l:List c) (b:Nat) (k:Tree β):Tree β:=bif Df [] l b then k else .fail
theorem A54 {β:Type} {c:Type} {l:List c} {b:Nat} {k:Tree β} (h:l.length≤1000) (hb:b≤48):acT l b k=k:=by
 unfold acT
 rw [Hi (by simp;omega) hb];rfl
abbrev plTk:List (Nat×PureT):=(101,A4o)::plGm
theorem puTk:D3 Tryz.prog plTk:=puOk_cons is_Posts.plain Ag2 puGm
theorem Ym {l:TCT Am}:(I3 l).length≤25:=by
 unfold I3
 cases h:Cp l==0 with
 | false=>show (0:Nat)≤25;omega
 | true =>
  have k:Cp l=0:=beq_iff_eq.1 h
  have hh:(B2 l).length≤12:=by
   unfold Cp Nf at k
   cases h1:decide (((B2 l).length:Int)<1)||(decide (((B2 l).length:Int)>12)||decide (((Dh l).length:Int)>256)) with
   | true=>rw [h1] at k;cases k
   | false =>
    simp only [Bool.or_eq_false_iff,decide_eq_false_iff_not] at h1
    omega
  show (By l).length≤25
  rw [A2q]
  omega
structure StaOk (g:TCT cGr) (s:TCT cSt):Prop where
 gr:groE g=0
 n1:1≤(A2 g).length
 n8:(A2 g).length≤8
 m:(msT s).length=(A2 g).length
 o:(osT s).length=(A2 g).length
 ok:I2 (okS g (osT s)) 0 (msT s)=true
 num:A4s (A2 g).length s=false
theorem Ad8 {g:TCT cGr} {s:TCT cSt} (h:K5 g s=0):StaOk g s:=by
 unfold K5 at h
 cases h1:groE g != 0 with
 | true=>rw [h1,cond_true] at h;exact absurd h (bne_iff_ne.1 h1)
 | false =>
  have hg:groE g=0:=bne_eq_false_iff_eq.1 h1
  rw [h1,cond_false] at h
  unfold vaE at h
  cases h2:A1r g s with
  | false=>rw [h2] at h;cases h
  | true =>
   rw [h2,cond_true] at h
   cases h3:I2 (okS g (osT s)) 0 (msT s) with
   | false=>rw [h3] at h;cases h
   | true =>
    rw [h3,cond_true] at h
    cases h4:A4s (A2 g).length s with
    | true=>rw [h4] at h;cases h
    | false =>
     have a:=Age hg
     have b:=Xz h2
     exact ⟨hg,a.1,a.2,b.1,b.2,h3,h4⟩
theorem Azn {g:TCT cGr} {s:TCT cSt} (hs:(g.1.1.size:Int)≤B7 .i64) (h:StaOk g s):A8e (gT g s)=true:=by
 unfold A8e A4z Pw
 simp only [Bool.and_eq_true,decide_eq_true_eq]
 refine ⟨⟨⟨Et.2 ⟨hs,?_,?_,h.n8⟩,by show (0:Nat)≤900000;omega⟩,?_⟩,by show (0:Nat)≤700000;omega⟩
 ·show ([]++s.1:Au).length=(A2 g).length
  rw [List.nil_append];exact h.m
 ·show ([]++s.2.1:List Bool).length=(A2 g).length
  rw [List.nil_append];exact h.o
 ·have:=Ym (l:=g.1)
  show (I3 g.1).length≤1000
  omega
end St
end V
end Go.Proofs.YtlangijnealfjaaGreat
namespace Go.Proofs.YtlangijnealfjaaGreat
open Go.RowKit
namespace V
def Bea (cs rs:List TC) (ok:TCTs cs→Bool) (F:TCTs cs→TCTs rs):PureT :=
 {
  run:=fun l=>match So cs l with
   | some x=>fcTs cs x fun x=>fcTs rs (F x) fun y=>some (ok x,Au3 rs y)
   | none=>none
  flat:=noSls rs }
namespace St
theorem is_sStrike:FnIs Tryz.prog (28,Tryz.f28):=⟨Tryz.func28,by kernel_rfl,by kernel_rfl⟩
def ex2:Au:=[((50000,60106,()),(0,190000,()),(0,-12800,()),()),((80000,60000,()),(0,0,()),(0,0,()),())]
def Ak8:PureT:=Bea [.sl A3,.sl B0,Cj] [.sl B0,.sl Hk,cI] (fun _=>true) (fun x=>((Bw x.1 x.2.1 x.2.2.1.1 x.2.2.1.2.1).1,(Bw x.1 x.2.1 x.2.2.1.1 x.2.2.1.2.1).2.1,(Bw x.1 x.2.1 x.2.2.1.1 x.2.2.1.2.1).2.2.1,()))
def plW0:List (Nat×PureT):=(135,Ak8)::(59,P2)::plTk
noncomputable def A55:Ctx:=Ab9 20 Tryz.prog plW0 B7p
end St
end V
end Go.Proofs.YtlangijnealfjaaGreat
namespace Go.Proofs.YtlangijnealfjaaGreat
open Go.RowKit
namespace V
namespace St
end St
end V
end Go.Proofs.YtlangijnealfjaaGreat
