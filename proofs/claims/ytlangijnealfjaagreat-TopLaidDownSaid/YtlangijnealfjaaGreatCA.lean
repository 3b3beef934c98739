import Derived.Test.YtlangijnealfjaaGreatBA
namespace Go.Proofs.YtlangijnealfjaaGreat
open Go.RowKit
namespace V
namespace St
abbrev kPt:List SK:=[.d cI,.d cI]
def p0:SKTs kPt:=(0,0,())
end St
end V
end Go.Proofs.YtlangijnealfjaaGreat
namespace Go.Proofs.YtlangijnealfjaaGreat
open Go.RowKit
namespace V
def isL {A B:Type}:Option (A⊕B)→Bool
 | some (.inl _)=>true
 | _=>false
def isR {A B:Type}:Option (A⊕B)→Bool
 | some (.inr _)=>true
 | _=>false
def gL {A B:Type} (d:A):Option (A⊕B)→A
 | some (.inl a)=>a
 | _=>d
def gR {A B:Type} (d:B):Option (A⊕B)→B
 | some (.inr b)=>b
 | _=>d
def FLay.dfl (F:FLay):F.T:=(dflKs F.ks,B52 F.bs)
theorem W7 {α:Type} {t:Tree α} {R S:α→Prop} (h:t.sat R) (k:∀ x,R x→S x):t.sat S:=by
 induction t with
 | leaf a=>exact k a h
 | need p t ih=>exact ⟨h.1,ih h.2⟩
 | br c t e i1 i2=>exact ⟨fun x=>i1 (h.1 x),fun x=>i2 (h.2 x)⟩
 | fail=>exact h
def B1c {L:FLay} {E:Bool→FLay} (c:L.T→Bool) (r:L.T→(E true).T) (g:L.T):Tree (Dx E):=.br (c g) (.leaf ⟨true,r g⟩) .fail
theorem Ams {X:Ctx} (hX:CtxOk X) {f:FuncId} (m:Nat) {probe:Ah→List AV→Option (List Nat)} {L:FLay} {E:Bool→FLay} (hE:∀ b,L.nx≤(E b).nx) (c:L.T→Bool) (r:L.T→(E true).T) (T:L.T→Tree (Dx E))
  (he:∀ g,Pa X (Dh X m) f (ofKs L.ks g.1 L.nx) (L.lay.hp g) (L.lay.of g).nx (Yt E)=T g)
  (h:∀ g,L.lay.WF g→c g=true→(T g).run=some ⟨true,r g⟩):Bv X.P f (K0 probe L E (B1c c r)) :=
 A8d hX m hE fun g R hw hf=>by
  rw [he]
  cases hc:c g with
  | false=>exact (hf.2 hc).elim
  | true=>exact W7 (Tree.sat_run (h g hw hc) (hf.1 hc)) fun x hx _=>hx
namespace St
theorem is_rolls:FnIs Tryz.prog (192,Tryz.f192):=⟨Tryz.func192,by kernel_rfl,by kernel_rfl⟩
theorem is_flies:FnIs Tryz.prog (134,Tryz.f134):=⟨Tryz.func134,by kernel_rfl,by kernel_rfl⟩
theorem is_knock:FnIs Tryz.prog (136,Tryz.f136):=⟨Tryz.func136,by kernel_rfl,by kernel_rfl⟩
theorem is_must:FnIs Tryz.prog (73,Tryz.f73):=⟨Tryz.func73,by kernel_rfl,by kernel_rfl⟩
theorem is_gslow:FnIs Tryz.prog (129,Tryz.f129):=⟨Tryz.func129,by kernel_rfl,by kernel_rfl⟩
theorem is_gmove:FnIs Tryz.prog (130,Tryz.f130):=⟨Tryz.func130,by kernel_rfl,by kernel_rfl⟩
theorem is_gsettle:FnIs Tryz.prog (74,Tryz.f74):=⟨Tryz.func74,by kernel_rfl,by kernel_rfl⟩
theorem is_gbump:FnIs Tryz.prog (131,Tryz.f131):=⟨Tryz.func131,by kernel_rfl,by kernel_rfl⟩
theorem is_gtick:FnIs Tryz.prog (68,Tryz.f68):=⟨Tryz.func68,by kernel_rfl,by kernel_rfl⟩
theorem is_Tick1:FnIs Tryz.prog (66,Tryz.f66):=⟨Tryz.func66,by kernel_rfl,by kernel_rfl⟩
abbrev kGm (f:Nat):List SK:=[.d .s,.d cI,.d cI,.d cI,.d (.sl Bp),.d cI,.d cI,.d cI,.d cI,.d cI,.d (.sl Ce),.d (.sl A2),.d cI,.d cI,.d (.sl A1),.w 2 84 Au,.o 4 .b,.d cI,.d cI,.d cI,.d cI,.f f [] [.p 1 0 0 0]]
abbrev bsG (f:Nat):List BK:=[(0,171,kGm f),(1,79,[.o 101 cKn])]
abbrev GM:Type:=SKTs (kGm 0)
abbrev Kns:Type:=List (TCT cKn)
abbrev Ar:Type:=List (TCT Au)
def gmX (m:GM):SKTs kGr:=(m.1,m.2.1,m.2.2.1,m.2.2.2.1,m.2.2.2.2.1,m.2.2.2.2.2.1,m.2.2.2.2.2.2.1,m.2.2.2.2.2.2.2.1,m.2.2.2.2.2.2.2.2.1,m.2.2.2.2.2.2.2.2.2.1,m.2.2.2.2.2.2.2.2.2.2.1,m.2.2.2.2.2.2.2.2.2.2.2.1,m.2.2.2.2.2.2.2.2.2.2.2.2.1,m.2.2.2.2.2.2.2.2.2.2.2.2.2.1,())
def gmP (m:GM):List (TCT A1):=m.2.2.2.2.2.2.2.2.2.2.2.2.2.2.1
def gmM (m:GM):Ar:=m.2.2.2.2.2.2.2.2.2.2.2.2.2.2.2.1
def gmO (m:GM):List Bool:=m.2.2.2.2.2.2.2.2.2.2.2.2.2.2.2.2.1
def gmW (m:GM):Int:=m.2.2.2.2.2.2.2.2.2.2.2.2.2.2.2.2.2.1
def gmF (m:GM):Int:=m.2.2.2.2.2.2.2.2.2.2.2.2.2.2.2.2.2.2.1
def gmT (m:GM):Int:=m.2.2.2.2.2.2.2.2.2.2.2.2.2.2.2.2.2.2.2.1
def gmS (m:GM):Int:=m.2.2.2.2.2.2.2.2.2.2.2.2.2.2.2.2.2.2.2.2.1
def gmU (m:GM) (ms:Ar) (os:List Bool):GM:=(m.1,m.2.1,m.2.2.1,m.2.2.2.1,m.2.2.2.2.1,m.2.2.2.2.2.1,m.2.2.2.2.2.2.1,m.2.2.2.2.2.2.2.1,m.2.2.2.2.2.2.2.2.1,m.2.2.2.2.2.2.2.2.2.1,m.2.2.2.2.2.2.2.2.2.2.1,m.2.2.2.2.2.2.2.2.2.2.2.1,m.2.2.2.2.2.2.2.2.2.2.2.2.1,m.2.2.2.2.2.2.2.2.2.2.2.2.2.1,m.2.2.2.2.2.2.2.2.2.2.2.2.2.2.1,ms,os,m.2.2.2.2.2.2.2.2.2.2.2.2.2.2.2.2.2.1,m.2.2.2.2.2.2.2.2.2.2.2.2.2.2.2.2.2.2.1,m.2.2.2.2.2.2.2.2.2.2.2.2.2.2.2.2.2.2.2.1,m.2.2.2.2.2.2.2.2.2.2.2.2.2.2.2.2.2.2.2.2.1,m.2.2.2.2.2.2.2.2.2.2.2.2.2.2.2.2.2.2.2.2.2.1,())
def gmB (m:GM):List (TCT A2):=blX (gmX m)
def gmL (m:GM):TCT A8:=lwG (gmX m)
abbrev GB:Type:=GM×SKTs [.o 0 cKn]×Unit
def gb (m:GM) (k:Kns):GB:=(m,(k,()),())
def plGm:List (Nat×PureT):=(63,A5o)::(193,A5m)::(194,Aq0)::(104,Apv)::(195,Apz)::(135,A74)::plS4
def Auf:List AV→List Nat
 | []=>[]
 | .own i::l=>i::Auf l
 | _::l=>Auf l
def K7 (hp:Ah) (args:List AV):Option (List Nat):=match args with
 | .ptr id _ _ _::_=>match hp id with
  | some (.blk b)=>match nth b.cs 21 with
   | some (.fn _ _ [.ptr k _ _ _])=>match hp k with
    | some (.blk c)=>some (id::k::(Auf b.cs++Auf c.cs))
    | _=>none
   | _=>none
  | _=>none
 | _=>none
def A5u (f:Nat):FLay:={ ks:=[.p 0 0 0 0,.d cI],bs:=bsG f,nx:=1000 }
def Bap (f:Nat):FLay:={ ks:=[.d .b],bs:=bsG f,nx:=1000 }
def FN:FLay:={ ks:=[.i 39 .i64],bs:=[],nx:=1000 }
def A03 (f:Nat) (b:Bool):FLay:=bif b then Bap f else FN
def inO {β:Type} (n:Nat) (i:Int) (k:Tree β):Tree β:=inN n i (bif decide (Int.toNat i<n) then k else .fail)
theorem Gr {β:Type} {n:Nat} {i:Int} {k:Tree β} (h:0≤i∧i<(n:Int)):inO n i k=k:=by
 unfold inO
 rw [Ea h,decide_eq_true (by omega)];rfl
def C6 (ms:Ar) (os:List Bool) (i:Nat):Bool:=!Al os i (Ak .b)&&A5t (Al ms i (Ak Au))
def Fj (w fl i:Int):Bool:=(i==w)&&decide (fl>0)
def A04 (ms:Ar) (os:List Bool) (i:Int):Bool:=decide (0≤i∧i<(os.length:Int)∧i<(ms.length:Int))
def lfB (f:Nat) (b:Bool) (x:GB):Tree (Dx (A03 f)):=.leaf ⟨true,((b,()),x)⟩
def T_ro (f:Nat) (i:Int) (m:GM) (x:GB):Tree (Dx (A03 f)):=inO (gmO m).length i (bif !Al (gmO m) (Int.toNat i) (Ak .b) then inO (gmM m).length i (lfB f (A5t (Al (gmM m) (Int.toNat i) (Ak Au))) x) else lfB f false x)
abbrev C_ro (f:Nat) (g:(A5u f).T):Bool:=A04 g.2.1.2.2.2.2.2.2.2.2.2.2.2.2.2.2.2.1 g.2.1.2.2.2.2.2.2.2.2.2.2.2.2.2.2.2.2.1 g.1.2.1
def V_ro (f:Nat) (g:(A5u f).T):(A03 f true).T:=((C6 g.2.1.2.2.2.2.2.2.2.2.2.2.2.2.2.2.2.1 g.2.1.2.2.2.2.2.2.2.2.2.2.2.2.2.2.2.2.1 (Int.toNat g.1.2.1),()),g.2)
def C_fl (f:Nat) (_:(A5u f).T):Bool:=true
def V_fl (f:Nat) (g:(A5u f).T):(A03 f true).T:=((Fj g.2.1.2.2.2.2.2.2.2.2.2.2.2.2.2.2.2.2.2.1 g.2.1.2.2.2.2.2.2.2.2.2.2.2.2.2.2.2.2.2.2.1 g.1.2.1,()),g.2)
def T_fl (f:Nat) (i:Int) (m:GM) (x:GB):Tree (Dx (A03 f)):=bif i==gmW m then lfB f (decide (gmF m>0)) x else lfB f false x
theorem Adn {f:Nat} (b:Bool):1000≤(A03 f b).nx:=by cases b <;> exact Nat.le_refl _
theorem B1d {f:Nat} {g:(A5u f).T} (h:C_ro f g=true):(T_ro f g.1.2.1 g.2.1 g.2).run=some ⟨true,V_ro f g⟩:=by
 have hd:0≤g.1.2.1∧g.1.2.1<((gmO g.2.1).length:Int)∧g.1.2.1<((gmM g.2.1).length:Int):=of_decide_eq_true h
 unfold V_ro
 show (T_ro f g.1.2.1 g.2.1 g.2).run=some (⟨true,((C6 (gmM g.2.1) (gmO g.2.1) (Int.toNat g.1.2.1),()),g.2)⟩:Dx (A03 f))
 unfold T_ro C6
 rw [Gr ⟨hd.1,hd.2.1⟩,Gr ⟨hd.1,hd.2.2⟩]
 cases Al (gmO g.2.1) (Int.toNat g.1.2.1) (Ak .b) <;> rfl
theorem B1e {f:Nat} {g:(A5u f).T}:(T_fl f g.1.2.1 g.2.1 g.2).run=some ⟨true,V_fl f g⟩:=by
 unfold V_fl
 show (T_fl f g.1.2.1 g.2.1 g.2).run=some (⟨true,((Fj (gmW g.2.1) (gmF g.2.1) g.1.2.1,()),g.2)⟩:Dx (A03 f))
 unfold T_fl Fj
 cases g.1.2.1==gmW g.2.1 <;> rfl
abbrev sp_ro (f:Nat):Ah→Nat→List AV→Tree (Out×Ah×Nat):=K0 K7 (A5u f) (A03 f) (B1c (fun g=>A04 g.2.1.2.2.2.2.2.2.2.2.2.2.2.2.2.2.2.1 g.2.1.2.2.2.2.2.2.2.2.2.2.2.2.2.2.2.2.1 g.1.2.1) (V_ro f))
abbrev sp_fl (f:Nat):Ah→Nat→List AV→Tree (Out×Ah×Nat):=K0 K7 (A5u f) (A03 f) (B1c (fun _=>true) (V_fl f))
theorem puGm:Ci Tryz.prog plGm:=puOk_cons is_sOn.plain Ayw (puOk_cons is_CellAt.plain Am4 (puOk_cons is_Slow.plain B3z (puOk_cons is_Step.plain B3x (puOk_cons is_Bump.plain B3y (puOk_cons is_Settle.plain Ap4 puS4)))))
noncomputable def Baq:Ctx:=ctx Tryz.prog plGm [(192,Tryz.f192),(134,Tryz.f134)]
theorem Ado:CtxOk Baq:=Ap Am puGm (fns_cons is_rolls (fns_cons is_flies A3))
theorem G3:Bv Tryz.prog 192 (sp_ro 66):=Ams Ado 6 Adn (C_ro 66) (V_ro 66) (fun g=>T_ro 66 g.1.2.1 g.2.1 g.2) (fun g=>by kernel_rfl) fun _ _ h=>B1d h
theorem G4:Bv Tryz.prog 134 (sp_fl 66):=Ams Ado 6 Adn (C_fl 66) (V_fl 66) (fun g=>T_fl 66 g.1.2.1 g.2.1 g.2) (fun g=>by kernel_rfl) fun _ _ _=>B1e
end St
end V
end Go.Proofs.YtlangijnealfjaaGreat
namespace Go.Proofs.YtlangijnealfjaaGreat
open Go.RowKit
namespace V
def W8 {L:FLay} {E:Bool→FLay} {A:Type} (Y:L.T→Option (A⊕Int)) (mk:L.T→A→(E true).T) (pn:Int→(E false).T) (d:A) (g:L.T):Tree (Dx E) :=
 .br (isL (Y g)) (.leaf ⟨true,mk g (gL d (Y g))⟩) (.br (isR (Y g)) (.leaf ⟨false,pn (gR 0 (Y g))⟩) .fail)
def A05 {L:FLay} {E:Bool→FLay} {A:Type} (mk:L.T→A→(E true).T) (pn:Int→(E false).T) (g:L.T):A⊕Int→Dx E
 | .inl a=>⟨true,mk g a⟩
 | .inr e=>⟨false,pn e⟩
theorem Amt {L:FLay} {E:Bool→FLay} {A:Type} {Y:L.T→Option (A⊕Int)} {mk:L.T→A→(E true).T} {pn:Int→(E false).T} {d:A} {g:L.T} {R:Dx E→Prop} (h:(W8 Y mk pn d g).sat R):∃ z,Y g=some z∧R (A05 mk pn g z):=by
 unfold W8 at h
 obtain ⟨h1,h2⟩:=h
 cases hF:Y g with
 | none =>
  rw [hF] at h2
  exact ((h2 rfl).2 rfl).elim
 | some z =>
  cases z with
  | inl a=>rw [hF] at h1;exact ⟨_,rfl,h1 rfl⟩
  | inr b=>rw [hF] at h2;exact ⟨_,rfl,(h2 rfl).1 rfl⟩
theorem W9 {X:Ctx} (hX:CtxOk X) {f:FuncId} (m:Nat) {probe:Ah→List AV→Option (List Nat)} {L:FLay} {E:Bool→FLay} (hE:∀ b,L.nx≤(E b).nx) {A:Type} (Y:L.T→Option (A⊕Int)) (mk:L.T→A→(E true).T) (pn:Int→(E false).T) (d:A) (T:L.T→Tree (Dx E))
  (he:∀ g,Pa X (Dh X m) f (ofKs L.ks g.1 L.nx) (L.lay.hp g) (L.lay.of g).nx (Yt E)=T g)
  (h:∀ g z,L.lay.WF g→Y g=some z→(T g).run=some (A05 mk pn g z)):Bv X.P f (K0 probe L E (W8 Y mk pn d)) :=
 A8d hX m hE fun g R hw hf=>by
  rw [he]
  obtain ⟨z,hz,hr⟩:=Amt hf
  exact W7 (Tree.sat_run (h g z hw hz) hr) fun x hx _=>hx
namespace St
def nBx (m:GM):Nat:=(gmB m).length
def Amu (m:GM):Bool:=decide ((m.1.size:Int)≤B0 .i64)&&(decide ((gmM m).length=nBx m)&&(decide ((gmO m).length=nBx m)&&decide (nBx m≤8)))
structure OkGM (m:GM):Prop where
 sz:(m.1.size:Int)≤B0 .i64
 ms:(gmM m).length=nBx m
 os:(gmO m).length=nBx m
 n:nBx m≤8
theorem Hz {m:GM}:Amu m=true ↔ OkGM m:=by
 unfold Amu
 simp only [Bool.and_eq_true,decide_eq_true_eq]
 exact ⟨fun h=>⟨h.1,h.2.1,h.2.2.1,h.2.2.2⟩,fun h=>⟨h.sz,h.ms,h.os,h.n⟩⟩
def FL_g (f:Nat):FLay:={ ks:=[.p 0 0 0 0],bs:=bsG f,nx:=1000 }
def Bar (f:Nat):FLay:={ ks:=[],bs:=bsG f,nx:=1000 }
def FE_u (f:Nat) (b:Bool):FLay:=bif b then Bar f else FN
theorem Qa {f:Nat} (b:Bool):1000≤(FE_u f b).nx:=by cases b <;> exact Nat.le_refl _
def pnU (f:Nat) (e:Int):(FE_u f false).T:=((e,()),())
def mkU (f:Nat) (x:GB):(FE_u f true).T:=((),x)
def spG (f:Nat):List (Nat×(Ah→Nat→List AV→Tree (Out×Ah×Nat))):=[(192,sp_ro f),(134,sp_fl f)]
theorem Kl {P:Program} {f g:Nat} {sp sq:Ah→Nat→List AV→Tree (Out×Ah×Nat)} (h:Plain P f) (k:Bv P f sp) (h2:Plain P g) (k2:Bv P g sq):∀ p ∈ [(f,sp),(g,sq)],Plain P p.1∧Bv P p.1 p.2:=fun p hp=>by
 simp only [List.mem_cons,List.not_mem_nil,or_false] at hp
 rcases hp with rfl | rfl
 ·exact ⟨h,k⟩
 ·exact ⟨h2,k2⟩
theorem Nl {P:Program} {fns:List (Nat×Func)}:∀ p ∈ fns,∀ d ∈ Aj (bodyOf p.2),∀ g,C9 ([]:List ((Nat×Nat)×(St→Tree (XE×St)))) p.1 (keyOf d)=some g→Ax P p.1 d g:=fun _ _ _ _ _ h=>by simp [C9] at h
noncomputable def Bas (f:Nat):Ctx:=A0h Tryz.prog plGm [(73,Tryz.f73)] [] (spG f)
theorem Aug {f:Nat} (h1:Bv Tryz.prog 192 (sp_ro f)) (h2:Bv Tryz.prog 134 (sp_fl f)):CtxOk (Bas f):=Iq Am puGm (fns_cons is_must A3) Nl (Kl is_rolls.plain h1 is_flies.plain h2)
noncomputable def Az3:Code:=(Aj (bodyOf Tryz.f129)).getD 0 .skip
def Agm (f:Nat):Lay:={ keys:=[0,13,14],ks:=[.p 0 0 0 0,.d cI,.d cI],bs:=bsG f,n:=80,nx:=2000,marks:=[] }
def Bat (f:Nat):Lay:={ keys:=[],ks:=[],bs:=bsG f,n:=80,nx:=2000,marks:=[] }
def Bau:Lay:={ keys:=[],ks:=[],bs:=[],n:=80,nx:=2000,marks:=[] }
def Aa2 (f:Nat):XE→Lay:=fun e=>match e with | .panic _=>Bau | _=>Bat f
def P2 (l:TCT A8) (m:TCT Au):TCTs [cPt,cI]:=M5 (W64 (m.2.1.1+(Kk l m.1).2.1)) (W64 (m.2.1.2.1+(Kk l m.1).2.2.1)) (Kk l m.1).1
def Agn (l:TCT A8) (m:TCT Au):TCT Au:=(m.1,((P2 l m).1.1,(P2 l m).1.2.1,()),m.2.2.1,())
def A9 (ms:Ar) (i:Nat):TCT Au:=Al ms i (Ak Au)
def gk (x:GB):Kns:=x.2.1.1
def Oc (f:Nat) (x:GB) (n i:Int) (ms:Ar):(Agm f).T:=(((),n,i,()),(gb (gmU x.1 ms (gmO x.1)) (gk x)))
def Amv (f:Nat) (x:GB) (ms:Ar):A0 (Aa2 f):=⟨.exit 0,((),(gb (gmU x.1 ms (gmO x.1)) (gk x)))⟩
def Amw (f:Nat) (e:Int):A0 (Aa2 f):=⟨.panic (.ifc 39 (.int .i64 e)),((),())⟩
abbrev TSw (f:Nat):=Tree ((Agm f).T⊕A0 (Aa2 f))
def inT {β:Type} (n:Nat) (i:Int) (k:Tree β):Tree β:=bif decide (Int.toNat i<n) then k else .fail
theorem Aa3 {β:Type} {n:Nat} {i:Int} {k:Tree β} (h:0≤i∧i<(n:Int)):inT n i k=k:=by unfold inT;rw [decide_eq_true (by omega)];rfl
def Amx (f:Nat) (x:GB) (n i:Int) (ms:Ar):TSw f :=
 bif Hy (gmL x.1) (A9 ms (Int.toNat i)).1 != 0 then .leaf (.inr (Amw f (Hy (gmL x.1) (A9 ms (Int.toNat i)).1))) else inT ms.length i (inT ms.length i (
  bif (P2 (gmL x.1) (A9 ms (Int.toNat i))).2.1 != 0 then .leaf (.inr (Amw f 4)) else inT ms.length i (.leaf (.inl (Oc f x n (W64 (i+1)) (B9 ms (Int.toNat i) (Agn (gmL x.1) (A9 ms (Int.toNat i)))))))))
def szG {β:Type} (m:GM) (k:Tree β):Tree β:=bif decide ((m.1.size:Int)≤B0 .i64) then k else .fail
def Wa (f:Nat) (x:GB) (n i:Int) (ms:Ar):TSw f:=bif decide (i<n) then bif A04 ms (gmO x.1) i then
 bif !C6 ms (gmO x.1) (Int.toNat i) then .leaf (.inl (Oc f x n (W64 (i+1)) ms)) else bif Fj (gmW x.1) (gmF x.1) i then .leaf (.inl (Oc f x n (W64 (i+1)) ms)) else
 inO ms.length i (szG x.1 (Amx f x n i ms)) else .fail else .leaf (.inr (Amv f x ms))
def Amy (f:Nat) (g:(Agm f).T):TSw f:=Wa f g.2 g.1.2.1 g.1.2.2.1 (gmM g.2.1)
def fu_sw (f:Nat) (g:(Agm f).T):Nat:=Int.toNat g.1.2.1+1
def sm_sw (f:Nat):St→Tree (XE×St):=As (Agm f) (Aa2 f) (finP 39 .i64 [.exit 0] (Amy f) (fu_sw f))
theorem Auh {f:Nat} (e:XE):(Agm f).nx≤(Aa2 f e).nx:=by cases e <;> exact Nat.le_refl _
theorem B1f:Ax Tryz.prog 129 Az3 (sm_sw 66):=O8 (Aug G3 G4) 7 _ _ _ Auh _ _ _ _ (fu_sw 66) (fun g=>by kernel_rfl)
def A5v (m:GM) (i:Nat) (ms:Ar):Ar⊕Int :=
 bif !C6 ms (gmO m) i||Fj (gmW m) (gmF m) i then .inl ms else bif Hy (gmL m) (A9 ms i).1 != 0 then .inr (Hy (gmL m) (A9 ms i).1) else
 bif (P2 (gmL m) (A9 ms i)).2.1 != 0 then .inr 4 else .inl (B9 ms i (Agn (gmL m) (A9 ms i)))
def Wb (f:Nat) (x:GB):Ar⊕Int→A0 (Aa2 f)
 | .inl ms=>Amv f x ms
 | .inr e=>Amw f e
theorem C2 {α:Type}:∀ (l:List α) (i:Nat) (x:α),(B9 l i x).length=l.length
 | [],_,_=>rfl
 | _::_,0,_=>rfl
 | _::l,i+1,x=>by simp only [B9,List.length_cons,C2 l i x]
theorem Amz {m:GM} {n:Nat} (i:Nat) (s s':Ar) (_:i<n) (hi:s.length=n) (h:A5v m i s=.inl s'):s'.length=n:=by
 unfold A5v at h
 cases h1:!C6 s (gmO m) i||Fj (gmW m) (gmF m) i with
 | true=>rw [h1] at h;cases h;exact hi
 | false =>
  rw [h1] at h
  cases h2:Hy (gmL m) (A9 s i).1 != 0 with
  | true=>rw [h2] at h;cases h
  | false =>
   rw [h2] at h
   cases h3:(P2 (gmL m) (A9 s i)).2.1 != 0 with
   | true=>rw [h3] at h;cases h
   | false=>rw [h3] at h;cases h;rw [C2];exact hi
theorem A2y {ms:Ar} {os:List Bool} {i n:Nat} (h:i<n) (h1:ms.length=n) (h2:os.length=n):A04 ms os (i:Int)=true:=by
 unfold A04
 exact decide_eq_true (by omega)
theorem B6r {f:Nat} {x:GB} {ms:Ar} (hx:OkGM x.1) (hm:ms.length=nBx x.1):iter (Amy f) (nBx x.1+1) (Oc f x (nBx x.1) 0 ms)=some (Wb f x (An (A5v x.1) 0 (nBx x.1) ms)):=by
 have hn:(nBx x.1:Int)≤B0 .i64:=by have:=hx.n;show (nBx x.1:Int)≤9223372036854775807;omega
 refine I7 (nBx x.1) (fun i ms=>Oc f x (nBx x.1) i ms) (A5v x.1) (Wb f x) (fun _ ms=>ms.length=nBx x.1) (fun i ms hi hl=>?_) Amz (fun ms hl=>?_) (nBx x.1) 0 ms (by omega) hm
 ·show (Wa f (gb (gmU x.1 ms (gmO x.1)) (gk x)) (nBx x.1) (i:Int) ms).run=_
  have e:∀ y z,Oc f (gb (gmU x.1 ms (gmO x.1)) (gk x)) (nBx x.1) y z=Oc f x (nBx x.1) y z:=fun _ _=>rfl
  unfold Wa
  have hin:=A2y hi hl hx.os
  show Tree.run (bif decide ((i:Int)<(nBx x.1:Int)) then bif A04 ms (gmO x.1) (i:Int) then bif !C6 ms (gmO x.1) i then .leaf (.inl (Oc f x (nBx x.1) (W64 ((i:Int)+1)) ms)) else bif Fj (gmW x.1) (gmF x.1) i then .leaf (.inl (Oc f x (nBx x.1) (W64 ((i:Int)+1)) ms)) else
   inO ms.length i (szG x.1 (Amx f x (nBx x.1) i ms)) else .fail else .leaf (.inr (Amv f x ms)):TSw f)=_
  have hsz:∀ k:TSw f,szG x.1 k=k:=fun k=>by unfold szG;rw [decide_eq_true hx.sz];rfl
  rw [decide_eq_true (show (i:Int)<(nBx x.1:Int) by omega),hin,Gr (by omega),hsz,E9 hi hn]
  unfold A5v Amx
  rw [Aa3 (by omega),Aa3 (by omega),Aa3 (by omega),show Int.toNat (i:Int)=i from rfl,E9 hi hn]
  cases C6 ms (gmO x.1) i with
  | false=>rfl
  | true =>
   cases Fj (gmW x.1) (gmF x.1) i with
   | true=>rfl
   | false =>
    simp only [Bool.not_true,Bool.or_self,cond_true,cond_false]
    cases Hy (gmL x.1) (A9 ms i).1 != 0 with
    | true=>rfl
    | false =>
     simp only [cond_false]
     cases (P2 (gmL x.1) (A9 ms i)).2.1 != 0 <;> rfl
 ·show (Wa f (gb (gmU x.1 ms (gmO x.1)) (gk x)) (nBx x.1) (nBx x.1) ms).run=_
  unfold Wa
  rw [decide_eq_false (show ¬ (nBx x.1:Int)<(nBx x.1:Int) by omega)]
  rfl
end St
end V
end Go.Proofs.YtlangijnealfjaaGreat
namespace Go.Proofs.YtlangijnealfjaaGreat
open Go.RowKit
namespace V
namespace St
noncomputable def Bav (f:Nat):Ctx:=A0h Tryz.prog plGm [(129,Tryz.f129)] [((129,1),sm_sw f)] (spG f)
theorem Aui {f:Nat} (h1:Bv Tryz.prog 192 (sp_ro f)) (h2:Bv Tryz.prog 134 (sp_fl f)) (hl:Ax Tryz.prog 129 Az3 (sm_sw f)):CtxOk (Bav f) :=
 Iq Am puGm (fns_cons is_gslow A3) (Bw (by kernel_rfl) (by kernel_rfl) hl) (Kl is_rolls.plain h1 is_flies.plain h2)
def An0 (f:Nat) (x:GB):Option (A0 (Aa2 f)):=iter (Amy f) (nBx x.1+1) (Oc f x (nBx x.1) 0 (gmM x.1))
def T_slw (f:Nat) (x:GB):Tree (Dx (FE_u f)):=bif isP 39 .i64 (An0 f x) then .leaf ⟨false,pnU f (panO 39 .i64 (An0 f x)).1⟩ else bif isE (.exit 0) (An0 f x) then .leaf ⟨true,((),(C3 (.exit 0) (An0 f x)).2)⟩ else .fail
def Wc (x:GB):Option (Ar⊕Int):=bif Amu x.1 then some (An (A5v x.1) 0 (nBx x.1) (gmM x.1)) else none
def Aa4 (f:Nat) (x:GB) (ms:Ar):(FE_u f true).T:=mkU f (gb (gmU x.1 ms (gmO x.1)) (gk x))
abbrev sp_slw (f:Nat):Ah→Nat→List AV→Tree (Out×Ah×Nat):=K0 K7 (FL_g f) (FE_u f) (W8 (fun g:(FL_g f).T=>Wc g.2) (fun g=>Aa4 f g.2) (pnU f) [])
theorem Auj {f:Nat} {g:(FL_g f).T} {z:Ar⊕Int} (h:Wc g.2=some z):(T_slw f g.2).run=some (A05 (L:=FL_g f) (E:=FE_u f) (fun g=>Aa4 f g.2) (pnU f) g z):=by
 unfold Wc at h
 cases ho:Amu g.2.1 with
 | false=>rw [ho] at h;cases h
 | true =>
  rw [ho] at h
  cases h
  have hy:An0 f g.2=some (Wb f g.2 (An (A5v g.2.1) 0 (nBx g.2.1) (gmM g.2.1))):=B6r (Hz.1 ho) (Hz.1 ho).ms
  unfold T_slw
  rw [hy]
  cases An (A5v g.2.1) 0 (nBx g.2.1) (gmM g.2.1) with
  | inl ms=>rfl
  | inr e =>
   have h1:isP 39 .i64 (some (Wb f g.2 (.inr e)))=true:=Ni
   have h2:panO 39 .i64 (some (Wb f g.2 (.inr e)))=⟨e,((),())⟩:=J2
   rw [h1,h2]
   rfl
theorem An1:Bv Tryz.prog 129 (sp_slw 66):=W9 (Aui G3 G4 B1f) 6 Qa _ _ _ _ (fun g=>T_slw 66 g.2) (fun g=>by kernel_rfl) fun _ _ _ h=>Auj h
end St
end V
end Go.Proofs.YtlangijnealfjaaGreat
namespace Go.Proofs.YtlangijnealfjaaGreat
open Go.RowKit
namespace V
theorem Wd {P:Program} {f:Nat} {fn:Func} {loops:List ((Nat×Nat)×(St→Tree (XE×St)))} (h:Aj (bodyOf fn)=[]):∀ d ∈ Aj (bodyOf fn),∀ g,C9 loops f (keyOf d)=some g→Ax P f d g:=by
 intro d hd
 rw [h] at hd
 cases hd
theorem Iv {P:Program} {loops:List ((Nat×Nat)×(St→Tree (XE×St)))}:∀ q ∈ ([]:List (Nat×Func)),∀ d ∈ Aj (bodyOf q.2),∀ g,C9 loops q.1 (keyOf d)=some g→Ax P q.1 d g:=fun _ h=>nomatch h
theorem Ej {P:Program} {f:Nat} {fn:Func} {rest:List (Nat×Func)} {loops:List ((Nat×Nat)×(St→Tree (XE×St)))} (h:∀ d ∈ Aj (bodyOf fn),∀ g,C9 loops f (keyOf d)=some g→Ax P f d g)
  (hr:∀ q ∈ rest,∀ d ∈ Aj (bodyOf q.2),∀ g,C9 loops q.1 (keyOf d)=some g→Ax P q.1 d g):∀ q ∈ (f,fn)::rest,∀ d ∈ Aj (bodyOf q.2),∀ g,C9 loops q.1 (keyOf d)=some g→Ax P q.1 d g:=by
 intro q hq
 rcases List.mem_cons.1 hq with rfl | hq
 ·exact h
 ·exact hr q hq
def Az4 (P:Program) (f:Nat) (loops:List ((Nat×Nat)×(St→Tree (XE×St)))):List Code→Prop
 | []=>True
 | d::l=>(∀ g,C9 loops f (keyOf d)=some g→Ax P f d g)∧Az4 P f loops l
theorem Mg {P:Program} {f:Nat} {fn:Func} {loops:List ((Nat×Nat)×(St→Tree (XE×St)))} {ds:List Code} (h:Aj (bodyOf fn)=ds) (ha:Az4 P f loops ds):∀ d ∈ Aj (bodyOf fn),∀ g,C9 loops f (keyOf d)=some g→Ax P f d g:=by
 rw [h]
 clear h
 induction ds with
 | nil=>intro d hd;cases hd
 | cons a l ih =>
  intro d hd
  rcases List.mem_cons.1 hd with rfl | hd
  ·exact ha.1
  ·exact ih ha.2 d hd
theorem Gs {P:Program} {f:Nat} {d:Code} {loops:List ((Nat×Nat)×(St→Tree (XE×St)))} {k:Nat} {s:St→Tree (XE×St)} (hk:keyOf d=k) (ha:C9 loops f k=some s) (h:Ax P f d s):∀ g,C9 loops f (keyOf d)=some g→Ax P f d g:=by
 intro g hg
 rw [hk,ha] at hg
 cases hg
 exact h
namespace St
noncomputable def An2:Code:=(Aj (bodyOf Tryz.f130)).getD 0 .skip
def Ago (f:Nat):Lay:={ keys:=[0,12,13,14],ks:=[.p 0 0 0 0,.d (.sl A2),.d cI,.d cI],bs:=bsG f,n:=104,nx:=2000,marks:=[] }
def Baw (f:Nat):Lay:={ keys:=[0],ks:=[.p 0 0 0 0],bs:=bsG f,n:=104,nx:=2000,marks:=[] }
def B6s:Lay:={ keys:=[],ks:=[],bs:=[],n:=104,nx:=3000,marks:=[] }
def A5w (f:Nat):XE→Lay:=fun e=>match e with | .panic _=>B6s | _=>Baw f
def Qb (b:TCT A2) (m:TCT Au):TCTs [Au,cI]:=Oh (bm b m)
def Ef (bl:List (TCT A2)) (i:Nat):TCT A2:=Al bl i (Ak A2)
def A15 (f:Nat) (x:GB) (bl:List (TCT A2)) (n i:Int) (ms:Ar):(Ago f).T:=(((),bl,n,i,()),(gb (gmU x.1 ms (gmO x.1)) (gk x)))
def An3 (f:Nat) (x:GB) (ms:Ar):A0 (A5w f):=⟨.exit 0,(((),()),(gb (gmU x.1 ms (gmO x.1)) (gk x)))⟩
def Az5 (f:Nat) (e:Int):A0 (A5w f):=⟨.panic (.ifc 39 (.int .i64 e)),((),())⟩
abbrev TM1 (f:Nat):=Tree ((Ago f).T⊕A0 (A5w f))
def An4 (f:Nat) (x:GB) (bl:List (TCT A2)) (n i:Int) (ms:Ar):TM1 f:=inO ms.length i (bif (Qb (Ef bl (Int.toNat i)) (A9 ms (Int.toNat i))).2.1 != 0 then .leaf (.inr (Az5 f (Qb (Ef bl (Int.toNat i)) (A9 ms (Int.toNat i))).2.1)) else
 inO ms.length i (.leaf (.inl (A15 f x bl n (W64 (i+1)) (B9 ms (Int.toNat i) (Qb (Ef bl (Int.toNat i)) (A9 ms (Int.toNat i))).1)))))
def Aa5 (f:Nat) (x:GB) (bl:List (TCT A2)) (n i:Int) (ms:Ar):TM1 f:=bif decide (i<n) then inN bl.length i (bif A04 ms (gmO x.1) i then bif C6 ms (gmO x.1) (Int.toNat i) then An4 f x bl n i ms else .leaf (.inl (A15 f x bl n (W64 (i+1)) ms)) else .fail) else .leaf (.inr (An3 f x ms))
def An5 (f:Nat) (g:(Ago f).T):TM1 f:=Aa5 f g.2 g.1.2.1 g.1.2.2.1 g.1.2.2.2.1 (gmM g.2.1)
def fu_m1 (f:Nat) (g:(Ago f).T):Nat:=Int.toNat g.1.2.2.1+1
def sm_m1 (f:Nat):St→Tree (XE×St):=As (Ago f) (A5w f) (finP 39 .i64 [.exit 0] (An5 f) (fu_m1 f))
theorem Auk {f:Nat} (e:XE):(Ago f).nx≤(A5w f e).nx:=by cases e <;> first | exact Nat.le_refl _ | exact (by decide:(2000:Nat)≤3000)
def stE (bl:List (TCT A2)) (os:List Bool) (i:Nat) (ms:Ar):Ar⊕Int:=bif !C6 ms os i then .inl ms else bif (Qb (Ef bl i) (A9 ms i)).2.1 != 0 then .inr (Qb (Ef bl i) (A9 ms i)).2.1 else .inl (B9 ms i (Qb (Ef bl i) (A9 ms i)).1)
def S4 (f:Nat) (x:GB):Ar⊕Int→A0 (A5w f)
 | .inl ms=>An3 f x ms
 | .inr e=>Az5 f e
theorem Aa6 {bl:List (TCT A2)} {os:List Bool} {n:Nat} (i:Nat) (s s':Ar) (_:i<n) (hi:s.length=n) (h:stE bl os i s=.inl s'):s'.length=n:=by
 unfold stE at h
 cases h1:!C6 s os i with
 | true=>rw [h1] at h;cases h;exact hi
 | false =>
  rw [h1] at h
  cases h3:(Qb (Ef bl i) (A9 s i)).2.1 != 0 with
  | true=>rw [h3] at h;cases h
  | false=>rw [h3] at h;cases h;rw [C2];exact hi
theorem B6t {f:Nat} {x:GB} {ms:Ar} (hx:OkGM x.1) (hm:ms.length=nBx x.1):iter (An5 f) (nBx x.1+1) (A15 f x (gmB x.1) (nBx x.1) 0 ms)=some (S4 f x (An (stE (gmB x.1) (gmO x.1)) 0 (nBx x.1) ms)):=by
 have hn:(nBx x.1:Int)≤B0 .i64:=by have:=hx.n;show (nBx x.1:Int)≤9223372036854775807;omega
 refine I7 (nBx x.1) (fun i ms=>A15 f x (gmB x.1) (nBx x.1) i ms) (stE (gmB x.1) (gmO x.1)) (S4 f x) (fun _ ms=>ms.length=nBx x.1) (fun i ms hi hl=>?_) Aa6 (fun ms hl=>?_) (nBx x.1) 0 ms (by omega) hm
 ·show Tree.run (bif decide ((i:Int)<(nBx x.1:Int)) then inN (nBx x.1) i (bif A04 ms (gmO x.1) i then bif C6 ms (gmO x.1) i then An4 f x (gmB x.1) (nBx x.1) i ms else .leaf (.inl (A15 f x (gmB x.1) (nBx x.1) (W64 ((i:Int)+1)) ms)) else .fail) else .leaf (.inr (An3 f x ms)):TM1 f)=_
  rw [decide_eq_true (show (i:Int)<(nBx x.1:Int) by omega),Ea (by omega),A2y hi hl hx.os,E9 hi hn]
  unfold stE An4
  rw [Gr (by omega),Gr (by omega),show Int.toNat (i:Int)=i from rfl,E9 hi hn]
  cases C6 ms (gmO x.1) i with
  | false=>rfl
  | true =>
   simp only [Bool.not_true,cond_true,cond_false]
   cases (Qb (Ef (gmB x.1) i) (A9 ms i)).2.1 != 0 <;> rfl
 ·show (Aa5 f (gb (gmU x.1 ms (gmO x.1)) (gk x)) (gmB x.1) (nBx x.1) (nBx x.1) ms).run=_
  unfold Aa5
  rw [decide_eq_false (show ¬ (nBx x.1:Int)<(nBx x.1:Int) by omega)]
  rfl
noncomputable def An6:Code:=(Aj (bodyOf Tryz.f130)).getD 1 .skip
def Agp (f:Nat):Lay:={ keys:=[0,52,53],ks:=[.p 0 0 0 0,.d cI,.d cI],bs:=bsG f,n:=104,nx:=3000,marks:=[] }
def Bax (f:Nat):Lay:={ keys:=[],ks:=[],bs:=bsG f,n:=104,nx:=3000,marks:=[] }
def Aa7 (f:Nat):XE→Lay:=fun e=>match e with | .panic _=>B6s | _=>Bax f
abbrev S2:Type:=Ar×List Bool×Kns
def kn (t s k b o:Int):TCT cKn:=(t,s,k,b,o,())
def B6u (m:TCT Au):TCT Au:=(m.1,(0,0,()),m.2.2.1,())
def A16 (f:Nat) (x:GB) (n i:Int) (s:S2):(Agp f).T:=(((),n,i,()),(gb (gmU x.1 s.1 s.2.1) s.2.2))
def An7 (f:Nat) (x:GB) (s:S2):A0 (Aa7 f):=⟨.exit 2,((),(gb (gmU x.1 s.1 s.2.1) s.2.2))⟩
abbrev TM2 (f:Nat):=Tree ((Agp f).T⊕A0 (Aa7 f))
def Agq {β:Type} (ks:Kns) (k:TCT cKn) (t:Kns→Tree β):Tree β:=bif D4 ks [k] 40 then t (ks++[k]) else .fail
def We (f:Nat) (x:GB) (n i:Int) (ms:Ar) (os:List Bool) (ks:Kns):TM2 f:=bif decide (i<n) then inO os.length i (bif !Al os (Int.toNat i) (Ak .b) then inO ms.length i (
 bif !onB (gmL x.1) (A9 ms (Int.toNat i)).1 then inO os.length i (inO ms.length i (Agq ks (kn (gmT x.1) (gmS x.1) 2 i 0) fun ks'=>.leaf (.inl (A16 f x n (W64 (i+1)) (B9 ms (Int.toNat i) (B6u (A9 ms (Int.toNat i))),B9 os (Int.toNat i) true,ks')))))
 else .leaf (.inl (A16 f x n (W64 (i+1)) (ms,os,ks)))) else .leaf (.inl (A16 f x n (W64 (i+1)) (ms,os,ks)))) else .leaf (.inr (An7 f x (ms,os,ks)))
def An8 (f:Nat) (g:(Agp f).T):TM2 f:=We f g.2 g.1.2.1 g.1.2.2.1 (gmM g.2.1) (gmO g.2.1) (gk g.2)
def fu_m2 (f:Nat) (g:(Agp f).T):Nat:=Int.toNat g.1.2.1+1
def sm_m2 (f:Nat):St→Tree (XE×St):=As (Agp f) (Aa7 f) (De [.exit 2] (An8 f) (fu_m2 f))
theorem Aul {f:Nat} (e:XE):(Agp f).nx≤(Aa7 f e).nx:=by cases e <;> exact Nat.le_refl _
noncomputable def Bay (f:Nat) (c:Nat×Func):Ctx:=A0h Tryz.prog plGm [(73,Tryz.f73),(136,Tryz.f136),c] [] (spG f)
theorem Lb {f:Nat} {c:Nat×Func} (hc:FnIs Tryz.prog c) (h1:Bv Tryz.prog 192 (sp_ro f)) (h2:Bv Tryz.prog 134 (sp_fl f)):CtxOk (Bay f c):=Iq Am puGm (fns_cons is_must (fns_cons is_knock (fns_cons hc A3))) Nl (Kl is_rolls.plain h1 is_flies.plain h2)
theorem B1g:Ax Tryz.prog 130 An2 (sm_m1 66):=O8 (Lb is_Tick1 G3 G4) 7 _ _ _ Auk _ _ _ _ (fu_m1 66) (fun g=>by kernel_rfl)
theorem B1h:Ax Tryz.prog 130 An6 (sm_m2 66):=Bo (Lb is_Tick1 G3 G4) 7 _ _ _ Aul _ _ (fu_m2 66) (fun g=>by kernel_rfl)
def lvE (l:TCT A8) (t st:Int) (i:Nat) (s:S2):S2⊕Int:=bif !Al s.2.1 i (Ak .b) then bif !onB l (A9 s.1 i).1 then .inl (B9 s.1 i (B6u (A9 s.1 i)),B9 s.2.1 i true,s.2.2++[kn t st 2 i 0]) else .inl s else .inl s
def Aa8 (f:Nat) (x:GB):S2⊕Int→A0 (Aa7 f)
 | .inl s=>An7 f x s
 | .inr _=>An7 f x ([],[],[])
structure Inv2 (n k:Nat) (i:Nat) (s:S2):Prop where
 m:s.1.length=n
 o:s.2.1.length=n
 k:s.2.2.length≤k+i
theorem An9 {l:TCT A8} {t st:Int} {n k:Nat} (i:Nat) (s s':S2) (_:i<n) (hi:Inv2 n k i s) (h:lvE l t st i s=.inl s'):Inv2 n k (i+1) s':=by
 unfold lvE at h
 have hk:=hi.k
 cases h1:!Al s.2.1 i (Ak .b) with
 | false=>rw [h1] at h;cases h;exact ⟨hi.m,hi.o,by omega⟩
 | true =>
  rw [h1] at h
  cases h3:!onB l (A9 s.1 i).1 with
  | false=>rw [h3] at h;cases h;exact ⟨hi.m,hi.o,by omega⟩
  | true=>rw [h3] at h;cases h;exact ⟨by rw [C2];exact hi.m,by rw [C2];exact hi.o,by simp;omega⟩
theorem B6v {f:Nat} {x:GB} {s:S2} {n k:Nat} (hn8:n≤8) (hk:k≤900000) (hs:Inv2 n k 0 s):iter (An8 f) (n+1) (A16 f x n 0 s)=some (Aa8 f x (An (lvE (gmL x.1) (gmT x.1) (gmS x.1)) 0 n s)):=by
 have hn:(n:Int)≤B0 .i64:=by show (n:Int)≤9223372036854775807;omega
 refine I7 n (fun i s=>A16 f x n i s) (lvE (gmL x.1) (gmT x.1) (gmS x.1)) (Aa8 f x) (Inv2 n k) (fun i s hi hl=>?_) An9 (fun s hl=>?_) n 0 s (by omega) hs
 ·show (We f (gb (gmU x.1 s.1 s.2.1) s.2.2) n i s.1 s.2.1 s.2.2).run=_
  unfold We lvE Agq
  have h1:=hl.m
  have h2:=hl.o
  have h3:=hl.k
  rw [decide_eq_true (show (i:Int)<(n:Int) by omega),Gr (by omega),Gr (by omega),Gr (by omega),Gr (by omega),show Int.toNat (i:Int)=i from rfl,E9 hi hn,H9 (by simp;omega) (by decide)]
  cases Al s.2.1 i (Ak .b) with
  | true=>rfl
  | false =>
   show (bif !onB (gmL x.1) (A9 s.1 i).1 then _ else _:TM2 f).run=_
   simp only [Bool.not_false,cond_true]
   cases onB (gmL x.1) (A9 s.1 i).1 <;> rfl
 ·show (We f (gb (gmU x.1 s.1 s.2.1) s.2.2) n n s.1 s.2.1 s.2.2).run=_
  unfold We
  rw [decide_eq_false (show ¬ (n:Int)<(n:Int) by omega)]
  rfl
end St
end V
end Go.Proofs.YtlangijnealfjaaGreat
namespace Go.Proofs.YtlangijnealfjaaGreat
open Go.RowKit
namespace V
theorem S5 {S B:Type} {f:Nat→S→S⊕B} (h:∀ i s,∃ s',f i s=.inl s'):∀ (k i:Nat) (s:S),∃ s',An f i k s=.inl s'
 | 0,_,s=>⟨s,rfl⟩
 | k+1,i,s=>by
  obtain ⟨s',hs⟩:=h i s
  unfold An
  rw [hs]
  exact S5 h k (i+1) s'
namespace St
theorem Adp {l:TCT A8} {t st:Int} (i:Nat) (s:S2):∃ s',lvE l t st i s=.inl s':=by
 unfold lvE
 cases !Al s.2.1 i (Ak .b) with
 | false=>exact ⟨_,rfl⟩
 | true=>cases !onB l (A9 s.1 i).1 <;> exact ⟨_,rfl⟩
noncomputable def Baz (f:Nat):Ctx:=A0h Tryz.prog plGm [(130,Tryz.f130)] [((130,1),sm_m1 f),((130,9),sm_m2 f)] (spG f)
theorem Aum {f:Nat} (h1:Bv Tryz.prog 192 (sp_ro f)) (h2:Bv Tryz.prog 134 (sp_fl f)) (hl:Ax Tryz.prog 130 An2 (sm_m1 f)) (hm:Ax Tryz.prog 130 An6 (sm_m2 f)):CtxOk (Baz f) :=
 Iq Am puGm (fns_cons is_gmove A3) (Ej (Mg (ds:=[An2,An6]) (by kernel_rfl) ⟨Gs (k:=1) (by kernel_rfl) rfl hl,Gs (k:=9) (by kernel_rfl) rfl hm,trivial⟩) Iv) (Kl is_rolls.plain h1 is_flies.plain h2)
def mvF (bl:List (TCT A2)) (l:TCT A8) (t st:Int) (n:Nat) (s:S2):S2⊕Int:=match An (stE bl s.2.1) 0 n s.1 with
 | .inl ms=>An (lvE l t st) 0 n (ms,s.2.1,s.2.2)
 | .inr e=>.inr e
def gs (x:GB):S2:=(gmM x.1,gmO x.1,gk x)
def B6w (f:Nat) (x:GB):Option (A0 (A5w f)):=iter (An5 f) (nBx x.1+1) (A15 f x (gmB x.1) (nBx x.1) 0 (gmM x.1))
def B1i (f:Nat) (x:GB):Option (A0 (Aa7 f)):=iter (An8 f) (nBx x.1+1) (A16 f x (nBx x.1) 0 (gs x))
abbrev TU (f:Nat):=Tree (Dx (FE_u f))
def Az6 (f:Nat) (y:Option (A0 (Aa7 f))):TU f:=bif isE (.exit 2) y then .leaf ⟨true,((),(C3 (.exit 2) y).2)⟩ else .fail
def Ana (f:Nat) (y:Option (A0 (A5w f))):TU f:=bif isP 39 .i64 y then .leaf ⟨false,pnU f (panO 39 .i64 y).1⟩ else bif isE (.exit 0) y then Az6 f (B1i f (C3 (.exit 0) y).2) else .fail
def T_mv (f:Nat) (x:GB):TU f:=Ana f (B6w f x)
def S7 (x:GB):Bool:=Amu x.1&&decide ((gk x).length≤900000)
def A5x (x:GB):Option (S2⊕Int):=bif S7 x then some (mvF (gmB x.1) (gmL x.1) (gmT x.1) (gmS x.1) (nBx x.1) (gs x)) else none
def Anb (f:Nat) (x:GB) (s:S2):(FE_u f true).T:=mkU f (gb (gmU x.1 s.1 s.2.1) s.2.2)
abbrev sp_mv (f:Nat):Ah→Nat→List AV→Tree (Out×Ah×Nat):=K0 K7 (FL_g f) (FE_u f) (W8 (fun g:(FL_g f).T=>A5x g.2) (fun g=>Anb f g.2) (pnU f) ([],[],[]))
theorem Wg {x:GB} (h:S7 x=true):OkGM x.1∧(gk x).length≤900000:=by
 unfold S7 at h
 simp only [Bool.and_eq_true,decide_eq_true_eq] at h
 exact ⟨Hz.1 h.1,h.2⟩
theorem B1j {f:Nat} {g:(FL_g f).T} {z:S2⊕Int} (h:A5x g.2=some z):(T_mv f g.2).run=some (A05 (L:=FL_g f) (E:=FE_u f) (fun g=>Anb f g.2) (pnU f) g z):=by
 unfold A5x at h
 cases ho:S7 g.2 with
 | false=>rw [ho] at h;cases h
 | true =>
  rw [ho] at h
  cases h
  obtain ⟨hg,hk⟩:=Wg ho
  have hy:B6w f g.2=some (S4 f g.2 (An (stE (gmB g.2.1) (gmO g.2.1)) 0 (nBx g.2.1) (gmM g.2.1))):=B6t hg hg.ms
  unfold T_mv mvF
  rw [hy]
  show (Ana f (some (S4 f g.2 (An (stE (gmB g.2.1) (gmO g.2.1)) 0 (nBx g.2.1) (gmM g.2.1))))).run=some (A05 (L:=FL_g f) (E:=FE_u f) (fun g=>Anb f g.2) (pnU f) g (match An (stE (gmB g.2.1) (gmO g.2.1)) 0 (nBx g.2.1) (gmM g.2.1) with
   | .inl ms=>An (lvE (gmL g.2.1) (gmT g.2.1) (gmS g.2.1)) 0 (nBx g.2.1) (ms,gmO g.2.1,gk g.2)
   | .inr e=>.inr e))
  cases h1:An (stE (gmB g.2.1) (gmO g.2.1)) 0 (nBx g.2.1) (gmM g.2.1) with
  | inr e =>
   have h1:isP 39 .i64 (some (S4 f g.2 (.inr e)))=true:=Ni
   have h2:panO 39 .i64 (some (S4 f g.2 (.inr e)))=⟨e,((),())⟩:=J2
   unfold Ana
   rw [h1,h2]
   rfl
  | inl ms =>
   have hms:ms.length=nBx g.2.1:=Az (n:=nBx g.2.1) (Inv:=fun _ (s:Ar)=>s.length=nBx g.2.1) Aa6 (nBx g.2.1) 0 _ _ (by omega) hg.ms h1
   have hz:B1i f (gb (gmU g.2.1 ms (gmO g.2.1)) (gk g.2))=some (Aa8 f (gb (gmU g.2.1 ms (gmO g.2.1)) (gk g.2)) (An (lvE (gmL g.2.1) (gmT g.2.1) (gmS g.2.1)) 0 (nBx g.2.1) (ms,gmO g.2.1,gk g.2))) :=
    B6v (n:=nBx g.2.1) (x:=gb (gmU g.2.1 ms (gmO g.2.1)) (gk g.2)) (s:=(ms,gmO g.2.1,gk g.2)) (k:=(gk g.2).length) hg.n hk ⟨hms,hg.os,by simp⟩
   show (Az6 f (B1i f (gb (gmU g.2.1 ms (gmO g.2.1)) (gk g.2)))).run=some (A05 (L:=FL_g f) (E:=FE_u f) (fun g=>Anb f g.2) (pnU f) g (An (lvE (gmL g.2.1) (gmT g.2.1) (gmS g.2.1)) 0 (nBx g.2.1) (ms,gmO g.2.1,gk g.2)))
   rw [hz]
   obtain ⟨s',hs'⟩:=S5 (Adp (l:=gmL g.2.1) (t:=gmT g.2.1) (st:=gmS g.2.1)) (nBx g.2.1) 0 (ms,gmO g.2.1,gk g.2)
   rw [hs']
   rfl
theorem Aun:Bv Tryz.prog 130 (sp_mv 66):=W9 (Aum G3 G4 B1g B1h) 6 Qa _ _ _ _ (fun g=>T_mv 66 g.2) (fun g=>by kernel_rfl) fun _ _ _ h=>B1j h
end St
end V
end Go.Proofs.YtlangijnealfjaaGreat
namespace Go.Proofs.YtlangijnealfjaaGreat
open Go.RowKit
namespace V
def S8 (n:Nat) (p:TCT Gz):Prop:=0≤p.1∧p.1<p.2.1∧p.2.1<(n:Int)
theorem Anc {l:List (TCT A2)} {re dr:Int} {i k n:Nat} {s s':SS} (h:Ed l re dr i k s=some s') (hik:i<k) (hk:k<n) (hs:∀ p ∈ s.2,S8 n p):∀ p ∈ s'.2,S8 n p:=by
 unfold Ed at h
 cases h1:(Bj (bAt l s.1 i) (bAt l s.1 k) re dr).2.2.1==0 with
 | true =>
  rw [h1] at h
  simp only [cond_true,Option.some.injEq] at h
  subst h
  intro p hp
  rcases List.mem_append.1 hp with hp | hp
  ·exact hs p hp
  ·rw [List.mem_singleton] at hp
   subst hp
   exact ⟨Int.natCast_nonneg i,Int.ofNat_lt.2 hik,Int.ofNat_lt.2 hk⟩
 | false =>
  rw [h1,cond_false] at h
  cases h2:(Bj (bAt l s.1 i) (bAt l s.1 k) re dr).2.2.1==4 with
  | true=>rw [h2] at h;simp at h
  | false=>rw [h2] at h;simp only [cond_false,Option.some.injEq] at h;subst h;exact hs
theorem And {l:List (TCT A2)} {re dr:Int} {i n:Nat}:∀ (f k:Nat) (s s':SS),inR l re dr i f k s=some s'→i<k→k+f≤n→(∀ p ∈ s.2,S8 n p)→∀ p ∈ s'.2,S8 n p
 | 0,k,s,s',h,_,_,hs=>by rw [inR,Option.some.injEq] at h;subst h;exact hs
 | f+1,k,s,s',h,hik,hk,hs=>by
  rw [inR] at h
  cases h1:Ed l re dr i k s with
  | none=>rw [h1] at h;simp at h
  | some s1 =>
   rw [h1,Option.bind_some] at h
   exact And f (k+1) s1 s' h (by omega) (by omega) (Anc h1 hik (by omega) hs)
theorem Adq {l:List (TCT A2)} {re dr:Int}:∀ (f i:Nat) (s s':SS),Hd l re dr f i s=some s'→i+f=l.length→(∀ p ∈ s.2,S8 l.length p)→(∀ p ∈ s'.2,S8 l.length p)∧s'.1.length=s.1.length∧s'.2.length≤s.2.length+f*l.length
 | 0,i,s,s',h,_,hs=>by rw [Iw,Option.some.injEq] at h;subst h;exact ⟨hs,rfl,by omega⟩
 | f+1,i,s,s',h,hi,hs=>by
  rw [He] at h
  cases h1:inR l re dr i (l.length-(i+1)) (i+1) s with
  | none=>rw [h1] at h;simp at h
  | some s1 =>
   rw [h1,Option.bind_some] at h
   have a:=Aek _ _ _ _ h1
   have b:=Adq f (i+1) s1 s' h (by omega) (And _ _ _ _ h1 (by omega) (by omega) hs)
   refine ⟨b.1,b.2.1.trans a.1,?_⟩
   have e:(f+1)*l.length=f*l.length+l.length:=Nat.succ_mul f l.length
   omega
theorem Agr {l:List (TCT A2)} {s:List (TCT Au)} {re dr:Int} (h:(Bi l s re dr).2.2.1=0) (hl:l.length≤8):(Bi l s re dr).1.length=s.length∧(Bi l s re dr).2.1.length≤64∧∀ p ∈ (Bi l s re dr).2.1,S8 l.length p:=by
 unfold Bi at h ⊢
 cases h1:Kn l s != 0 with
 | true=>rw [h1,cond_true] at h;exact absurd h (bne_iff_ne.1 h1)
 | false =>
  rw [h1,cond_false] at h
  simp only [cond_false]
  cases h2:!Gl re dr with
  | true=>rw [h2] at h;cases h
  | false =>
   rw [h2,cond_false] at h
   simp only [cond_false]
   cases h3:Hd l re dr l.length 0 (s,[]) with
   | none=>rw [h3] at h;cases h
   | some s' =>
    have a:=Adq _ _ _ _ h3 (by omega) (fun p hp=>nomatch hp)
    refine ⟨a.2.1,?_,a.1⟩
    have b:s'.2.length≤0+l.length*l.length:=a.2.2
    have c:l.length*l.length≤8*8:=Nat.mul_le_mul hl hl
    show s'.2.length≤64
    omega
end V
end Go.Proofs.YtlangijnealfjaaGreat
namespace Go.Proofs.YtlangijnealfjaaGreat
open Go.RowKit
namespace V
def unE {S:Type}:S⊕Empty→S
 | .inl s=>s
 | .inr e=>nomatch e
theorem I8 {S:Type} (x:S⊕Empty):x=.inl (unE x):=by
 cases x with
 | inl s=>rfl
 | inr e=>exact nomatch e
namespace St
abbrev kI:SK:=.o 3 cI
abbrev kBa:SK:=.o 68 A2
abbrev kMo:SK:=.o 84 Au
noncomputable def Ane:Code:=(Aj (bodyOf Tryz.f74)).getD 0 .skip
noncomputable def Anf:Code:=(Aj (bodyOf Tryz.f74)).getD 1 .skip
noncomputable def Ang:Code:=(Aj (bodyOf Tryz.f74)).getD 2 .skip
def Ags (f:Nat):Lay:={ keys:=[0,2,3,4,18,19,20],ks:=[.p 0 0 0 0,kI,kBa,kMo,.d (.sl A2),.d cI,.d cI],bs:=bsG f,n:=113,nx:=2000,marks:=[] }
def Bb0 (f:Nat):Lay:={ keys:=[0,2,3,4],ks:=[.p 0 0 0 0,kI,kBa,kMo],bs:=bsG f,n:=113,nx:=2000,marks:=[] }
def Aa9 (f:Nat):XE→Lay:=fun _=>Bb0 f
abbrev GA:Type:=List Int×List (TCT A2)×Ar
def Qc (f:Nat) (x:GB) (bl:List (TCT A2)) (n i:Int) (s:GA):(Ags f).T:=(((),s.1,s.2.1,s.2.2,bl,n,i,()),x)
def A5y (f:Nat) (x:GB) (s:GA):A0 (Aa9 f):=⟨.exit 0,(((),s.1,s.2.1,s.2.2,()),x)⟩
abbrev TS1 (f:Nat):=Tree ((Ags f).T⊕A0 (Aa9 f))
def ap8 {β:Type} (w:List Int) (i:Int) (k:Tree β):Tree β:=bif D4 w [i] 8 then k else .fail
def Auo {β:Type} (w:List (TCT A2)) (i:TCT A2) (k:Tree β):Tree β:=bif D4 w [i] 16 then k else .fail
def Aup {β:Type} (w:Ar) (i:TCT Au) (k:Tree β):Tree β:=bif D4 w [i] 48 then k else .fail
theorem B1k {β:Type} {w:List Int} {i:Int} {k:Tree β} (h:w.length≤1000):ap8 w i k=k:=by unfold ap8;rw [H9 (by simp;omega) (by decide)];rfl
theorem Auq {β:Type} {w:List (TCT A2)} {i:TCT A2} {k:Tree β} (h:w.length≤1000):Auo w i k=k:=by unfold Auo;rw [H9 (by simp;omega) (by decide)];rfl
theorem Aur {β:Type} {w:Ar} {i:TCT Au} {k:Tree β} (h:w.length≤1000):Aup w i k=k:=by unfold Aup;rw [H9 (by simp;omega) (by decide)];rfl
def ga1 (i:Int) (b:TCT A2) (m:TCT Au) (s:GA):GA:=(s.1++[i],s.2.1++[b],s.2.2++[m])
def Aaa (f:Nat) (x:GB) (bl:List (TCT A2)) (n i:Int) (s:GA):TS1 f:=bif decide (i<n) then inN bl.length i (inO (gmO x.1).length i (
 bif !Al (gmO x.1) (Int.toNat i) (Ak .b) then bif !Fj (gmW x.1) (gmF x.1) i then inO (gmM x.1).length i (ap8 s.1 i (Auo s.2.1 (Ef bl (Int.toNat i)) (Aup s.2.2 (A9 (gmM x.1) (Int.toNat i))
  (.leaf (.inl (Qc f x bl n (W64 (i+1)) (ga1 i (Ef bl (Int.toNat i)) (A9 (gmM x.1) (Int.toNat i)) s)))))))
 else .leaf (.inl (Qc f x bl n (W64 (i+1)) s)) else .leaf (.inl (Qc f x bl n (W64 (i+1)) s)))) else .leaf (.inr (A5y f x s))
def Anh (f:Nat) (g:(Ags f).T):TS1 f:=Aaa f g.2 g.1.2.2.2.2.1 g.1.2.2.2.2.2.1 g.1.2.2.2.2.2.2.1 (g.1.2.1,g.1.2.2.1,g.1.2.2.2.1)
def fu_s1 (f:Nat) (g:(Ags f).T):Nat:=Int.toNat g.1.2.2.2.2.2.1+1
def sm_s1 (f:Nat):St→Tree (XE×St):=As (Ags f) (Aa9 f) (De [.exit 0] (Anh f) (fu_s1 f))
theorem Aus {f:Nat} (e:XE):(Ags f).nx≤(Aa9 f e).nx:=Nat.le_refl _
def gaE (bl:List (TCT A2)) (ms:Ar) (os:List Bool) (w fl:Int) (i:Nat) (s:GA):GA⊕Empty:=.inl (bif !Al os i (Ak .b)&&!Fj w fl i then ga1 i (Ef bl i) (A9 ms i) s else s)
def gaV (bl:List (TCT A2)) (w fl:Int) (n:Nat) (ms:Ar) (os:List Bool):GA:=unE (An (gaE bl ms os w fl) 0 n ([],[],[]))
structure InvG (n i:Nat) (s:GA):Prop where
 b:s.2.1.length=s.1.length
 m:s.2.2.length=s.1.length
 k:s.1.length≤i
 r:∀ w ∈ s.1,0≤w∧w<(n:Int)
theorem Aab {bl:List (TCT A2)} {ms:Ar} {os:List Bool} {w fl:Int} {n:Nat} (i:Nat) (s s':GA) (hi:i<n) (h:InvG n i s) (h2:gaE bl ms os w fl i s=.inl s'):InvG n (i+1) s':=by
 unfold gaE at h2
 have hb:=h.b
 have hm:=h.m
 have hk:=h.k
 cases hc:!Al os i (Ak .b)&&!Fj w fl i with
 | false =>
  rw [hc] at h2
  simp only [cond_false,Sum.inl.injEq] at h2
  subst h2
  exact ⟨hb,hm,by omega,h.r⟩
 | true =>
  rw [hc] at h2
  simp only [cond_true,Sum.inl.injEq] at h2
  subst h2
  refine ⟨by simp [ga1,hb],by simp [ga1,hm],by simp [ga1];omega,fun v hv=>?_⟩
  rcases List.mem_append.1 hv with hv | hv
  ·exact h.r v hv
  ·rw [List.mem_singleton] at hv;subst hv;omega
theorem Adr {bl:List (TCT A2)} {w fl:Int} {n:Nat} {ms:Ar} {os:List Bool}:InvG n n (gaV bl w fl n ms os) :=
 Az (n:=n) (Inv:=InvG n) Aab n 0 _ _ (by omega) ⟨rfl,rfl,Nat.le_refl _,fun _ h=>absurd h List.not_mem_nil⟩ (I8 (An (gaE bl ms os w fl) 0 n ([],[],[])))
def B1l (f:Nat) (x:GB) (r:GA⊕Empty):A0 (Aa9 f):=A5y f x (unE r)
theorem B6x {f:Nat} {x:GB} (hx:OkGM x.1):iter (Anh f) (nBx x.1+1) (Qc f x (gmB x.1) (nBx x.1) 0 ([],[],[]))=some (A5y f x (gaV (gmB x.1) (gmW x.1) (gmF x.1) (nBx x.1) (gmM x.1) (gmO x.1))):=by
 have hn8:=hx.n
 have hos:=hx.os
 have hms:=hx.ms
 have hn:(nBx x.1:Int)≤B0 .i64:=by show (nBx x.1:Int)≤9223372036854775807;omega
 refine I7 (nBx x.1) (fun i s=>Qc f x (gmB x.1) (nBx x.1) i s) (gaE (gmB x.1) (gmM x.1) (gmO x.1) (gmW x.1) (gmF x.1)) (B1l f x) (InvG (nBx x.1)) (fun i s hi hl=>?_) Aab (fun s hl=>?_) (nBx x.1) 0 ([],[],[]) (by omega) ⟨rfl,rfl,Nat.le_refl _,fun _ h=>absurd h List.not_mem_nil⟩
 ·show Tree.run (bif decide ((i:Int)<(nBx x.1:Int)) then inN (nBx x.1) i (inO (gmO x.1).length i (
   bif !Al (gmO x.1) i (Ak .b) then bif !Fj (gmW x.1) (gmF x.1) i then inO (gmM x.1).length i (ap8 s.1 i (Auo s.2.1 (Ef (gmB x.1) i) (Aup s.2.2 (A9 (gmM x.1) i)
    (.leaf (.inl (Qc f x (gmB x.1) (nBx x.1) (W64 (i+1)) (ga1 i (Ef (gmB x.1) i) (A9 (gmM x.1) i) s)))))))
   else .leaf (.inl (Qc f x (gmB x.1) (nBx x.1) (W64 (i+1)) s)) else .leaf (.inl (Qc f x (gmB x.1) (nBx x.1) (W64 (i+1)) s)))) else .leaf (.inr (A5y f x s)):TS1 f)=_
  have h1:=hl.b
  have h2:=hl.m
  have h3:=hl.k
  rw [decide_eq_true (show (i:Int)<(nBx x.1:Int) by omega),Ea (by omega),Gr (by omega),Gr (by omega),B1k (by omega),Auq (by omega),Aur (by omega),E9 hi hn]
  unfold gaE
  cases Al (gmO x.1) i (Ak .b) with
  | true=>rfl
  | false=>cases Fj (gmW x.1) (gmF x.1) i <;> rfl
 ·show (Aaa f x (gmB x.1) (nBx x.1) (nBx x.1) s).run=_
  unfold Aaa
  rw [decide_eq_false (show ¬ (nBx x.1:Int)<(nBx x.1:Int) by omega)]
  rfl
def Agt (f:Nat):Lay:={ keys:=[0,2,4,7,75,76,77],ks:=[.p 0 0 0 0,.d (.sl cI),.d (.sl Au),.d (.sl Gz),.d (.sl cI),.d cI,.d cI],bs:=bsG f,n:=113,nx:=3000,marks:=[] }
def Bb1 (f:Nat):Lay:={ keys:=[0,2,7],ks:=[.p 0 0 0 0,.d (.sl cI),.d (.sl Gz)],bs:=bsG f,n:=113,nx:=3000,marks:=[] }
def Aac (f:Nat):XE→Lay:=fun _=>Bb1 f
abbrev Prs:Type:=List (TCT Gz)
def Ads (f:Nat) (x:GB) (W:List Int) (M:Ar) (P:Prs) (W2:List Int) (n i:Int) (ms:Ar):(Agt f).T:=(((),W,M,P,W2,n,i,()),gb (gmU x.1 ms (gmO x.1)) (gk x))
def Ani (f:Nat) (x:GB) (W:List Int) (P:Prs) (ms:Ar):A0 (Aac f):=⟨.exit 2,(((),W,P,()),gb (gmU x.1 ms (gmO x.1)) (gk x))⟩
abbrev TS2 (f:Nat):=Tree ((Agt f).T⊕A0 (Aac f))
def Wh (f:Nat) (x:GB) (W:List Int) (M:Ar) (P:Prs) (W2:List Int) (n i:Int) (ms:Ar):TS2 f:=bif decide (i<n) then inN W2.length i (inN M.length i (inO ms.length (Al W2 (Int.toNat i) (Ak cI)) (
 .leaf (.inl (Ads f x W M P W2 n (W64 (i+1)) (B9 ms (Int.toNat (Al W2 (Int.toNat i) (Ak cI))) (A9 M (Int.toNat i)))))))) else .leaf (.inr (Ani f x W P ms))
def Anj (f:Nat) (g:(Agt f).T):TS2 f:=Wh f g.2 g.1.2.1 g.1.2.2.1 g.1.2.2.2.1 g.1.2.2.2.2.1 g.1.2.2.2.2.2.1 g.1.2.2.2.2.2.2.1 (gmM g.2.1)
def fu_s2 (f:Nat) (g:(Agt f).T):Nat:=Int.toNat g.1.2.2.2.2.2.1+1
def sm_s2 (f:Nat):St→Tree (XE×St):=As (Agt f) (Aac f) (De [.exit 2] (Anj f) (fu_s2 f))
theorem Aut {f:Nat} (e:XE):(Agt f).nx≤(Aac f e).nx:=Nat.le_refl _
def scE (W:List Int) (M:Ar) (i:Nat) (ms:Ar):Ar⊕Empty:=.inl (B9 ms (Int.toNat (Al W i (Ak cI))) (A9 M i))
def scV (W:List Int) (M ms:Ar):Ar:=unE (An (scE W M) 0 W.length ms)
theorem Ank {W:List Int} {M:Ar} {n k:Nat} (i:Nat) (s s':Ar) (_:i<n) (h:s.length=k) (h2:scE W M i s=.inl s'):s'.length=k:=by
 cases h2
 rw [C2];exact h
theorem Adt {W:List Int} {M ms:Ar}:(scV W M ms).length=ms.length :=
 Az (n:=W.length) (Inv:=fun _ (s:Ar)=>s.length=ms.length) Ank W.length 0 ms _ (by omega) rfl (I8 (An (scE W M) 0 W.length ms))
def B1m (f:Nat) (x:GB) (W:List Int) (P:Prs) (r:Ar⊕Empty):A0 (Aac f):=Ani f x W P (unE r)
theorem B6y {f:Nat} {x:GB} {W:List Int} {M:Ar} {P:Prs} {ms:Ar} {n:Nat} (hW:∀ w ∈ W,0≤w∧w<(n:Int)) (hM:M.length=W.length) (hms:ms.length=n) (hl:W.length≤1000) :
  iter (Anj f) (W.length+1) (Ads f x W M P W W.length 0 ms)=some (Ani f x W P (scV W M ms)):=by
 have hn:(W.length:Int)≤B0 .i64:=by show (W.length:Int)≤9223372036854775807;omega
 refine I7 W.length (fun i s=>Ads f x W M P W W.length i s) (scE W M) (B1m f x W P) (fun _ s=>s.length=n) (fun i s hi hs=>?_) Ank (fun s hs=>?_) W.length 0 ms (by omega) hms
 ·show (Wh f (gb (gmU x.1 s (gmO x.1)) (gk x)) W M P W W.length i s).run=_
  have hw:=hW (Al W i (Ak cI)) (by rw [D2 hi];exact List.getElem_mem hi)
  unfold Wh
  rw [decide_eq_true (show (i:Int)<(W.length:Int) by omega),Ea (by omega),Ea (by omega),show Int.toNat (i:Int)=i from rfl,Gr (by omega),E9 hi hn]
  rfl
 ·show (Wh f (gb (gmU x.1 s (gmO x.1)) (gk x)) W M P W W.length W.length s).run=_
  unfold Wh
  rw [decide_eq_false (show ¬ (W.length:Int)<(W.length:Int) by omega)]
  rfl
def Agu (f:Nat):Lay:={ keys:=[0,2,94,95,96],ks:=[.p 0 0 0 0,.d (.sl cI),.d (.sl Gz),.d cI,.d cI],bs:=bsG f,n:=113,nx:=4000,marks:=[] }
def Bb2 (f:Nat):Lay:={ keys:=[],ks:=[],bs:=bsG f,n:=113,nx:=4000,marks:=[] }
def Aad (f:Nat):XE→Lay:=fun _=>Bb2 f
def Adu (f:Nat) (x:GB) (W:List Int) (P:Prs) (n i:Int) (ks:Kns):(Agu f).T:=(((),W,P,n,i,()),gb x.1 ks)
def Anl (f:Nat) (x:GB) (ks:Kns):A0 (Aad f):=⟨.exit 4,((),gb x.1 ks)⟩
abbrev TS3 (f:Nat):=Tree ((Agu f).T⊕A0 (Aad f))
def Km (P:Prs) (i:Nat):TCT Gz:=Al P i (Ak Gz)
def knP (t st:Int) (W:List Int) (p:TCT Gz):TCT cKn:=kn t st 0 (Al W (Int.toNat p.1) (Ak cI)) (Al W (Int.toNat p.2.1) (Ak cI))
def Wi (f:Nat) (x:GB) (W:List Int) (P:Prs) (n i:Int) (ks:Kns):TS3 f:=bif decide (i<n) then inN P.length i (inN W.length (Km P (Int.toNat i)).1 (inN W.length (Km P (Int.toNat i)).2.1 (
 Agq ks (knP (gmT x.1) (gmS x.1) W (Km P (Int.toNat i))) fun ks'=>.leaf (.inl (Adu f x W P n (W64 (i+1)) ks'))))) else .leaf (.inr (Anl f x ks))
def Anm (f:Nat) (g:(Agu f).T):TS3 f:=Wi f g.2 g.1.2.1 g.1.2.2.1 g.1.2.2.2.1 g.1.2.2.2.2.1 (gk g.2)
def fu_s3 (f:Nat) (g:(Agu f).T):Nat:=Int.toNat g.1.2.2.2.1+1
def sm_s3 (f:Nat):St→Tree (XE×St):=As (Agu f) (Aad f) (De [.exit 4] (Anm f) (fu_s3 f))
theorem Auu {f:Nat} (e:XE):(Agu f).nx≤(Aad f e).nx:=Nat.le_refl _
def kpE (W:List Int) (P:Prs) (t st:Int) (i:Nat) (ks:Kns):Kns⊕Empty:=.inl (ks++[knP t st W (Km P i)])
def kpV (W:List Int) (P:Prs) (t st:Int) (ks:Kns):Kns:=unE (An (kpE W P t st) 0 P.length ks)
theorem Ann {W:List Int} {P:Prs} {t st:Int} {n k:Nat} (i:Nat) (s s':Kns) (_:i<n) (h:s.length=k+i) (h2:kpE W P t st i s=.inl s'):s'.length=k+(i+1):=by
 cases h2
 simp only [List.length_append,List.length_singleton]
 omega
theorem Adv {W:List Int} {P:Prs} {t st:Int} {ks:Kns}:(kpV W P t st ks).length=ks.length+P.length :=
 Az (n:=P.length) (Inv:=fun i (s:Kns)=>s.length=ks.length+i) Ann P.length 0 ks _ (by omega) rfl (I8 (An (kpE W P t st) 0 P.length ks))
def B1n (f:Nat) (x:GB) (r:Kns⊕Empty):A0 (Aad f):=Anl f x (unE r)
theorem B6z {f:Nat} {x:GB} {W:List Int} {P:Prs} {ks:Kns} (hP:∀ p ∈ P,S8 W.length p) (hk:ks.length≤900000) (hl:P.length≤1000) :
  iter (Anm f) (P.length+1) (Adu f x W P P.length 0 ks)=some (Anl f x (kpV W P (gmT x.1) (gmS x.1) ks)):=by
 have hn:(P.length:Int)≤B0 .i64:=by show (P.length:Int)≤9223372036854775807;omega
 refine I7 P.length (fun i s=>Adu f x W P P.length i s) (kpE W P (gmT x.1) (gmS x.1)) (B1n f x) (fun i s=>s.length=ks.length+i) (fun i s hi hs=>?_) Ann (fun s hs=>?_) P.length 0 ks (by omega) rfl
 ·show (Wi f (gb x.1 s) W P P.length i s).run=_
  have hp:=hP (Km P i) (by unfold Km;rw [D2 hi];exact List.getElem_mem hi)
  unfold Wi Agq
  rw [decide_eq_true (show (i:Int)<(P.length:Int) by omega),Ea (by omega),show Int.toNat (i:Int)=i from rfl,Ea ⟨hp.1,Int.lt_trans hp.2.1 hp.2.2⟩,Ea ⟨Int.le_trans hp.1 (Int.le_of_lt hp.2.1),hp.2.2⟩,H9 (by simp;omega) (by decide),E9 hi hn]
  rfl
 ·show (Wi f (gb x.1 s) W P P.length P.length s).run=_
  unfold Wi
  rw [decide_eq_false (show ¬ (P.length:Int)<(P.length:Int) by omega)]
  rfl
theorem B1o:Ax Tryz.prog 74 Ane (sm_s1 66):=Bo (Lb is_Tick1 G3 G4) 7 _ _ _ Aus _ _ (fu_s1 66) (fun g=>by kernel_rfl)
theorem B1p:Ax Tryz.prog 74 Anf (sm_s2 66):=Bo (Lb is_Tick1 G3 G4) 7 _ _ _ Aut _ _ (fu_s2 66) (fun g=>by kernel_rfl)
theorem B1q:Ax Tryz.prog 74 Ang (sm_s3 66):=Bo (Lb is_Tick1 G3 G4) 7 _ _ _ Auu _ _ (fu_s3 66) (fun g=>by kernel_rfl)
end St
end V
end Go.Proofs.YtlangijnealfjaaGreat
namespace Go.Proofs.YtlangijnealfjaaGreat
open Go.RowKit
namespace V
namespace St
def gmC (m:GM):TCT Cc:=(m.2.2.2.2.2.2.2.2.2.2.2.2.1,m.2.2.2.2.2.2.2.2.2.2.2.2.2.1,())
noncomputable def A2z (f:Nat):Ctx:=A0h Tryz.prog plGm [(74,Tryz.f74),(73,Tryz.f73)] [((74,4),sm_s1 f),((74,12),sm_s2 f),((74,17),sm_s3 f)] (spG f)
theorem Auv {f:Nat} (h1:Bv Tryz.prog 192 (sp_ro f)) (h2:Bv Tryz.prog 134 (sp_fl f)) (l1:Ax Tryz.prog 74 Ane (sm_s1 f)) (l2:Ax Tryz.prog 74 Anf (sm_s2 f)) (l3:Ax Tryz.prog 74 Ang (sm_s3 f)):CtxOk (A2z f) :=
 Iq Am puGm (fns_cons is_gsettle (fns_cons is_must A3)) (Ej (Mg (ds:=[Ane,Anf,Ang]) (by kernel_rfl) ⟨Gs (k:=4) (by kernel_rfl) rfl l1,Gs (k:=12) (by kernel_rfl) rfl l2,Gs (k:=17) (by kernel_rfl) rfl l3,trivial⟩) (Ej (Wd (by kernel_rfl)) Iv)) (Kl is_rolls.plain h1 is_flies.plain h2)
def seG (bl:List (TCT A2)) (w fl:Int) (n:Nat) (s:S2):GA:=gaV bl w fl n s.1 s.2.1
def seS (bl:List (TCT A2)) (bc:TCT Cc) (w fl:Int) (n:Nat) (s:S2):Aws:=Bi (seG bl w fl n s).2.1 (seG bl w fl n s).2.2 bc.1 bc.2.1
def seF (bl:List (TCT A2)) (bc:TCT Cc) (t st w fl:Int) (n:Nat) (s:S2):(Ar×Kns)⊕Int :=
 bif (seS bl bc w fl n s).2.2.1 != 0 then .inr (seS bl bc w fl n s).2.2.1 else .inl (scV (seG bl w fl n s).1 (seS bl bc w fl n s).1 s.1,kpV (seG bl w fl n s).1 (seS bl bc w fl n s).2.1 t st s.2.2)
def Az7 (f:Nat) (y:Option (A0 (Aad f))):TU f:=bif isE (.exit 4) y then .leaf ⟨true,((),(C3 (.exit 4) y).2)⟩ else .fail
def B1r (f:Nat) (x:GB) (W:List Int) (P:Prs):Option (A0 (Aad f)):=iter (Anm f) (P.length+1) (Adu f x W P P.length 0 (gk x))
def B70 (f:Nat) (y:Option (A0 (Aac f))):TU f:=bif isE (.exit 2) y then Az7 f (B1r f (C3 (.exit 2) y).2 (C3 (.exit 2) y).1.2.1 (C3 (.exit 2) y).1.2.2.1) else .fail
def B71 (f:Nat) (x:GB) (W:List Int) (M:Ar) (P:Prs):Option (A0 (Aac f)):=iter (Anj f) (W.length+1) (Ads f x W M P W W.length 0 (gmM x.1))
def Aae (f:Nat) (x:GB) (W:List Int) (r:Aws):TU f:=bif r.2.2.1 != 0 then .leaf ⟨false,pnU f r.2.2.1⟩ else B70 f (B71 f x W r.1 r.2.1)
def B72 (f:Nat) (y:Option (A0 (Aa9 f))):TU f:=bif isE (.exit 0) y then Aae f (C3 (.exit 0) y).2 (C3 (.exit 0) y).1.2.1 (Bi (C3 (.exit 0) y).1.2.2.1 (C3 (.exit 0) y).1.2.2.2.1 (gmC (C3 (.exit 0) y).2.1).1 (gmC (C3 (.exit 0) y).2.1).2.1) else .fail
def B73 (f:Nat) (x:GB):Option (A0 (Aa9 f)):=iter (Anh f) (nBx x.1+1) (Qc f x (gmB x.1) (nBx x.1) 0 ([],[],[]))
def T_se (f:Nat) (x:GB):TU f:=B72 f (B73 f x)
def A5z (x:GB):Option ((Ar×Kns)⊕Int):=bif S7 x then some (seF (gmB x.1) (gmC x.1) (gmT x.1) (gmS x.1) (gmW x.1) (gmF x.1) (nBx x.1) (gs x)) else none
def A60 (f:Nat) (x:GB) (s:Ar×Kns):(FE_u f true).T:=mkU f (gb (gmU x.1 s.1 (gmO x.1)) s.2)
abbrev sp_se (f:Nat):Ah→Nat→List AV→Tree (Out×Ah×Nat):=K0 K7 (FL_g f) (FE_u f) (W8 (fun g:(FL_g f).T=>A5z g.2) (fun g=>A60 f g.2) (pnU f) ([],[]))
theorem S9 {bl:List (TCT A2)} {bc:TCT Cc} {w fl:Int} {n:Nat} {s:S2} (hn:n≤8) (h:(seS bl bc w fl n s).2.2.1=0):(seS bl bc w fl n s).1.length=(seG bl w fl n s).1.length∧(seS bl bc w fl n s).2.1.length≤64∧∀ p ∈ (seS bl bc w fl n s).2.1,S8 (seG bl w fl n s).1.length p:=by
 have hg:InvG n n (seG bl w fl n s):=Adr
 have a:=Agr (l:=(seG bl w fl n s).2.1) (s:=(seG bl w fl n s).2.2) (re:=bc.1) (dr:=bc.2.1) h (by rw [hg.b];have:=hg.k;omega)
 rw [hg.b] at a
 exact ⟨a.1.trans hg.m,a.2.1,a.2.2⟩
theorem B1s {f:Nat} {g:(FL_g f).T} {z:(Ar×Kns)⊕Int} (h:A5z g.2=some z):(T_se f g.2).run=some (A05 (L:=FL_g f) (E:=FE_u f) (fun g=>A60 f g.2) (pnU f) g z):=by
 unfold A5z at h
 cases ho:S7 g.2 with
 | false=>rw [ho] at h;cases h
 | true =>
  rw [ho] at h
  cases h
  obtain ⟨hg,hk⟩:=Wg ho
  unfold T_se
  rw [show B73 f g.2=some (A5y f g.2 (seG (gmB g.2.1) (gmW g.2.1) (gmF g.2.1) (nBx g.2.1) (gs g.2))) from B6x hg]
  show (Aae f g.2 (seG (gmB g.2.1) (gmW g.2.1) (gmF g.2.1) (nBx g.2.1) (gs g.2)).1 (seS (gmB g.2.1) (gmC g.2.1) (gmW g.2.1) (gmF g.2.1) (nBx g.2.1) (gs g.2))).run=_
  unfold seF Aae
  have hn8:=hg.n
  cases he:(seS (gmB g.2.1) (gmC g.2.1) (gmW g.2.1) (gmF g.2.1) (nBx g.2.1) (gs g.2)).2.2.1 != 0 with
  | true=>rfl
  | false =>
   have hs:=S9 hn8 (bne_eq_false_iff_eq.1 he)
   have hi:InvG (nBx g.2.1) (nBx g.2.1) (seG (gmB g.2.1) (gmW g.2.1) (gmF g.2.1) (nBx g.2.1) (gs g.2)):=Adr
   have hik:=hi.k
   simp only [cond_false]
   rw [show B71 f g.2 (seG (gmB g.2.1) (gmW g.2.1) (gmF g.2.1) (nBx g.2.1) (gs g.2)).1 (seS (gmB g.2.1) (gmC g.2.1) (gmW g.2.1) (gmF g.2.1) (nBx g.2.1) (gs g.2)).1 (seS (gmB g.2.1) (gmC g.2.1) (gmW g.2.1) (gmF g.2.1) (nBx g.2.1) (gs g.2)).2.1=_ from B6y hi.r hs.1 hg.ms (by omega)]
   show (Az7 f (B1r f (gb (gmU g.2.1 (scV (seG (gmB g.2.1) (gmW g.2.1) (gmF g.2.1) (nBx g.2.1) (gs g.2)).1 (seS (gmB g.2.1) (gmC g.2.1) (gmW g.2.1) (gmF g.2.1) (nBx g.2.1) (gs g.2)).1 (gmM g.2.1)) (gmO g.2.1)) (gk g.2)) (seG (gmB g.2.1) (gmW g.2.1) (gmF g.2.1) (nBx g.2.1) (gs g.2)).1 (seS (gmB g.2.1) (gmC g.2.1) (gmW g.2.1) (gmF g.2.1) (nBx g.2.1) (gs g.2)).2.1)).run=_
   have hs64:=hs.2.1
   rw [show B1r f (gb (gmU g.2.1 (scV (seG (gmB g.2.1) (gmW g.2.1) (gmF g.2.1) (nBx g.2.1) (gs g.2)).1 (seS (gmB g.2.1) (gmC g.2.1) (gmW g.2.1) (gmF g.2.1) (nBx g.2.1) (gs g.2)).1 (gmM g.2.1)) (gmO g.2.1)) (gk g.2)) (seG (gmB g.2.1) (gmW g.2.1) (gmF g.2.1) (nBx g.2.1) (gs g.2)).1 (seS (gmB g.2.1) (gmC g.2.1) (gmW g.2.1) (gmF g.2.1) (nBx g.2.1) (gs g.2)).2.1=_ from B6z (x:=gb (gmU g.2.1 (scV (seG (gmB g.2.1) (gmW g.2.1) (gmF g.2.1) (nBx g.2.1) (gs g.2)).1 (seS (gmB g.2.1) (gmC g.2.1) (gmW g.2.1) (gmF g.2.1) (nBx g.2.1) (gs g.2)).1 (gmM g.2.1)) (gmO g.2.1)) (gk g.2)) hs.2.2 hk (by omega)]
   rfl
theorem Auw:Bv Tryz.prog 74 (sp_se 66):=W9 (Auv G3 G4 B1o B1p B1q) 6 Qa _ _ _ _ (fun g=>T_se 66 g.2) (fun g=>by kernel_rfl) fun _ _ _ h=>B1s h
end St
end V
end Go.Proofs.YtlangijnealfjaaGreat
namespace Go.Proofs.YtlangijnealfjaaGreat
open Go.RowKit
namespace V
namespace St
noncomputable def A61:Code:=(Aj (bodyOf Tryz.f131)).getD 0 .skip
noncomputable def A17:Code:=(Aj (bodyOf Tryz.f131)).getD 1 .skip
abbrev kBb:List SK:=[.d cI,.d cI]
def Aaf (f:Nat):Lay:={ keys:=[0,2,3,13,14,15,24,25,26],ks:=[.p 0 0 0 0,.d cI,.p 2002 0 0 0,.d (.sl A2),.d cI,.d cI,.d (.sl A1),.d cI,.d cI],bs:=[(0,171,kGm f),(1,79,[.o 101 cKn]),(2002,68,kBb)],n:=81,nx:=3000,marks:=[] }
def B74 (f:Nat):Lay:={ keys:=[0,13,14,15],ks:=[.p 0 0 0 0,.d (.sl A2),.d cI,.d cI],bs:=bsG f,n:=81,nx:=3000,marks:=[] }
def B75:Lay:={ keys:=[],ks:=[],bs:=[],n:=81,nx:=4000,marks:=[] }
def A62 (f:Nat):XE→Lay:=fun e=>match e with | .panic _=>B75 | _=>B74 f
def Aag (f:Nat):Lay:={ keys:=[0,13,14,15],ks:=[.p 0 0 0 0,.d (.sl A2),.d cI,.d cI],bs:=bsG f,n:=81,nx:=2000,marks:=[] }
def Bb3 (f:Nat):Lay:={ keys:=[],ks:=[],bs:=bsG f,n:=81,nx:=2000,marks:=[] }
def Aah (f:Nat):XE→Lay:=fun e=>match e with | .panic _=>B75 | _=>Bb3 f
theorem Aux {f:Nat} (e:XE):(Aaf f).nx≤(A62 f e).nx:=by cases e <;> first | exact Nat.le_refl _ | exact (by decide:(3000:Nat)≤4000)
theorem Auy {f:Nat} (e:XE):(Aag f).nx≤(Aah f e).nx:=by cases e <;> first | exact Nat.le_refl _ | exact (by decide:(2000:Nat)≤4000)
abbrev Dss:Type:=List (TCT A1)
abbrev MK:Type:=Ar×Kns
def Ff (ps:Dss) (i:Nat):TCT A1:=Al ps i (Ak A1)
def bmV (b:TCT A2) (m:TCT Au) (d:TCT A1) (c:TCT Cc):TCTs [Au,cI]:=A7g (bm b m) d.1.1 d.1.2.1 d.2.1 c.1 c.2.1
structure Cb where
 i:Int
 b:TCT A2
 bl:List (TCT A2)
 n1:Int
 i1:Int
 ps:Dss
def gmb (m:GM) (k:Kns) (b:TCT A2):GM×SKTs [.o 0 cKn]×SKTs kBb×Unit:=(m,(k,()),b,())
def A63 (f:Nat) (x:GB) (c:Cb) (n k:Int) (s:MK):(Aaf f).T:=(((),c.i,(),c.bl,c.n1,c.i1,c.ps,n,k,()),gmb (gmU x.1 s.1 (gmO x.1)) s.2 c.b)
def Wj (f:Nat) (x:GB) (c:Cb) (s:MK):A0 (A62 f):=⟨.exit 2,(((),c.bl,c.n1,c.i1,()),gb (gmU x.1 s.1 (gmO x.1)) s.2)⟩
def A64 (f:Nat) (e:Int):A0 (A62 f):=⟨.panic (.ifc 39 (.int .i64 e)),((),())⟩
abbrev TB2 (f:Nat):=Tree ((Aaf f).T⊕A0 (A62 f))
def Aai (f:Nat) (x:GB) (c:Cb) (n k:Int) (s:MK) (r:TCTs [Au,cI]):TB2 f :=
 bif r.2.1==0 then inO s.1.length c.i (Agq s.2 (kn (gmT x.1) (gmS x.1) 1 c.i k) fun ks=>.leaf (.inl (A63 f x c n (W64 (k+1)) (B9 s.1 (Int.toNat c.i) r.1,ks))))
 else bif r.2.1==4 then .leaf (.inr (A64 f r.2.1)) else .leaf (.inl (A63 f x c n (W64 (k+1)) s))
def Wl (f:Nat) (x:GB) (c:Cb) (n k:Int) (s:MK):TB2 f:=bif decide (k<n) then inN c.ps.length k (bif A04 s.1 (gmO x.1) c.i then
 bif !C6 s.1 (gmO x.1) (Int.toNat c.i) then .leaf (.inr (Wj f x c s)) else bif Fj (gmW x.1) (gmF x.1) c.i then .leaf (.inr (Wj f x c s)) else
 inO s.1.length c.i (Aai f x c n k s (bmV c.b (A9 s.1 (Int.toNat c.i)) (Ff c.ps (Int.toNat k)) (gmC x.1))) else .fail) else .leaf (.inr (Wj f x c s))
def cb (f:Nat) (g:(Aaf f).T):Cb:=⟨g.1.2.1,g.2.2.2.1,g.1.2.2.2.1,g.1.2.2.2.2.1,g.1.2.2.2.2.2.1,g.1.2.2.2.2.2.2.1⟩
def Ano (f:Nat) (g:(Aaf f).T):TB2 f:=Wl f (gb g.2.1 g.2.2.1.1) (cb f g) g.1.2.2.2.2.2.2.2.1 g.1.2.2.2.2.2.2.2.2.1 (gmM g.2.1,g.2.2.1.1)
def fu_b2 (f:Nat) (g:(Aaf f).T):Nat:=Int.toNat g.1.2.2.2.2.2.2.2.1+1
def sm_b2 (f:Nat):St→Tree (XE×St):=As (Aaf f) (A62 f) (finP 39 .i64 [.exit 2] (Ano f) (fu_b2 f))
def bpE (b:TCT A2) (c:TCT Cc) (ps:Dss) (os:List Bool) (w fl t st:Int) (i:Nat) (k:Nat) (s:MK):MK⊕(MK⊕Int) :=
 bif !C6 s.1 os i||Fj w fl i then .inr (.inl s) else
 bif (bmV b (A9 s.1 i) (Ff ps k) c).2.1==0 then .inl (B9 s.1 i (bmV b (A9 s.1 i) (Ff ps k) c).1,s.2++[kn t st 1 i k]) else
 bif (bmV b (A9 s.1 i) (Ff ps k) c).2.1==4 then .inr (.inr (bmV b (A9 s.1 i) (Ff ps k) c).2.1) else .inl s
def Ux:MK⊕(MK⊕Int)→MK⊕Int
 | .inl s=>.inl s
 | .inr x=>x
def A30 (f:Nat) (x:GB) (c:Cb) (r:MK⊕(MK⊕Int)):A0 (A62 f):=match Ux r with
 | .inl s=>Wj f x c s
 | .inr e=>A64 f e
structure InvK (n k:Nat) (i:Nat) (s:MK):Prop where
 m:s.1.length=n
 k:s.2.length≤k+i
theorem Anp {b:TCT A2} {c:TCT Cc} {ps:Dss} {os:List Bool} {w fl t st:Int} {i n k0 m:Nat} (k:Nat) (s s':MK) (_:k<m) (hi:InvK n k0 k s) (h:bpE b c ps os w fl t st i k s=.inl s'):InvK n k0 (k+1) s':=by
 unfold bpE at h
 have hk:=hi.k
 cases h1:!C6 s.1 os i||Fj w fl i with
 | true=>rw [h1] at h;cases h
 | false =>
  rw [h1] at h
  cases h2:(bmV b (A9 s.1 i) (Ff ps k) c).2.1==0 with
  | true=>rw [h2] at h;cases h;exact ⟨by rw [C2];exact hi.m,by simp;omega⟩
  | false =>
   rw [h2] at h
   cases h3:(bmV b (A9 s.1 i) (Ff ps k) c).2.1==4 with
   | true=>rw [h3] at h;cases h
   | false=>rw [h3] at h;cases h;exact ⟨hi.m,by omega⟩
theorem B76 {f:Nat} {x:GB} {c:Cb} {i n k0:Nat} {s:MK} (hci:c.i=(i:Int)) (hi:i<n) (hos:(gmO x.1).length=n) (hs:InvK n k0 0 s) (hk0:k0≤990000) (hps:c.ps.length≤1000) :
  iter (Ano f) (c.ps.length+1) (A63 f x c c.ps.length 0 s)=some (A30 f x c (An (bpE c.b (gmC x.1) c.ps (gmO x.1) (gmW x.1) (gmF x.1) (gmT x.1) (gmS x.1) i) 0 c.ps.length s)):=by
 have hn:(c.ps.length:Int)≤B0 .i64:=by show (c.ps.length:Int)≤9223372036854775807;omega
 refine I7 c.ps.length (fun k s=>A63 f x c c.ps.length k s) (bpE c.b (gmC x.1) c.ps (gmO x.1) (gmW x.1) (gmF x.1) (gmT x.1) (gmS x.1) i) (A30 f x c) (InvK n k0) (fun k s hk hl=>?_) Anp (fun s hl=>?_) c.ps.length 0 s (by omega) hs
 ·show (Wl f (gb (gmU x.1 s.1 (gmO x.1)) s.2) c c.ps.length k s).run=_
  have h1:=hl.m
  have h2:=hl.k
  unfold Wl
  show Tree.run (bif decide ((k:Int)<(c.ps.length:Int)) then inN c.ps.length k (bif A04 s.1 (gmO x.1) c.i then
   bif !C6 s.1 (gmO x.1) (Int.toNat c.i) then .leaf (.inr (Wj f x c s)) else bif Fj (gmW x.1) (gmF x.1) c.i then .leaf (.inr (Wj f x c s)) else
   inO s.1.length c.i (Aai f x c c.ps.length k s (bmV c.b (A9 s.1 (Int.toNat c.i)) (Ff c.ps k) (gmC x.1))) else .fail) else .leaf (.inr (Wj f x c s)):TB2 f)=_
  rw [hci,decide_eq_true (show (k:Int)<(c.ps.length:Int) by omega),Ea (by omega),A2y hi h1 hos,Gr (by omega),show Int.toNat (i:Int)=i from rfl]
  unfold Aai bpE Agq
  rw [hci,Gr (by omega),H9 (by simp;omega) (by decide),E9 hk hn,show Int.toNat (i:Int)=i from rfl]
  cases C6 s.1 (gmO x.1) i with
  | false=>rfl
  | true =>
   cases Fj (gmW x.1) (gmF x.1) i with
   | true=>rfl
   | false =>
    simp only [Bool.not_true,Bool.or_self,cond_true,cond_false]
    cases (bmV c.b (A9 s.1 i) (Ff c.ps k) (gmC x.1)).2.1==0 with
    | true=>rfl
    | false =>
     simp only [cond_false]
     cases (bmV c.b (A9 s.1 i) (Ff c.ps k) (gmC x.1)).2.1==4 <;> rfl
 ·show (Wl f (gb (gmU x.1 s.1 (gmO x.1)) s.2) c c.ps.length c.ps.length s).run=_
  unfold Wl
  rw [decide_eq_false (show ¬ (c.ps.length:Int)<(c.ps.length:Int) by omega)]
  rfl
def Anq (f:Nat) (x:GB) (bl:List (TCT A2)) (n i:Int) (s:MK):(Aag f).T:=(((),bl,n,i,()),gb (gmU x.1 s.1 (gmO x.1)) s.2)
def Az8 (f:Nat) (x:GB) (s:MK):A0 (Aah f):=⟨.exit 0,((),gb (gmU x.1 s.1 (gmO x.1)) s.2)⟩
def Az9 (f:Nat) (e:Int):A0 (Aah f):=⟨.panic (.ifc 39 (.int .i64 e)),((),())⟩
abbrev TB1 (f:Nat):=Tree ((Aag f).T⊕A0 (Aah f))
def B77 (f:Nat) (r:(B74 f).T):(Aag f).T:=(((),r.1.2.1,r.1.2.2.1,W64 (r.1.2.2.2.1+1),()),r.2)
def Anr (f:Nat) (y:Option (A0 (A62 f))):TB1 f:=bif isP 39 .i64 y then .leaf (.inr (Az9 f (panO 39 .i64 y).1)) else bif isE (.exit 2) y then .leaf (.inl (B77 f (C3 (.exit 2) y))) else .fail
def B78 (f:Nat) (x:GB) (c:Cb):Option (A0 (A62 f)):=iter (Ano f) (c.ps.length+1) (A63 f x c c.ps.length 0 (gmM x.1,gk x))
def cb1 (x:GB) (bl:List (TCT A2)) (n i:Int):Cb:=⟨i,Ef bl (Int.toNat i),bl,n,i,gmP x.1⟩
def Wm (f:Nat) (x:GB) (bl:List (TCT A2)) (n i:Int):TB1 f:=bif decide (i<n) then inN bl.length i (Anr f (B78 f x (cb1 x bl n i))) else .leaf (.inr (Az8 f x (gmM x.1,gk x)))
def Ans (f:Nat) (g:(Aag f).T):TB1 f:=Wm f g.2 g.1.2.1 g.1.2.2.1 g.1.2.2.2.1
def fu_b1 (f:Nat) (g:(Aag f).T):Nat:=Int.toNat g.1.2.2.1+1
def sm_b1 (f:Nat):St→Tree (XE×St):=As (Aag f) (Aah f) (finP 39 .i64 [.exit 0] (Ans f) (fu_b1 f))
def Lt_b1 (f:Nat):Kr:=fun k=>bif Nat.beq k 4 then some (sm_b2 f) else none
theorem Ant:Aj A61=[A17]:=by kernel_rfl
theorem B1t:keyOf A17=4:=by kernel_rfl
theorem Anu {f:Nat} (h:Ax Tryz.prog 131 A17 (sm_b2 f)):∀ d ∈ Aj A61,∀ g,Lt_b1 f (keyOf d)=some g→Ax Tryz.prog 131 d g:=fun d hd g hg=>by
 rw [Ant,List.mem_singleton] at hd
 subst hd
 rw [B1t] at hg
 cases hg
 exact h
theorem Anv:Ax Tryz.prog 131 A17 (sm_b2 66):=O8 (Lb is_Tick1 G3 G4) 7 _ _ _ Aux _ _ _ _ (fu_b2 66) (fun g=>by kernel_rfl)
theorem B1u:Ax Tryz.prog 131 A61 (sm_b1 66):=A90 (Lb is_Tick1 G3 G4) 7 _ (Lt_b1 66) (Anu Anv) _ _ Auy _ _ _ _ (fu_b1 66) (fun g=>by kernel_rfl)
def boE (bl:List (TCT A2)) (c:TCT Cc) (ps:Dss) (os:List Bool) (w fl t st:Int) (i:Nat) (s:MK):MK⊕Int:=Ux (An (bpE (Ef bl i) c ps os w fl t st i) 0 ps.length s)
def Wn (f:Nat) (x:GB):MK⊕Int→A0 (Aah f)
 | .inl s=>Az8 f x s
 | .inr e=>Az9 f e
theorem Anw {b:TCT A2} {c:TCT Cc} {ps:Dss} {os:List Bool} {w fl t st:Int} {i n k0 m:Nat}:∀ (j k:Nat) (s s':MK),k+j=m→InvK n k0 k s→Ux (An (bpE b c ps os w fl t st i) k j s)=.inl s'→InvK n k0 m s'
 | 0,k,s,s',hj,hi,h=>by
  have e:k=m:=by omega
  subst e
  cases h
  exact hi
 | j+1,k,s,s',hj,hi,h=>by
  unfold An at h
  cases hf:bpE b c ps os w fl t st i k s with
  | inl t1=>rw [hf] at h;exact Anw j (k+1) t1 s' (by omega) (Anp (m:=m) k s t1 (by omega) hi hf) h
  | inr y =>
   rw [hf] at h
   unfold bpE at hf
   have hk:=hi.k
   cases h1:!C6 s.1 os i||Fj w fl i with
   | true =>
    rw [h1] at hf
    cases hf
    cases h
    exact ⟨hi.m,by omega⟩
   | false =>
    rw [h1] at hf
    cases h2:(bmV b (A9 s.1 i) (Ff ps k) c).2.1==0 with
    | true=>rw [h2] at hf;cases hf
    | false =>
     rw [h2] at hf
     cases h3:(bmV b (A9 s.1 i) (Ff ps k) c).2.1==4 with
     | true=>rw [h3] at hf;cases hf;cases h
     | false=>rw [h3] at hf;cases hf
structure InvO (n k P:Nat) (i:Nat) (s:MK):Prop where
 m:s.1.length=n
 k:s.2.length≤k+i*P
theorem Anx {bl:List (TCT A2)} {c:TCT Cc} {ps:Dss} {os:List Bool} {w fl t st:Int} {n k0 m:Nat} (i:Nat) (s s':MK) (_:i<m) (hi:InvO n k0 ps.length i s) (h:boE bl c ps os w fl t st i s=.inl s'):InvO n k0 ps.length (i+1) s':=by
 have a:=Anw (n:=n) (k0:=k0+i*ps.length) (m:=ps.length) ps.length 0 s s' (by omega) ⟨hi.m,by have:=hi.k;omega⟩ h
 have e:(i+1)*ps.length=i*ps.length+ps.length:=Nat.succ_mul i ps.length
 exact ⟨a.m,by have:=a.k;omega⟩
theorem B79 {f:Nat} {x:GB} {s:MK} (hx:OkGM x.1) (hm:s.1.length=nBx x.1) (hk:s.2.length≤900000) (hps:(gmP x.1).length≤1000) :
  iter (Ans f) (nBx x.1+1) (Anq f x (gmB x.1) (nBx x.1) 0 s)=some (Wn f x (An (boE (gmB x.1) (gmC x.1) (gmP x.1) (gmO x.1) (gmW x.1) (gmF x.1) (gmT x.1) (gmS x.1)) 0 (nBx x.1) s)):=by
 have hn8:=hx.n
 have hn:(nBx x.1:Int)≤B0 .i64:=by show (nBx x.1:Int)≤9223372036854775807;omega
 refine I7 (nBx x.1) (fun i s=>Anq f x (gmB x.1) (nBx x.1) i s) (boE (gmB x.1) (gmC x.1) (gmP x.1) (gmO x.1) (gmW x.1) (gmF x.1) (gmT x.1) (gmS x.1)) (Wn f x) (InvO (nBx x.1) s.2.length (gmP x.1).length) (fun i s1 hi hl=>?_) Anx (fun s hl=>?_) (nBx x.1) 0 s (by omega) ⟨hm,by omega⟩
 ·show (Wm f (gb (gmU x.1 s1.1 (gmO x.1)) s1.2) (gmB x.1) (nBx x.1) i).run=_
  have h2:=hl.k
  have h3:i*(gmP x.1).length≤8*1000:=Nat.mul_le_mul (by omega) hps
  have hy:B78 f (gb (gmU x.1 s1.1 (gmO x.1)) s1.2) (cb1 (gb (gmU x.1 s1.1 (gmO x.1)) s1.2) (gmB x.1) (nBx x.1) i)=some (A30 f (gb (gmU x.1 s1.1 (gmO x.1)) s1.2) (cb1 (gb (gmU x.1 s1.1 (gmO x.1)) s1.2) (gmB x.1) (nBx x.1) i) (An (bpE (Ef (gmB x.1) i) (gmC x.1) (gmP x.1) (gmO x.1) (gmW x.1) (gmF x.1) (gmT x.1) (gmS x.1) i) 0 (gmP x.1).length s1)) :=
   B76 (f:=f) (x:=gb (gmU x.1 s1.1 (gmO x.1)) s1.2) (c:=cb1 (gb (gmU x.1 s1.1 (gmO x.1)) s1.2) (gmB x.1) (nBx x.1) i) (i:=i) (n:=nBx x.1) (k0:=s.2.length+i*(gmP x.1).length) (s:=s1) rfl hi hx.os ⟨hl.m,by omega⟩ (by omega) hps
  unfold Wm
  rw [decide_eq_true (show (i:Int)<(nBx x.1:Int) by omega),Ea (n:=(gmB x.1).length) (by show 0≤(i:Int)∧(i:Int)<(nBx x.1:Int);omega),hy]
  unfold boE A30
  cases Ux (An (bpE (Ef (gmB x.1) i) (gmC x.1) (gmP x.1) (gmO x.1) (gmW x.1) (gmF x.1) (gmT x.1) (gmS x.1) i) 0 (gmP x.1).length s1) with
  | inl s2 =>
   show (Tree.leaf (.inl (((),gmB x.1,(nBx x.1:Int),W64 ((i:Int)+1),()),gb (gmU x.1 s2.1 (gmO x.1)) s2.2)):TB1 f).run=_
   rw [E9 hi hn]
   rfl
  | inr e =>
   have h1:isP 39 .i64 (some (A64 f e))=true:=Ni
   have h2:panO 39 .i64 (some (A64 f e))=⟨e,((),())⟩:=J2
   show (Anr f (some (A64 f e))).run=_
   unfold Anr
   rw [h1,h2]
   rfl
 ·show (Wm f (gb (gmU x.1 s.1 (gmO x.1)) s.2) (gmB x.1) (nBx x.1) (nBx x.1)).run=_
  unfold Wm
  rw [decide_eq_false (show ¬ (nBx x.1:Int)<(nBx x.1:Int) by omega)]
  rfl
end St
end V
end Go.Proofs.YtlangijnealfjaaGreat
namespace Go.Proofs.YtlangijnealfjaaGreat
open Go.RowKit
namespace V
namespace St
noncomputable def Bb4 (f:Nat):Ctx:=A0h Tryz.prog plGm [(131,Tryz.f131)] [((131,1),sm_b1 f),((131,4),sm_b2 f)] (spG f)
theorem Auz {f:Nat} (h1:Bv Tryz.prog 192 (sp_ro f)) (h2:Bv Tryz.prog 134 (sp_fl f)) (l1:Ax Tryz.prog 131 A61 (sm_b1 f)) (l2:Ax Tryz.prog 131 A17 (sm_b2 f)):CtxOk (Bb4 f) :=
 Iq Am puGm (fns_cons is_gbump A3) (Ej (Mg (ds:=[A61,A17]) (by kernel_rfl) ⟨Gs (k:=1) (by kernel_rfl) rfl l1,Gs (k:=4) (by kernel_rfl) rfl l2,trivial⟩) Iv) (Kl is_rolls.plain h1 is_flies.plain h2)
def Any (f:Nat) (x:GB):Option (A0 (Aah f)):=iter (Ans f) (nBx x.1+1) (Anq f x (gmB x.1) (nBx x.1) 0 (gmM x.1,gk x))
def T_bp (f:Nat) (x:GB):TU f:=bif isP 39 .i64 (Any f x) then .leaf ⟨false,pnU f (panO 39 .i64 (Any f x)).1⟩ else bif isE (.exit 0) (Any f x) then .leaf ⟨true,((),(C3 (.exit 0) (Any f x)).2)⟩ else .fail
def buF (bl:List (TCT A2)) (c:TCT Cc) (ps:Dss) (t st w fl:Int) (n:Nat) (s:S2):MK⊕Int:=An (boE bl c ps s.2.1 w fl t st) 0 n (s.1,s.2.2)
def A65 (x:GB):Bool:=S7 x&&decide ((gmP x.1).length≤1000)
theorem A66 {x:GB} (h:A65 x=true):OkGM x.1∧(gk x).length≤900000∧(gmP x.1).length≤1000:=by
 unfold A65 at h
 simp only [Bool.and_eq_true,decide_eq_true_eq] at h
 have a:=Wg h.1
 exact ⟨a.1,a.2,h.2⟩
def A67 (x:GB):Option (MK⊕Int):=bif A65 x then some (buF (gmB x.1) (gmC x.1) (gmP x.1) (gmT x.1) (gmS x.1) (gmW x.1) (gmF x.1) (nBx x.1) (gs x)) else none
abbrev sp_bp (f:Nat):Ah→Nat→List AV→Tree (Out×Ah×Nat):=K0 K7 (FL_g f) (FE_u f) (W8 (fun g:(FL_g f).T=>A67 g.2) (fun g=>A60 f g.2) (pnU f) ([],[]))
theorem B1v {f:Nat} {g:(FL_g f).T} {z:MK⊕Int} (h:A67 g.2=some z):(T_bp f g.2).run=some (A05 (L:=FL_g f) (E:=FE_u f) (fun g=>A60 f g.2) (pnU f) g z):=by
 unfold A67 at h
 cases ho:A65 g.2 with
 | false=>rw [ho] at h;cases h
 | true =>
  rw [ho] at h
  cases h
  obtain ⟨hg,hk,hp⟩:=A66 ho
  have hy:Any f g.2=some (Wn f g.2 (buF (gmB g.2.1) (gmC g.2.1) (gmP g.2.1) (gmT g.2.1) (gmS g.2.1) (gmW g.2.1) (gmF g.2.1) (nBx g.2.1) (gs g.2))):=B79 hg hg.ms hk hp
  unfold T_bp
  rw [hy]
  cases buF (gmB g.2.1) (gmC g.2.1) (gmP g.2.1) (gmT g.2.1) (gmS g.2.1) (gmW g.2.1) (gmF g.2.1) (nBx g.2.1) (gs g.2) with
  | inl s=>rfl
  | inr e =>
   have h1:isP 39 .i64 (some (Wn f g.2 (.inr e)))=true:=Ni
   have h2:panO 39 .i64 (some (Wn f g.2 (.inr e)))=⟨e,((),())⟩:=J2
   rw [h1,h2]
   rfl
theorem Av0:Bv Tryz.prog 131 (sp_bp 66):=W9 (Auz G3 G4 B1u Anv) 6 Qa _ _ _ _ (fun g=>T_bp 66 g.2) (fun g=>by kernel_rfl) fun _ _ _ h=>B1v h
end St
end V
end Go.Proofs.YtlangijnealfjaaGreat
namespace Go.Proofs.YtlangijnealfjaaGreat
open Go.RowKit
namespace V
def thY {A β:Type} (y:Option (A⊕Int)) (d:A) (pn:Int→Tree β) (k:A→Tree β):Tree β:=bif isL y then k (gL d y) else bif isR y then pn (gR 0 y) else .fail
theorem A68 {A β:Type} {y:Option (A⊕Int)} {d a:A} {pn:Int→Tree β} {k:A→Tree β} (h:y=some (.inl a)):thY y d pn k=k a:=by rw [h];rfl
theorem A69 {A β:Type} {y:Option (A⊕Int)} {d:A} {e:Int} {pn:Int→Tree β} {k:A→Tree β} (h:y=some (.inr e)):thY y d pn k=pn e:=by rw [h];rfl
namespace St
noncomputable def Anz:Code:=(Aj (bodyOf Tryz.f68)).getD 0 .skip
def Aaj (f:Nat):Lay:={ keys:=[0],ks:=[.p 0 0 0 0],bs:=bsG f,n:=52,nx:=4000,marks:=[] }
def Bb5:Lay:={ keys:=[],ks:=[],bs:=[],n:=52,nx:=9000,marks:=[] }
def A6a (f:Nat):XE→Lay:=fun e=>match e with | .panic _=>Bb5 | _=>Aaj f
theorem Av1 {f:Nat} (e:XE):(Aaj f).nx≤(A6a f e).nx:=by cases e <;> first | exact Nat.le_refl _ | exact (by decide:(4000:Nat)≤9000)
abbrev YS:Type:=GB→Option (Ar⊕Int)
abbrev Y2:Type:=GB→Option (S2⊕Int)
abbrev YK:Type:=GB→Option (MK⊕Int)
abbrev SPf:Type:=Ah→Nat→List AV→Tree (Out×Ah×Nat)
def Bb6 {β:Type} (m:GM) (ms:Ar) (os:List Bool) (k:GM→β):β:=match m with
 | (a0,a1,a2,a3,a4,a5,a6,a7,a8,a9,a10,a11,a12,a13,a14,_,_,a17,a18,a19,a20,a21,_)=>k (a0,a1,a2,a3,a4,a5,a6,a7,a8,a9,a10,a11,a12,a13,a14,ms,os,a17,a18,a19,a20,a21,())
def B7a {β:Type} (m:GM) (ms:Ar) (k:GM→β):β:=match m with
 | (a0,a1,a2,a3,a4,a5,a6,a7,a8,a9,a10,a11,a12,a13,a14,_,a16,a17,a18,a19,a20,a21,_)=>k (a0,a1,a2,a3,a4,a5,a6,a7,a8,a9,a10,a11,a12,a13,a14,ms,a16,a17,a18,a19,a20,a21,())
def gmA (m:GM) (ms:Ar) (os:List Bool) (fl tk st:Int):GM:=(m.1,m.2.1,m.2.2.1,m.2.2.2.1,m.2.2.2.2.1,m.2.2.2.2.2.1,m.2.2.2.2.2.2.1,m.2.2.2.2.2.2.2.1,m.2.2.2.2.2.2.2.2.1,m.2.2.2.2.2.2.2.2.2.1,m.2.2.2.2.2.2.2.2.2.2.1,m.2.2.2.2.2.2.2.2.2.2.2.1,m.2.2.2.2.2.2.2.2.2.2.2.2.1,m.2.2.2.2.2.2.2.2.2.2.2.2.2.1,m.2.2.2.2.2.2.2.2.2.2.2.2.2.2.1,ms,os,m.2.2.2.2.2.2.2.2.2.2.2.2.2.2.2.2.2.1,fl,tk,st,m.2.2.2.2.2.2.2.2.2.2.2.2.2.2.2.2.2.2.2.2.2.1,())
def Tr {L:FLay} {E:Bool→FLay} {A:Type} (Y:L.T→Option (A⊕Int)) (mk:L.T→A→((E true).T→Tree (Dx E))→Tree (Dx E)) (pn:Int→(E false).T) (d:A) (g:L.T):Tree (Dx E) :=
 .br (isL (Y g)) (mk g (gL d (Y g)) fun y=>.leaf ⟨true,y⟩) (.br (isR (Y g)) (.leaf ⟨false,pn (gR 0 (Y g))⟩) .fail)
def B7b (f:Nat) (x:GB) (s:S2) (k:(FE_u f true).T→Tree (Dx (FE_u f))):Tree (Dx (FE_u f)):=Bb6 x.1 s.1 s.2.1 fun m=>k ((),(m,(s.2.2,()),()))
def B7c (f:Nat) (x:GB) (s:MK) (k:(FE_u f true).T→Tree (Dx (FE_u f))):Tree (Dx (FE_u f)):=B7a x.1 s.1 fun m=>k ((),(m,(s.2,()),()))
def B7d (f:Nat) (x:GB) (s:Ar) (k:(FE_u f true).T→Tree (Dx (FE_u f))):Tree (Dx (FE_u f)):=B7a x.1 s fun m=>k ((),(m,(x.2.1.1,()),()))
theorem Av2 {f:Nat} (Y:Y2):(Tr (L:=FL_g f) (E:=FE_u f) (fun g=>Y g.2) (fun g=>B7b f g.2) (pnU f) ([],[],[]))=(W8 (L:=FL_g f) (E:=FE_u f) (fun g=>Y g.2) (fun g=>Anb f g.2) (pnU f) ([],[],[])):=rfl
theorem Adw {f:Nat} (Y:YK):(Tr (L:=FL_g f) (E:=FE_u f) (fun g=>Y g.2) (fun g=>B7c f g.2) (pnU f) ([],[]))=(W8 (L:=FL_g f) (E:=FE_u f) (fun g=>Y g.2) (fun g=>A60 f g.2) (pnU f) ([],[])):=rfl
theorem Av3 {f:Nat} (Y:YS):(Tr (L:=FL_g f) (E:=FE_u f) (fun g=>Y g.2) (fun g=>B7d f g.2) (pnU f) [])=(W8 (L:=FL_g f) (E:=FE_u f) (fun g=>Y g.2) (fun g=>Aa4 f g.2) (pnU f) []):=rfl
abbrev B7e (f:Nat) (Y:YS):SPf:=K0 K7 (FL_g f) (FE_u f) (Tr (fun g:(FL_g f).T=>Y g.2) (fun g=>B7d f g.2) (pnU f) [])
abbrev B7f (f:Nat) (Y:Y2):SPf:=K0 K7 (FL_g f) (FE_u f) (Tr (fun g:(FL_g f).T=>Y g.2) (fun g=>B7b f g.2) (pnU f) ([],[],[]))
abbrev Av4 (f:Nat) (Y:YK):SPf:=K0 K7 (FL_g f) (FE_u f) (Tr (fun g:(FL_g f).T=>Y g.2) (fun g=>B7c f g.2) (pnU f) ([],[]))
structure TY where
 s:YS
 m:Y2
 e:YK
 b:YK
def spT (f:Nat) (Y:TY):List (Nat×SPf):=[(129,B7e f Y.s),(130,B7f f Y.m),(74,Av4 f Y.e),(131,Av4 f Y.b)]
def tyG:TY:=⟨Wc,A5x,A5z,A67⟩
theorem B1w {f:Nat} (h1:Bv Tryz.prog 129 (sp_slw f)) (h2:Bv Tryz.prog 130 (sp_mv f)) (h3:Bv Tryz.prog 74 (sp_se f)) (h4:Bv Tryz.prog 131 (sp_bp f)):∀ p ∈ spT f tyG,Plain Tryz.prog p.1∧Bv Tryz.prog p.1 p.2:=fun p hp=>by
 unfold spT at hp
 simp only [List.mem_cons,List.not_mem_nil,or_false] at hp
 rcases hp with rfl | rfl | rfl | rfl
 ·exact ⟨is_gslow.plain,by rw [tyG,B7e,Av3];exact h1⟩
 ·exact ⟨is_gmove.plain,by rw [tyG,B7f,Av2];exact h2⟩
 ·exact ⟨is_gsettle.plain,by rw [tyG,Av4,Adw];exact h3⟩
 ·exact ⟨is_gbump.plain,by rw [tyG,Av4,Adw];exact h4⟩
theorem Aza:∀ p ∈ spT 66 tyG,Plain Tryz.prog p.1∧Bv Tryz.prog p.1 p.2:=B1w An1 Aun Auw Av0
noncomputable def Bb7 (f:Nat) (Y:TY):Ctx:=A0h Tryz.prog plGm [(73,Tryz.f73)] [] (spT f Y)
theorem Av5 {f:Nat} {Y:TY} (h:∀ p ∈ spT f Y,Plain Tryz.prog p.1∧Bv Tryz.prog p.1 p.2):CtxOk (Bb7 f Y):=Iq Am puGm (fns_cons is_must A3) Nl h
def x2 (x:GB) (s:S2):GB:=gb (gmU x.1 s.1 s.2.1) s.2.2
abbrev TTk (f:Nat):=Tree ((Aaj f).T⊕A0 (A6a f))
def Azb (f:Nat) (e:Int):A0 (A6a f):=⟨.panic (.ifc 39 (.int .i64 e)),((),())⟩
def A18 (f:Nat) (e:Int):TTk f:=.leaf (.inr (Azb f e))
def z2:S2:=([],[],[])
def zM:MK:=([],[])
def xS (x:GB) (i:Int) (s:S2):GB:=(gmA x.1 s.1 s.2.1 (gmF x.1) (gmT x.1) i,(s.2.2,()),())
def Wo (f:Nat) (Y:TY) (x:GB) (i:Int) (s:S2):TTk f:=bif decide (i≤16) then thY (Y.m (xS x i s)) z2 (A18 f) fun s1=>thY (Y.e (xS x i s1)) zM (A18 f) fun s2=>thY (Y.b (xS x i (s2.1,s1.2.1,s2.2))) zM (A18 f) fun s3=>.leaf (.inl (((),()),xS x (W64 (i+1)) (s3.1,s1.2.1,s3.2)))
 else .leaf (.inr ⟨.exit 0,(((),()),xS x i s)⟩)
def Adx (f:Nat) (Y:TY) (g:(Aaj f).T):TTk f:=Wo f Y g.2 (gmS g.2.1) (gs g.2)
def fu_tk (f:Nat) (_:(Aaj f).T):Nat:=17
def sm_tk (f:Nat) (Y:TY):St→Tree (XE×St):=As (Aaj f) (A6a f) (finP 39 .i64 [.exit 0] (Adx f Y) (fu_tk f))
theorem B1x {Y:TY} (h:∀ p ∈ spT 66 Y,Plain Tryz.prog p.1∧Bv Tryz.prog p.1 p.2):Ax Tryz.prog 68 Anz (sm_tk 66 Y):=O8 (Av5 h) 7 _ _ _ Av1 _ _ _ _ (fu_tk 66) (fun g=>by kernel_rfl)
structure CT where
 bl:List (TCT A2)
 l:TCT A8
 c:TCT Cc
 ps:Dss
 w:Int
 fl:Int
 t:Int
def tkE (k:CT) (i:Nat) (s:S2):S2⊕Int:=match mvF k.bl k.l k.t ((i+1:Nat):Int) k.bl.length s with
 | .inr e=>.inr e
 | .inl s1=>match seF k.bl k.c k.t ((i+1:Nat):Int) k.w k.fl k.bl.length s1 with
  | .inr e=>.inr e
  | .inl s2=>match buF k.bl k.c k.ps k.t ((i+1:Nat):Int) k.w k.fl k.bl.length (s2.1,s1.2.1,s2.2) with
   | .inr e=>.inr e
   | .inl s3=>.inl (s3.1,s1.2.1,s3.2)
theorem A31 {bl:List (TCT A2)} {l:TCT A8} {t st:Int} {n k:Nat} {s s':S2} (hs:Inv2 n k 0 s) (h:mvF bl l t st n s=.inl s'):Inv2 n (k+n) 0 s':=by
 unfold mvF at h
 cases h1:An (stE bl s.2.1) 0 n s.1 with
 | inr e=>rw [h1] at h;cases h
 | inl ms =>
  rw [h1] at h
  change An (lvE l t st) 0 n (ms,s.2.1,s.2.2)=.inl s' at h
  have hm:ms.length=n:=Az (n:=n) (Inv:=fun _ (s:Ar)=>s.length=n) Aa6 n 0 _ _ (by omega) hs.m h1
  have a:=Az (n:=n) (Inv:=Inv2 n k) An9 n 0 (ms,s.2.1,s.2.2) s' (by omega) ⟨hm,hs.o,hs.k⟩ h
  exact ⟨a.m,a.o,by have:=a.k;omega⟩
theorem Ady {bl:List (TCT A2)} {c:TCT Cc} {t st w fl:Int} {n k:Nat} {s:S2} {s':MK} (hn:n≤8) (hs:Inv2 n k 0 s) (h:seF bl c t st w fl n s=.inl s'):Inv2 n (k+64) 0 (s'.1,s.2.1,s'.2):=by
 unfold seF at h
 cases he:(seS bl c w fl n s).2.2.1 != 0 with
 | true=>rw [he] at h;cases h
 | false =>
  rw [he] at h
  cases h
  have a:=S9 (bl:=bl) (bc:=c) (w:=w) (fl:=fl) (s:=s) hn (bne_eq_false_iff_eq.1 he)
  have hk:=hs.k
  refine ⟨?_,hs.o,?_⟩
  ·show (scV _ _ _).length=n
   rw [Adt];exact hs.m
  ·show (kpV _ _ _ _ _).length≤_
   rw [Adv];have:=a.2.1;omega
theorem Av6 {bl:List (TCT A2)} {c:TCT Cc} {ps:Dss} {t st w fl:Int} {n k:Nat} {s:S2} {s':MK} (hs:Inv2 n k 0 s) (h:buF bl c ps t st w fl n s=.inl s'):Inv2 n (k+n*ps.length) 0 (s'.1,s.2.1,s'.2):=by
 unfold buF at h
 have hk:=hs.k
 have a:=Az (n:=n) (Inv:=InvO n s.2.2.length ps.length) Anx n 0 _ _ (by omega) ⟨hs.m,by show s.2.2.length≤s.2.2.length+0*ps.length;omega⟩ h
 exact ⟨a.m,hs.o,by have:=a.k;show s'.2.length≤_;omega⟩
theorem Adz {k:CT} {k0 m:Nat} (hn:k.bl.length≤8) (hp:k.ps.length≤1000) (i:Nat) (s s':S2) (_:i<m) (hs:Inv2 k.bl.length (k0+i*8072) 0 s) (h:tkE k i s=.inl s'):Inv2 k.bl.length (k0+(i+1)*8072) 0 s':=by
 unfold tkE at h
 cases h1:mvF k.bl k.l k.t ((i+1:Nat):Int) k.bl.length s with
 | inr e=>rw [h1] at h;cases h
 | inl s1 =>
  rw [h1] at h
  have a:=A31 hs h1
  simp only at h
  cases h2:seF k.bl k.c k.t ((i+1:Nat):Int) k.w k.fl k.bl.length s1 with
  | inr e=>rw [h2] at h;cases h
  | inl s2 =>
   rw [h2] at h
   have b:=Ady hn a h2
   simp only at h
   cases h3:buF k.bl k.c k.ps k.t ((i+1:Nat):Int) k.w k.fl k.bl.length (s2.1,s1.2.1,s2.2) with
   | inr e=>rw [h3] at h;cases h
   | inl s3 =>
    rw [h3] at h
    cases h
    have c:=Av6 b h3
    have d:k.bl.length*k.ps.length≤8*1000:=Nat.mul_le_mul hn hp
    exact ⟨c.m,c.o,by have:=c.k;simp only at this ⊢;omega⟩
def ctG (m:GM):CT:=⟨gmB m,gmL m,gmC m,gmP m,gmW m,gmF m,gmT m⟩
theorem Av7 {x:GB} {i:Int} {s:S2} {k:Nat} (hsz:(x.1.1.size:Int)≤B0 .i64) (hn:nBx x.1≤8) (hs:Inv2 (nBx x.1) k 0 s) (hk:k≤900000):A5x (xS x i s)=some (mvF (gmB x.1) (gmL x.1) (gmT x.1) i (nBx x.1) s):=by
 have h:S7 (xS x i s)=true:=by
  have:=hs.k
  unfold S7
  rw [Bool.and_eq_true,decide_eq_true_eq]
  exact ⟨Hz.2 ⟨hsz,hs.m,hs.o,hn⟩,by show s.2.2.length≤900000;omega⟩
 unfold A5x;rw [h];rfl
theorem Av8 {x:GB} {i:Int} {s:S2} {k:Nat} (hsz:(x.1.1.size:Int)≤B0 .i64) (hn:nBx x.1≤8) (hs:Inv2 (nBx x.1) k 0 s) (hk:k≤900000):A5z (xS x i s)=some (seF (gmB x.1) (gmC x.1) (gmT x.1) i (gmW x.1) (gmF x.1) (nBx x.1) s):=by
 have h:S7 (xS x i s)=true:=by
  have:=hs.k
  unfold S7
  rw [Bool.and_eq_true,decide_eq_true_eq]
  exact ⟨Hz.2 ⟨hsz,hs.m,hs.o,hn⟩,by show s.2.2.length≤900000;omega⟩
 unfold A5z;rw [h];rfl
theorem Av9 {x:GB} {i:Int} {s:S2} {k:Nat} (hsz:(x.1.1.size:Int)≤B0 .i64) (hn:nBx x.1≤8) (hp:(gmP x.1).length≤1000) (hs:Inv2 (nBx x.1) k 0 s) (hk:k≤900000):A67 (xS x i s)=some (buF (gmB x.1) (gmC x.1) (gmP x.1) (gmT x.1) i (gmW x.1) (gmF x.1) (nBx x.1) s):=by
 have h:A65 (xS x i s)=true:=by
  have:=hs.k
  unfold A65 S7
  rw [Bool.and_eq_true,Bool.and_eq_true,decide_eq_true_eq,decide_eq_true_eq]
  exact ⟨⟨Hz.2 ⟨hsz,hs.m,hs.o,hn⟩,by show s.2.2.length≤900000;omega⟩,hp⟩
 unfold A67;rw [h];rfl
def Ao0 (f:Nat) (x:GB) (i:Nat) (s:S2):(Aaj f).T:=(((),()),xS x ((i+1:Nat):Int) s)
def B7g (f:Nat) (x:GB) (s:S2):A0 (A6a f):=⟨.exit 0,(((),()),xS x 17 s)⟩
def Wp (f:Nat) (x:GB):S2⊕Int→A0 (A6a f)
 | .inl s=>B7g f x s
 | .inr e=>Azb f e
theorem B7h (x:GB) (i j:Int) (s t:S2):xS (xS x i s) j t=xS x j t:=by
 unfold xS gmA
 rfl
theorem A6b {f:Nat} {x:GB} {i:Nat} {s:S2}:Adx f tyG (Ao0 f x i s)=Wo f tyG x ((i+1:Nat):Int) s:=by
 show Wo f tyG (xS x ((i+1:Nat):Int) s) ((i+1:Nat):Int) s=_
 unfold Wo
 simp only [B7h]
theorem B7i {f:Nat} {x:GB} {s:S2} {k0:Nat} (hsz:(x.1.1.size:Int)≤B0 .i64) (hn:nBx x.1≤8) (hp:(gmP x.1).length≤1000) (hs:Inv2 (nBx x.1) k0 0 s) (hk0:k0≤700000) :
  iter (Adx f tyG) 17 (Ao0 f x 0 s)=some (Wp f x (An (tkE (ctG x.1)) 0 16 s)):=by
 refine I7 16 (fun i s=>Ao0 f x i s) (tkE (ctG x.1)) (Wp f x) (fun i s=>Inv2 (nBx x.1) (k0+i*8072) 0 s) (fun i s hi hl=>?_) (fun i s s' hi hl h=>Adz (k:=ctG x.1) (k0:=k0) (m:=16) hn hp i s s' hi hl h) (fun s hl=>?_) 16 0 s (by omega) ⟨hs.m,hs.o,by have:=hs.k;omega⟩
 ·rw [A6b]
  have e1:=Av7 (i:=((i+1:Nat):Int)) hsz hn (s:=s) hl (by omega)
  unfold Wo
  rw [decide_eq_true (show ((i+1:Nat):Int)≤16 by omega),cond_true]
  show (thY (A5x (xS x ((i+1:Nat):Int) s)) z2 (A18 f) fun s1=>thY (A5z (xS x ((i+1:Nat):Int) s1)) zM (A18 f) fun s2=>thY (A67 (xS x ((i+1:Nat):Int) (s2.1,s1.2.1,s2.2))) zM (A18 f) fun s3 =>
   .leaf (.inl (((),()),xS x (W64 (((i+1:Nat):Int)+1)) (s3.1,s1.2.1,s3.2)))).run=_
  unfold tkE
  change A5x (xS x ((i+1:Nat):Int) s)=some (mvF (ctG x.1).bl (ctG x.1).l (ctG x.1).t ((i+1:Nat):Int) (ctG x.1).bl.length s) at e1
  cases h1:mvF (ctG x.1).bl (ctG x.1).l (ctG x.1).t ((i+1:Nat):Int) (ctG x.1).bl.length s with
  | inr e=>rw [h1] at e1;rw [A69 e1];rfl
  | inl s1 =>
   rw [h1] at e1
   rw [A68 e1]
   have a:Inv2 (nBx x.1) (k0+i*8072+nBx x.1) 0 s1:=A31 hl h1
   have e2:=Av8 (i:=((i+1:Nat):Int)) hsz hn (s:=s1) a (by omega)
   change A5z (xS x ((i+1:Nat):Int) s1)=some (seF (ctG x.1).bl (ctG x.1).c (ctG x.1).t ((i+1:Nat):Int) (ctG x.1).w (ctG x.1).fl (ctG x.1).bl.length s1) at e2
   simp only
   cases h2:seF (ctG x.1).bl (ctG x.1).c (ctG x.1).t ((i+1:Nat):Int) (ctG x.1).w (ctG x.1).fl (ctG x.1).bl.length s1 with
   | inr e=>rw [h2] at e2;rw [A69 e2];rfl
   | inl s2 =>
    rw [h2] at e2
    rw [A68 e2]
    have b:Inv2 (nBx x.1) (k0+i*8072+nBx x.1+64) 0 (s2.1,s1.2.1,s2.2):=Ady hn a h2
    have e3:=Av9 (i:=((i+1:Nat):Int)) hsz hn hp (s:=(s2.1,s1.2.1,s2.2)) b (by omega)
    change A67 (xS x ((i+1:Nat):Int) (s2.1,s1.2.1,s2.2))=some (buF (ctG x.1).bl (ctG x.1).c (ctG x.1).ps (ctG x.1).t ((i+1:Nat):Int) (ctG x.1).w (ctG x.1).fl (ctG x.1).bl.length (s2.1,s1.2.1,s2.2)) at e3
    simp only
    cases h3:buF (ctG x.1).bl (ctG x.1).c (ctG x.1).ps (ctG x.1).t ((i+1:Nat):Int) (ctG x.1).w (ctG x.1).fl (ctG x.1).bl.length (s2.1,s1.2.1,s2.2) with
    | inr e=>rw [h3] at e3;rw [A69 e3];rfl
    | inl s3 =>
     rw [h3] at e3
     rw [A68 e3,B5 (by omega) (by omega)]
     rfl
 ·rw [A6b]
  rfl
end St
end V
end Go.Proofs.YtlangijnealfjaaGreat
namespace Go.Proofs.YtlangijnealfjaaGreat
open Go.RowKit
namespace V
namespace St
noncomputable def X_ti (f:Nat) (Y:TY):Ctx:=A0h Tryz.prog plGm [(68,Tryz.f68),(73,Tryz.f73)] [((68,4),sm_tk f Y)] (spT f Y)
theorem Ava {f:Nat} {Y:TY} (h:∀ p ∈ spT f Y,Plain Tryz.prog p.1∧Bv Tryz.prog p.1 p.2) (hl:Ax Tryz.prog 68 Anz (sm_tk f Y)):CtxOk (X_ti f Y) :=
 Iq Am puGm (fns_cons is_gtick (fns_cons is_must A3)) (Ej (Mg (ds:=[Anz]) (by kernel_rfl) ⟨Gs (k:=4) (by kernel_rfl) rfl hl,trivial⟩) (Ej (Wd (by kernel_rfl)) Iv)) h
def A6c (f:Nat) (e:Int):TU f:=.leaf ⟨false,pnU f e⟩
def B7j (v:GB):GB:=(gmA v.1 (gmM v.1) (gmO v.1) (max 0 (W64 (gmF v.1-1))) (W64 (gmT v.1+1)) (gmS v.1),(gk v,()),())
def B1y (f:Nat) (y:Option (A0 (A6a f))):TU f:=bif isP 39 .i64 y then A6c f (panO 39 .i64 y).1 else bif isE (.exit 0) y then .leaf ⟨true,((),B7j (C3 (.exit 0) y).2)⟩ else .fail
def B1z (f:Nat) (Y:TY) (x:GB) (ms:Ar):Option (A0 (A6a f)):=iter (Adx f Y) 17 (((),()),xS x 1 (ms,gmO x.1,gk x))
def T_ti (f:Nat) (Y:TY) (x:GB):TU f:=bif gmT x.1==4000 then A6c f 3 else thY (Y.s x) [] (A6c f) fun ms=>B1y f (B1z f Y x ms)
def slE (l:TCT A8) (os:List Bool) (w fl:Int) (i:Nat) (ms:Ar):Ar⊕Int :=
 bif !C6 ms os i||Fj w fl i then .inl ms else bif Hy l (A9 ms i).1 != 0 then .inr (Hy l (A9 ms i).1) else
 bif (P2 l (A9 ms i)).2.1 != 0 then .inr 4 else .inl (B9 ms i (Agn l (A9 ms i)))
def tkF (k:CT) (s:S2):S2⊕Int:=bif k.t==4000 then .inr 3 else match An (slE k.l s.2.1 k.w k.fl) 0 k.bl.length s.1 with
 | .inr e=>.inr e
 | .inl ms=>An (tkE k) 0 16 (ms,s.2.1,s.2.2)
def Agv (x:GB):Bool:=A65 x&&decide ((gk x).length≤700000)
theorem Ao1 {x:GB} (h:Agv x=true):OkGM x.1∧(gk x).length≤700000∧(gmP x.1).length≤1000:=by
 unfold Agv at h
 simp only [Bool.and_eq_true,decide_eq_true_eq] at h
 have a:=A66 h.1
 exact ⟨a.1,h.2,a.2.2⟩
def A32 (x:GB):Option (S2⊕Int):=bif Agv x then some (tkF (ctG x.1) (gs x)) else none
def xT (x:GB) (s:S2):GB:=(gmA x.1 s.1 s.2.1 (max 0 (W64 (gmF x.1-1))) (W64 (gmT x.1+1)) 17,(s.2.2,()),())
def Bb8 {β:Type} (m:GM) (ms:Ar) (os:List Bool) (k:GM→β):β:=match m with
 | (a0,a1,a2,a3,a4,a5,a6,a7,a8,a9,a10,a11,a12,a13,a14,_,_,a17,a18,a19,_,a21,_)=>k (a0,a1,a2,a3,a4,a5,a6,a7,a8,a9,a10,a11,a12,a13,a14,ms,os,a17,max 0 (W64 (a18-1)),W64 (a19+1),17,a21,())
def B7k (f:Nat) (x:GB) (s:S2) (k:(FE_u f true).T→Tree (Dx (FE_u f))):Tree (Dx (FE_u f)):=Bb8 x.1 s.1 s.2.1 fun m=>k ((),(m,(s.2.2,()),()))
def B20 (f:Nat) (x:GB) (s:S2):(FE_u f true).T:=((),xT x s)
theorem Avb {f:Nat} (Y:Y2):(Tr (L:=FL_g f) (E:=FE_u f) (fun g=>Y g.2) (fun g=>B7k f g.2) (pnU f) ([],[],[]))=(W8 (L:=FL_g f) (E:=FE_u f) (fun g=>Y g.2) (fun g=>B20 f g.2) (pnU f) ([],[],[])):=rfl
abbrev spYT (f:Nat) (Y:Y2):SPf:=K0 K7 (FL_g f) (FE_u f) (Tr (fun g:(FL_g f).T=>Y g.2) (fun g=>B7k f g.2) (pnU f) ([],[],[]))
theorem B21 {f:Nat} {g:(FL_g f).T} {z:S2⊕Int} (h:A32 g.2=some z):(T_ti f tyG g.2).run=some (A05 (L:=FL_g f) (E:=FE_u f) (fun g=>B20 f g.2) (pnU f) g z):=by
 unfold A32 at h
 cases ho:Agv g.2 with
 | false=>rw [ho] at h;cases h
 | true =>
  rw [ho] at h
  cases h
  obtain ⟨hg,hk,hp⟩:=Ao1 ho
  unfold T_ti tkF
  show Tree.run (bif gmT g.2.1==4000 then A6c f 3 else thY (Wc g.2) [] (A6c f) fun ms=>B1y f (B1z f tyG g.2 ms))=some (A05 (L:=FL_g f) (E:=FE_u f) (fun g=>B20 f g.2) (pnU f) g (bif gmT g.2.1==4000 then .inr 3 else match An (slE (gmL g.2.1) (gmO g.2.1) (gmW g.2.1) (gmF g.2.1)) 0 (nBx g.2.1) (gmM g.2.1) with
   | .inr e=>.inr e
   | .inl ms=>An (tkE (ctG g.2.1)) 0 16 (ms,gmO g.2.1,gk g.2)))
  cases gmT g.2.1==4000 with
  | true=>rfl
  | false =>
   simp only [cond_false]
   have e1:Wc g.2=some (An (slE (gmL g.2.1) (gmO g.2.1) (gmW g.2.1) (gmF g.2.1)) 0 (nBx g.2.1) (gmM g.2.1)):=by
    unfold Wc
    rw [Hz.2 hg]
    rfl
   cases h1:An (slE (gmL g.2.1) (gmO g.2.1) (gmW g.2.1) (gmF g.2.1)) 0 (nBx g.2.1) (gmM g.2.1) with
   | inr e=>rw [h1] at e1;rw [A69 e1];rfl
   | inl ms =>
    rw [h1] at e1
    rw [A68 e1]
    have hms:ms.length=nBx g.2.1:=Az (n:=nBx g.2.1) (Inv:=fun _ (s:Ar)=>s.length=nBx g.2.1) (fun i s s' hi hl h=>Amz (m:=g.2.1) i s s' hi hl h) (nBx g.2.1) 0 _ _ (by omega) hg.ms h1
    have hy:B1z f tyG g.2 ms=some (Wp f g.2 (An (tkE (ctG g.2.1)) 0 16 (ms,gmO g.2.1,gk g.2))):=B7i (x:=g.2) (s:=(ms,gmO g.2.1,gk g.2)) (k0:=(gk g.2).length) hg.sz hg.n hp ⟨hms,hg.os,by show (gk g.2).length≤(gk g.2).length+0;omega⟩ hk
    rw [hy]
    simp only
    cases An (tkE (ctG g.2.1)) 0 16 (ms,gmO g.2.1,gk g.2) with
    | inl s=>rfl
    | inr e =>
     have h1:isP 39 .i64 (some (Wp f g.2 (.inr e)))=true:=Ni
     have h2:panO 39 .i64 (some (Wp f g.2 (.inr e)))=⟨e,((),())⟩:=J2
     unfold B1y
     rw [h1,h2]
     rfl
theorem B22 (Y:TY) (g:(FL_g 66).T):Pa (X_ti 66 Y) (Dh (X_ti 66 Y) 6) 68 (ofKs (FL_g 66).ks g.1 (FL_g 66).nx) ((FL_g 66).lay.hp g) ((FL_g 66).lay.of g).nx (Yt (FE_u 66))=T_ti 66 Y g.2:=by kernel_rfl
theorem Avc:Bv Tryz.prog 68 (spYT 66 A32):=by
 rw [spYT,Avb]
 exact W9 (Ava Aza (B1x Aza)) 6 Qa _ _ _ _ (fun g=>T_ti 66 tyG g.2) (B22 tyG) fun _ _ _ h=>B21 h
end St
end V
end Go.Proofs.YtlangijnealfjaaGreat
namespace Go.Proofs.YtlangijnealfjaaGreat
open Go.RowKit
namespace V
theorem Ha {S B:Type} {f:Nat→S→S⊕B}:∀ (k i:Nat) (s:S) (b:B),An f i k s=.inr b→∃ j t,f j t=.inr b
 | 0,_,_,_,h=>by cases h
 | k+1,i,s,b,h=>by
  unfold An at h
  cases hf:f i s with
  | inl t=>rw [hf] at h;exact Ha k (i+1) t b h
  | inr c=>rw [hf] at h;cases h;exact ⟨i,s,hf⟩
namespace St
theorem is_sTick:FnIs Tryz.prog (25,Tryz.f25):=⟨Tryz.func25,by kernel_rfl,by kernel_rfl⟩
theorem is_newGame:FnIs Tryz.prog (65,Tryz.f65):=⟨Tryz.func65,by kernel_rfl,by kernel_rfl⟩
theorem is_sTry:FnIs Tryz.prog (67,Tryz.f67):=⟨Tryz.func67,by kernel_rfl,by kernel_rfl⟩
theorem is_sTry1:FnIs Tryz.prog (128,Tryz.f128):=⟨Tryz.func128,by kernel_rfl,by kernel_rfl⟩
theorem is_clMot:FnIs Tryz.prog (126,Tryz.f126):=⟨Tryz.func126,by kernel_rfl,by kernel_rfl⟩
theorem is_clBool:FnIs Tryz.prog (127,Tryz.f127):=⟨Tryz.func127,by kernel_rfl,by kernel_rfl⟩
theorem B23 {l:TCT A8} {os:List Bool} {w fl:Int} {i:Nat} {ms:Ar} {e:Int} (h:slE l os w fl i ms=.inr e):e≠0:=by
 unfold slE at h
 cases h1:!C6 ms os i||Fj w fl i with
 | true=>rw [h1] at h;cases h
 | false =>
  rw [h1] at h
  cases h2:Hy l (A9 ms i).1 != 0 with
  | true=>rw [h2] at h;cases h;exact bne_iff_ne.1 h2
  | false =>
   rw [h2] at h
   cases h3:(P2 l (A9 ms i)).2.1 != 0 with
   | true=>rw [h3] at h;cases h;decide
   | false=>rw [h3] at h;cases h
theorem B24 {bl:List (TCT A2)} {os:List Bool} {i:Nat} {ms:Ar} {e:Int} (h:stE bl os i ms=.inr e):e≠0:=by
 unfold stE at h
 cases h1:!C6 ms os i with
 | true=>rw [h1] at h;cases h
 | false =>
  rw [h1] at h
  cases h3:(Qb (Ef bl i) (A9 ms i)).2.1 != 0 with
  | true=>rw [h3] at h;cases h;exact bne_iff_ne.1 h3
  | false=>rw [h3] at h;cases h
theorem B25 {bl:List (TCT A2)} {l:TCT A8} {t st:Int} {n:Nat} {s:S2} {e:Int} (h:mvF bl l t st n s=.inr e):e≠0:=by
 unfold mvF at h
 cases h1:An (stE bl s.2.1) 0 n s.1 with
 | inr e' =>
  rw [h1] at h
  cases h
  obtain ⟨j,t,hj⟩:=Ha _ _ _ _ h1
  exact B24 hj
 | inl ms =>
  rw [h1] at h
  obtain ⟨s',hs'⟩:=S5 (Adp (l:=l) (t:=t) (st:=st)) n 0 (ms,s.2.1,s.2.2)
  change An (lvE l t st) 0 n (ms,s.2.1,s.2.2)=.inr e at h
  rw [hs'] at h
  cases h
theorem Aak {bl:List (TCT A2)} {c:TCT Cc} {t st w fl:Int} {n:Nat} {s:S2} {e:Int} (h:seF bl c t st w fl n s=.inr e):e≠0:=by
 unfold seF at h
 cases he:(seS bl c w fl n s).2.2.1 != 0 with
 | true=>rw [he] at h;cases h;exact bne_iff_ne.1 he
 | false=>rw [he] at h;cases h
theorem B26 {b:TCT A2} {c:TCT Cc} {ps:Dss} {os:List Bool} {w fl t st:Int} {i k:Nat} {s:MK} {e:Int} (h:bpE b c ps os w fl t st i k s=.inr (.inr e)):e≠0:=by
 unfold bpE at h
 cases h1:!C6 s.1 os i||Fj w fl i with
 | true=>rw [h1] at h;cases h
 | false =>
  rw [h1] at h
  cases h2:(bmV b (A9 s.1 i) (Ff ps k) c).2.1==0 with
  | true=>rw [h2] at h;cases h
  | false =>
   rw [h2] at h
   cases h3:(bmV b (A9 s.1 i) (Ff ps k) c).2.1==4 with
   | true =>
    rw [h3] at h
    cases h
    exact beq_eq_false_iff_ne.1 h2
   | false=>rw [h3] at h;cases h
theorem B27 {bl:List (TCT A2)} {c:TCT Cc} {ps:Dss} {t st w fl:Int} {n:Nat} {s:S2} {e:Int} (h:buF bl c ps t st w fl n s=.inr e):e≠0:=by
 unfold buF at h
 obtain ⟨j,u,hj⟩:=Ha _ _ _ _ h
 unfold boE at hj
 cases hf:An (bpE (Ef bl j) c ps s.2.1 w fl t st j) 0 ps.length u with
 | inl a=>rw [hf] at hj;cases hj
 | inr y =>
  rw [hf] at hj
  obtain ⟨k,v,hk⟩:=Ha _ _ _ _ hf
  have:y=.inr e:=hj
  subst this
  exact B26 hk
theorem B28 {k:CT} {i:Nat} {s:S2} {e:Int} (h:tkE k i s=.inr e):e≠0:=by
 unfold tkE at h
 cases h1:mvF k.bl k.l k.t ((i+1:Nat):Int) k.bl.length s with
 | inr e'=>rw [h1] at h;cases h;exact B25 h1
 | inl s1 =>
  rw [h1] at h
  simp only at h
  cases h2:seF k.bl k.c k.t ((i+1:Nat):Int) k.w k.fl k.bl.length s1 with
  | inr e'=>rw [h2] at h;cases h;exact Aak h2
  | inl s2 =>
   rw [h2] at h
   simp only at h
   cases h3:buF k.bl k.c k.ps k.t ((i+1:Nat):Int) k.w k.fl k.bl.length (s2.1,s1.2.1,s2.2) with
   | inr e'=>rw [h3] at h;cases h;exact B27 h3
   | inl s3=>rw [h3] at h;cases h
theorem B29 {k:CT} {s:S2} {e:Int} (h:tkF k s=.inr e):e≠0:=by
 unfold tkF at h
 cases h0:k.t==4000 with
 | true=>rw [h0] at h;cases h;decide
 | false =>
  rw [h0] at h
  simp only [cond_false] at h
  cases h1:An (slE k.l s.2.1 k.w k.fl) 0 k.bl.length s.1 with
  | inr e' =>
   rw [h1] at h
   cases h
   obtain ⟨j,t,hj⟩:=Ha _ _ _ _ h1
   exact B23 hj
  | inl ms =>
   rw [h1] at h
   obtain ⟨j,t,hj⟩:=Ha _ _ _ _ h
   exact B28 hj
def ctS (g:TCT cGr) (s:TCT cSt):CT:=⟨A5 g,g.1,g.2.2.1,J8 g.1,s.2.2.1,s.2.2.2.1,s.2.2.2.2.1⟩
abbrev TkR:Type:=TCTs [cSt,.sl cKn,cI]
def A33 (e:Int):TkR:=(zS,[],e,())
def tkR (s:TCT cSt):S2⊕Int→TkR
 | .inl r=>((r.1,r.2.1,s.2.2.1,max 0 (W64 (s.2.2.2.1-1)),W64 (s.2.2.2.2.1+1),()),r.2.2,0,())
 | .inr e=>A33 e
def tkV (g:TCT cGr) (s:TCT cSt):TkR:=tkR s (tkF (ctS g s) (msT s,osT s,[]))
def TickV (g:TCT cGr) (s:TCT cSt):TkR:=bif Gq g s != 0 then A33 (Gq g s) else tkV g s
def B2a (r:TkR):TkR:=(etaS r.1,r.2.1,r.2.2.1,())
abbrev Avd:PureT:=Be [cGr,cSt] [cSt,.sl cKn,cI] (fun x=>decide ((x.1.1.1.size:Int)≤B0 .i64)) (fun x=>B2a (TickV x.1 x.2.1))
abbrev TTR:=Tree TkR
def gT (g:TCT cGr) (s:TCT cSt):GB:=((g.1.1,g.1.2.1,g.1.2.2.1,g.1.2.2.2.1,g.1.2.2.2.2.1,g.1.2.2.2.2.2.1.1.1,g.1.2.2.2.2.2.1.1.2.1,g.1.2.2.2.2.2.1.2.1,g.1.2.2.2.2.2.2.1,g.1.2.2.2.2.2.2.2.1,g.1.2.2.2.2.2.2.2.2.1,g.2.1,g.2.2.1.1,g.2.2.1.2.1,J8 g.1,([]++s.1),([]++s.2.1),s.2.2.1,s.2.2.2.1,s.2.2.2.2.1,0,((),(),()),()),([],()),())
def neT {β:Type} {c:Type} (l:List c) (k:Tree β):Tree β:=bif !List.isEmpty l then k else .fail
theorem Ao2 {β:Type} {c:Type} {l:List c} {k:Tree β} (h:1≤l.length):neT l k=k:=by
 cases l with
 | nil=>simp at h
 | cons _ _=>rfl
def acT {β:Type} {c:Type} (l:List c) (b:Nat) (k:Tree β):Tree β:=bif D4 [] l b then k else .fail
theorem Ao3 {β:Type} {c:Type} {l:List c} {b:Nat} {k:Tree β} (h:l.length≤1000) (hb:b≤48):acT l b k=k:=by
 unfold acT
 rw [H9 (by simp;omega) hb];rfl
def Ave (Y:Y2) (g:TCT cGr) (s:TCT cSt):TTR:=szT g.1 (bif Gq g s != 0 then .leaf (A33 (Gq g s)) else szT g.1 (neT (msT s) (acT (msT s) 48 (neT (osT s) (acT (osT s) 1 (
 thY (Y (gT g s)) z2 (fun e=>bif e != 0 then .leaf (A33 e) else .fail) fun r=>.leaf (tkR s (.inl r))))))))
abbrev plTk:List (Nat×PureT):=(101,Ad7)::plGm
theorem puTk:Ci Tryz.prog plTk:=puOk_cons is_Posts.plain Atp puGm
noncomputable def Bb9:List (Nat×Func):=[(25,Tryz.f25),(65,Tryz.f65),(67,Tryz.f67),(128,Tryz.f128),(126,Tryz.f126),(127,Tryz.f127)]
noncomputable def B7l (Y:Y2):Ctx:=A0h Tryz.prog plTk Bb9 [] [(68,spYT 66 Y)]
theorem Avf (Y:Y2) (x:TCTs [cGr,cSt]):Dh (B7l Y) 8 (.fn 25) (Eg [cGr,cSt] x) C4 0 (Ir Tryz.prog [cSt,.sl cKn,cI])=Ave Y x.1 x.2.1:=by kernel_rfl
theorem Avg:CtxOk (B7l A32):=Iq Am puTk (fns_cons is_sTick (fns_cons is_newGame (fns_cons is_sTry (fns_cons is_sTry1 (fns_cons is_clMot (fns_cons is_clBool A3)))))) Nl (fun p hp=>by
 rw [List.mem_singleton] at hp;subst hp;exact ⟨is_gtick.plain,Avc⟩)
theorem Wq {l:TCT A8}:(J8 l).length≤25:=by
 unfold J8
 cases h:Cd l==0 with
 | false=>show (0:Nat)≤25;omega
 | true =>
  have k:Cd l=0:=beq_iff_eq.1 h
  have hh:(Aw l).length≤12:=by
   unfold Cd M1 at k
   cases h1:decide (((Aw l).length:Int)<1)||(decide (((Aw l).length:Int)>12)||decide (((Co l).length:Int)>256)) with
   | true=>rw [h1] at k;cases k
   | false =>
    simp only [Bool.or_eq_false_iff,decide_eq_false_iff_not] at h1
    omega
  show (Bc l).length≤25
  rw [A12]
  omega
structure StaOk (g:TCT cGr) (s:TCT cSt):Prop where
 gr:groE g=0
 n1:1≤(A5 g).length
 n8:(A5 g).length≤8
 m:(msT s).length=(A5 g).length
 o:(osT s).length=(A5 g).length
 ok:I6 (okS g (osT s)) 0 (msT s)=true
 num:A2v (A5 g).length s=false
theorem Ao4 {g:TCT cGr} {s:TCT cSt} (h:Gq g s=0):StaOk g s:=by
 unfold Gq at h
 cases h1:groE g != 0 with
 | true=>rw [h1,cond_true] at h;exact absurd h (bne_iff_ne.1 h1)
 | false =>
  have hg:groE g=0:=bne_eq_false_iff_eq.1 h1
  rw [h1,cond_false] at h
  unfold vaE at h
  cases h2:A01 g s with
  | false=>rw [h2] at h;cases h
  | true =>
   rw [h2,cond_true] at h
   cases h3:I6 (okS g (osT s)) 0 (msT s) with
   | false=>rw [h3] at h;cases h
   | true =>
    rw [h3,cond_true] at h
    cases h4:A2v (A5 g).length s with
    | true=>rw [h4] at h;cases h
    | false =>
     have a:=Adj hg
     have b:=W4 h2
     exact ⟨hg,a.1,a.2,b.1,b.2,h3,h4⟩
theorem Avh {g:TCT cGr} {s:TCT cSt} (hs:(g.1.1.size:Int)≤B0 .i64) (h:StaOk g s):Agv (gT g s)=true:=by
 unfold Agv A65 S7
 simp only [Bool.and_eq_true,decide_eq_true_eq]
 refine ⟨⟨⟨Hz.2 ⟨hs,?_,?_,h.n8⟩,by show (0:Nat)≤900000;omega⟩,?_⟩,by show (0:Nat)≤700000;omega⟩
 ·show ([]++s.1:Ar).length=(A5 g).length
  rw [List.nil_append];exact h.m
 ·show ([]++s.2.1:List Bool).length=(A5 g).length
  rw [List.nil_append];exact h.o
 ·have:=Wq (l:=g.1)
  show (J8 g.1).length≤1000
  omega
theorem Avi {g:TCT cGr} {s:TCT cSt} (hs:(g.1.1.size:Int)≤B0 .i64) (h:StaOk g s):A32 (gT g s)=some (tkF (ctS g s) (msT s,osT s,[])):=by
 unfold A32
 rw [Avh hs h]
 rfl
theorem Avj {g:TCT cGr} {s:TCT cSt} (hs:(g.1.1.size:Int)≤B0 .i64):(Ave A32 g s).sat (fun y=>y=B2a (TickV g s)):=by
 unfold Ave TickV
 rw [E1 hs,E1 hs]
 cases h1:Gq g s != 0 with
 | true=>exact rfl
 | false =>
  have h:=Ao4 (bne_eq_false_iff_eq.1 h1)
  have hn1:=h.n1
  have hn8:=h.n8
  have hm:=h.m
  have ho:=h.o
  simp only [cond_false]
  rw [Ao2 (by omega),Ao3 (by omega) (by decide),Ao2 (by omega),Ao3 (by omega) (by decide)]
  have hy:=Avi hs h
  unfold tkV
  cases hf:tkF (ctS g s) (msT s,osT s,[]) with
  | inl r=>rw [hf] at hy;rw [A68 hy];exact rfl
  | inr e =>
   rw [hf] at hy
   rw [A69 hy,show (e != 0)=true from bne_iff_ne.2 (B29 hf)]
   exact rfl
theorem Avk:A7 Tryz.prog 25 Avd:=Bh Avg 8 (fun x=>Ave A32 x.1 x.2.1) (Avf A32) fun x hok _=>Avj (of_decide_eq_true hok)
end St
end V
end Go.Proofs.YtlangijnealfjaaGreat
namespace Go.Proofs.YtlangijnealfjaaGreat
open Go.RowKit
namespace V
namespace St
def ex2:Ar:=[((50000,60106,()),(0,190000,()),(0,-12800,()),()),((80000,60000,()),(0,0,()),(0,0,()),())]
end St
end V
end Go.Proofs.YtlangijnealfjaaGreat
namespace Go.Proofs.YtlangijnealfjaaGreat
open Go.RowKit
namespace V
namespace St
end St
end V
end Go.Proofs.YtlangijnealfjaaGreat
