import Derived.Test.YtcfanlgpkefogaaGreatBA
namespace Go.Proofs.YtcfanlgpkefogaaGreat
open Go.RowKit
namespace V
namespace St
abbrev kPt:List SK:=[.d cI,.d cI]
def p0:SKTs kPt:=(0,0,())
end St
end V
end Go.Proofs.YtcfanlgpkefogaaGreat
namespace Go.Proofs.YtcfanlgpkefogaaGreat
open Go.RowKit
namespace V
def isL {A B:Type}:Option (A⊕B)→Bool
 | some (.inl _)=>true
 | _=>false
def isR {A B:Type}:Option (A⊕B)→Bool
 | some (.inr _)=>true
 | _=>false
def gL {A B:Type} (d:A):Option (A⊕B)→A
 | some (.inl a)=>a
 | _=>d
def gR {A B:Type} (d:B):Option (A⊕B)→B
 | some (.inr b)=>b
 | _=>d
def FLay.dfl (F:FLay):F.T:=(dflKs F.ks,D17 F.bs)
theorem Bsj {α:Type} {t:Tree α} {R S:α→Prop} (h:t.sat R) (k:∀ x,R x→S x):t.sat S:=by
 induction t with
 | leaf a=>exact k a h
 | need p t ih=>exact ⟨h.1,ih h.2⟩
 | br c t e i1 i2=>exact ⟨fun x=>i1 (h.1 x),fun x=>i2 (h.2 x)⟩
 | fail=>exact h
def Cy8 {L:FLay} {E:Bool→FLay} (c:L.T→Bool) (r:L.T→(E true).T) (g:L.T):Tree (Bcy E):=.br (c g) (.leaf ⟨true,r g⟩) .fail
theorem Byo {X:Ctx} (hX:CtxOk X) {f:FuncId} (m:Nat) {probe:Baj→List AV→Option (List Nat)} {L:FLay} {E:Bool→FLay} (hE:∀ b,L.nx≤(E b).nx) (c:L.T→Bool) (r:L.T→(E true).T) (T:L.T→Tree (Bcy E))
  (he:∀ g,Bn1 X (Bcx X m) f (ofKs L.ks g.1 L.nx) (L.lay.hp g) (L.lay.of g).nx (Bus E)=T g)
  (h:∀ g,L.lay.WF g→c g=true→(T g).run=some ⟨true,r g⟩):Bbp X.P f (Bic probe L E (Cy8 c r)) :=
 C4d hX m hE fun g R hw hf=>by
  rw [he]
  cases hc:c g with
  | false=>exact (hf.2 hc).elim
  | true=>exact Bsj (Tree.sat_run (h g hw hc) (hf.1 hc)) fun x hx _=>hx
namespace St
theorem is_rolls:FnIs Tryz.prog (137,Tryz.f137):=⟨Tryz.func137,by kernel_rfl,by kernel_rfl⟩
theorem is_flies:FnIs Tryz.prog (98,Tryz.f98):=⟨Tryz.func98,by kernel_rfl,by kernel_rfl⟩
theorem is_knock:FnIs Tryz.prog (100,Tryz.f100):=⟨Tryz.func100,by kernel_rfl,by kernel_rfl⟩
theorem is_must:FnIs Tryz.prog (49,Tryz.f49):=⟨Tryz.func49,by kernel_rfl,by kernel_rfl⟩
theorem is_gslow:FnIs Tryz.prog (101,Tryz.f101):=⟨Tryz.func101,by kernel_rfl,by kernel_rfl⟩
theorem is_gmove:FnIs Tryz.prog (102,Tryz.f102):=⟨Tryz.func102,by kernel_rfl,by kernel_rfl⟩
theorem is_gsettle:FnIs Tryz.prog (50,Tryz.f50):=⟨Tryz.func50,by kernel_rfl,by kernel_rfl⟩
theorem is_gbump:FnIs Tryz.prog (103,Tryz.f103):=⟨Tryz.func103,by kernel_rfl,by kernel_rfl⟩
theorem is_gtick:FnIs Tryz.prog (54,Tryz.f54):=⟨Tryz.func54,by kernel_rfl,by kernel_rfl⟩
theorem is_Tick1:FnIs Tryz.prog (53,Tryz.f53):=⟨Tryz.func53,by kernel_rfl,by kernel_rfl⟩
theorem is_Strike1:FnIs Tryz.prog (46,Tryz.f46):=⟨Tryz.func46,by kernel_rfl,by kernel_rfl⟩
abbrev kGm (f:Nat):List SK:=[.d .s,.d cI,.d cI,.d cI,.d (.sl Bbm),.d cI,.d cI,.d cI,.d cI,.d cI,.d (.sl Bc1),.d (.sl Fq),.d cI,.d cI,.d (.sl Bag),.w 2 60 Baw,.o 4 .b,.d cI,.d cI,.d cI,.d cI,.f f [] [.p 1 0 0 0]]
abbrev bsG (f:Nat):List BK:=[(0,137,kGm f),(1,48,[.o 58 cKn])]
abbrev GM:Type:=SKTs (kGm 0)
abbrev Kns:Type:=List (TCT cKn)
abbrev Bak:Type:=List (TCT Baw)
def gmX (m:GM):SKTs kGr:=(m.1,m.2.1,m.2.2.1,m.2.2.2.1,m.2.2.2.2.1,m.2.2.2.2.2.1,m.2.2.2.2.2.2.1,m.2.2.2.2.2.2.2.1,m.2.2.2.2.2.2.2.2.1,m.2.2.2.2.2.2.2.2.2.1,m.2.2.2.2.2.2.2.2.2.2.1,m.2.2.2.2.2.2.2.2.2.2.2.1,m.2.2.2.2.2.2.2.2.2.2.2.2.1,m.2.2.2.2.2.2.2.2.2.2.2.2.2.1,())
def gmP (m:GM):List (TCT Bag):=m.2.2.2.2.2.2.2.2.2.2.2.2.2.2.1
def gmM (m:GM):Bak:=m.2.2.2.2.2.2.2.2.2.2.2.2.2.2.2.1
def gmO (m:GM):List Bool:=m.2.2.2.2.2.2.2.2.2.2.2.2.2.2.2.2.1
def gmW (m:GM):Int:=m.2.2.2.2.2.2.2.2.2.2.2.2.2.2.2.2.2.1
def gmF (m:GM):Int:=m.2.2.2.2.2.2.2.2.2.2.2.2.2.2.2.2.2.2.1
def gmT (m:GM):Int:=m.2.2.2.2.2.2.2.2.2.2.2.2.2.2.2.2.2.2.2.1
def gmS (m:GM):Int:=m.2.2.2.2.2.2.2.2.2.2.2.2.2.2.2.2.2.2.2.2.1
def gmU (m:GM) (ms:Bak) (os:List Bool):GM:=(m.1,m.2.1,m.2.2.1,m.2.2.2.1,m.2.2.2.2.1,m.2.2.2.2.2.1,m.2.2.2.2.2.2.1,m.2.2.2.2.2.2.2.1,m.2.2.2.2.2.2.2.2.1,m.2.2.2.2.2.2.2.2.2.1,m.2.2.2.2.2.2.2.2.2.2.1,m.2.2.2.2.2.2.2.2.2.2.2.1,m.2.2.2.2.2.2.2.2.2.2.2.2.1,m.2.2.2.2.2.2.2.2.2.2.2.2.2.1,m.2.2.2.2.2.2.2.2.2.2.2.2.2.2.1,ms,os,m.2.2.2.2.2.2.2.2.2.2.2.2.2.2.2.2.2.1,m.2.2.2.2.2.2.2.2.2.2.2.2.2.2.2.2.2.2.1,m.2.2.2.2.2.2.2.2.2.2.2.2.2.2.2.2.2.2.2.1,m.2.2.2.2.2.2.2.2.2.2.2.2.2.2.2.2.2.2.2.2.1,m.2.2.2.2.2.2.2.2.2.2.2.2.2.2.2.2.2.2.2.2.2.1,())
def gmB (m:GM):List (TCT Fq):=blX (gmX m)
def gmL (m:GM):TCT Bal:=lwG (gmX m)
abbrev GB:Type:=GM×SKTs [.o 0 cKn]×Unit
def gb (m:GM) (k:Kns):GB:=(m,(k,()),())
def plGm:List (Nat×PureT):=(79,C1k)::(18,C1i)::(19,Cmq)::(39,Cmk)::(138,Cmo)::(99,C35)::plS4
def Cqp:List AV→List Nat
 | []=>[]
 | .own i::l=>i::Cqp l
 | _::l=>Cqp l
def Bik (hp:Baj) (args:List AV):Option (List Nat):=match args with
 | .ptr id _ _ _::_=>match hp id with
  | some (.blk b)=>match nth b.cs 21 with
   | some (.fn _ _ [.ptr k _ _ _])=>match hp k with
    | some (.blk c)=>some (id::k::(Cqp b.cs++Cqp c.cs))
    | _=>none
   | _=>none
  | _=>none
 | _=>none
def C1s (f:Nat):FLay:={ ks:=[.p 0 0 0 0,.d cI],bs:=bsG f,nx:=1000 }
def D6w (f:Nat):FLay:={ ks:=[.d .b],bs:=bsG f,nx:=1000 }
def FN:FLay:={ ks:=[.i 49 .i64],bs:=[],nx:=1000 }
def Bvp (f:Nat) (b:Bool):FLay:=bif b then D6w f else FN
def inO {β:Type} (n:Nat) (i:Int) (k:Tree β):Tree β:=inN n i (bif decide (Int.toNat i<n) then k else .fail)
theorem Bfb {β:Type} {n:Nat} {i:Int} {k:Tree β} (h:0≤i∧i<(n:Int)):inO n i k=k:=by
 unfold inO
 rw [Bde h,decide_eq_true (by omega)];rfl
def Bbq (ms:Bak) (os:List Bool) (i:Nat):Bool:=!Bas os i (Bap .b)&&C1r (Bas ms i (Bap Baw))
def Bdj (w fl i:Int):Bool:=(i==w)&&decide (fl>0)
def Bvq (ms:Bak) (os:List Bool) (i:Int):Bool:=decide (0≤i∧i<(os.length:Int)∧i<(ms.length:Int))
def lfB (f:Nat) (b:Bool) (x:GB):Tree (Bcy (Bvp f)):=.leaf ⟨true,((b,()),x)⟩
def T_ro (f:Nat) (i:Int) (m:GM) (x:GB):Tree (Bcy (Bvp f)):=inO (gmO m).length i (bif !Bas (gmO m) (Int.toNat i) (Bap .b) then inO (gmM m).length i (lfB f (C1r (Bas (gmM m) (Int.toNat i) (Bap Baw))) x) else lfB f false x)
abbrev C_ro (f:Nat) (g:(C1s f).T):Bool:=Bvq g.2.1.2.2.2.2.2.2.2.2.2.2.2.2.2.2.2.1 g.2.1.2.2.2.2.2.2.2.2.2.2.2.2.2.2.2.2.1 g.1.2.1
def V_ro (f:Nat) (g:(C1s f).T):(Bvp f true).T:=((Bbq g.2.1.2.2.2.2.2.2.2.2.2.2.2.2.2.2.2.1 g.2.1.2.2.2.2.2.2.2.2.2.2.2.2.2.2.2.2.1 (Int.toNat g.1.2.1),()),g.2)
def C_fl (f:Nat) (_:(C1s f).T):Bool:=true
def V_fl (f:Nat) (g:(C1s f).T):(Bvp f true).T:=((Bdj g.2.1.2.2.2.2.2.2.2.2.2.2.2.2.2.2.2.2.2.1 g.2.1.2.2.2.2.2.2.2.2.2.2.2.2.2.2.2.2.2.2.1 g.1.2.1,()),g.2)
def T_fl (f:Nat) (i:Int) (m:GM) (x:GB):Tree (Bcy (Bvp f)):=bif i==gmW m then lfB f (decide (gmF m>0)) x else lfB f false x
theorem Brh {f:Nat} (b:Bool):1000≤(Bvp f b).nx:=by cases b <;> exact Nat.le_refl _
theorem Cj8 {f:Nat} {g:(C1s f).T} (h:C_ro f g=true):(T_ro f g.1.2.1 g.2.1 g.2).run=some ⟨true,V_ro f g⟩:=by
 have hd:0≤g.1.2.1∧g.1.2.1<((gmO g.2.1).length:Int)∧g.1.2.1<((gmM g.2.1).length:Int):=of_decide_eq_true h
 unfold V_ro
 show (T_ro f g.1.2.1 g.2.1 g.2).run=some (⟨true,((Bbq (gmM g.2.1) (gmO g.2.1) (Int.toNat g.1.2.1),()),g.2)⟩:Bcy (Bvp f))
 unfold T_ro Bbq
 rw [Bfb ⟨hd.1,hd.2.1⟩,Bfb ⟨hd.1,hd.2.2⟩]
 cases Bas (gmO g.2.1) (Int.toNat g.1.2.1) (Bap .b) <;> rfl
theorem Cj9 {f:Nat} {g:(C1s f).T}:(T_fl f g.1.2.1 g.2.1 g.2).run=some ⟨true,V_fl f g⟩:=by
 unfold V_fl
 show (T_fl f g.1.2.1 g.2.1 g.2).run=some (⟨true,((Bdj (gmW g.2.1) (gmF g.2.1) g.1.2.1,()),g.2)⟩:Bcy (Bvp f))
 unfold T_fl Bdj
 cases g.1.2.1==gmW g.2.1 <;> rfl
abbrev sp_ro (f:Nat):Baj→Nat→List AV→Tree (Out×Baj×Nat):=Bic Bik (C1s f) (Bvp f) (Cy8 (fun g=>Bvq g.2.1.2.2.2.2.2.2.2.2.2.2.2.2.2.2.2.1 g.2.1.2.2.2.2.2.2.2.2.2.2.2.2.2.2.2.2.1 g.1.2.1) (V_ro f))
abbrev sp_fl (f:Nat):Baj→Nat→List AV→Tree (Out×Baj×Nat):=Bic Bik (C1s f) (Bvp f) (Cy8 (fun _=>true) (V_fl f))
theorem puGm:Bc7 Tryz.prog plGm:=puOk_cons is_sOn.plain Cva (puOk_cons is_CellAt.plain Cil (puOk_cons is_Slow.plain D0s (puOk_cons is_Step.plain D0p (puOk_cons is_Bump.plain D0q (puOk_cons is_Settle.plain Cls puS4)))))
noncomputable def D6x:Ctx:=ctx Tryz.prog plGm [(137,Tryz.f137),(98,Tryz.f98)]
theorem Bri:CtxOk D6x:=Baq Bao puGm (fns_cons is_rolls (fns_cons is_flies V1))
theorem Bet:Bbp Tryz.prog 137 (sp_ro 53):=Byo Bri 6 Brh (C_ro 53) (V_ro 53) (fun g=>T_ro 53 g.1.2.1 g.2.1 g.2) (fun g=>by kernel_rfl) fun _ _ h=>Cj8 h
theorem Beu:Bbp Tryz.prog 98 (sp_fl 53):=Byo Bri 6 Brh (C_fl 53) (V_fl 53) (fun g=>T_fl 53 g.1.2.1 g.2.1 g.2) (fun g=>by kernel_rfl) fun _ _ _=>Cj9
theorem Brj:Bbp Tryz.prog 137 (sp_ro 46):=Byo Bri 6 Brh (C_ro 46) (V_ro 46) (fun g=>T_ro 46 g.1.2.1 g.2.1 g.2) (fun g=>by kernel_rfl) fun _ _ h=>Cj8 h
theorem Brk:Bbp Tryz.prog 98 (sp_fl 46):=Byo Bri 6 Brh (C_fl 46) (V_fl 46) (fun g=>T_fl 46 g.1.2.1 g.2.1 g.2) (fun g=>by kernel_rfl) fun _ _ _=>Cj9
end St
end V
end Go.Proofs.YtcfanlgpkefogaaGreat
namespace Go.Proofs.YtcfanlgpkefogaaGreat
open Go.RowKit
namespace V
def Bsk {L:FLay} {E:Bool→FLay} {A:Type} (Y:L.T→Option (A⊕Int)) (mk:L.T→A→(E true).T) (pn:Int→(E false).T) (d:A) (g:L.T):Tree (Bcy E) :=
 .br (isL (Y g)) (.leaf ⟨true,mk g (gL d (Y g))⟩) (.br (isR (Y g)) (.leaf ⟨false,pn (gR 0 (Y g))⟩) .fail)
def Bvr {L:FLay} {E:Bool→FLay} {A:Type} (mk:L.T→A→(E true).T) (pn:Int→(E false).T) (g:L.T):A⊕Int→Bcy E
 | .inl a=>⟨true,mk g a⟩
 | .inr e=>⟨false,pn e⟩
theorem Cja {L:FLay} {E:Bool→FLay} {A:Type} {Y:L.T→Option (A⊕Int)} {mk:L.T→A→(E true).T} {pn:Int→(E false).T} {d:A} {g:L.T} {R:Bcy E→Prop} (h:(Bsk Y mk pn d g).sat R):∃ z,Y g=some z∧R (Bvr mk pn g z):=by
 unfold Bsk at h
 obtain ⟨h1,h2⟩:=h
 cases hF:Y g with
 | none =>
  rw [hF] at h2
  exact ((h2 rfl).2 rfl).elim
 | some z =>
  cases z with
  | inl a=>rw [hF] at h1;exact ⟨_,rfl,h1 rfl⟩
  | inr b=>rw [hF] at h2;exact ⟨_,rfl,(h2 rfl).1 rfl⟩
theorem Bph {X:Ctx} (hX:CtxOk X) {f:FuncId} (m:Nat) {probe:Baj→List AV→Option (List Nat)} {L:FLay} {E:Bool→FLay} (hE:∀ b,L.nx≤(E b).nx) {A:Type} (Y:L.T→Option (A⊕Int)) (mk:L.T→A→(E true).T) (pn:Int→(E false).T) (d:A) (T:L.T→Tree (Bcy E))
  (he:∀ g,Bn1 X (Bcx X m) f (ofKs L.ks g.1 L.nx) (L.lay.hp g) (L.lay.of g).nx (Bus E)=T g)
  (h:∀ g z,L.lay.WF g→Y g=some z→(T g).run=some (Bvr mk pn g z)):Bbp X.P f (Bic probe L E (Bsk Y mk pn d)) :=
 C4d hX m hE fun g R hw hf=>by
  rw [he]
  obtain ⟨z,hz,hr⟩:=Cja hf
  exact Bsj (Tree.sat_run (h g z hw hz) hr) fun x hx _=>hx
namespace St
def nBx (m:GM):Nat:=(gmB m).length
def Cjb (m:GM):Bool:=decide ((m.1.size:Int)≤Bb4 .i64)&&(decide ((gmM m).length=nBx m)&&(decide ((gmO m).length=nBx m)&&decide (nBx m≤8)))
structure OkGM (m:GM):Prop where
 sz:(m.1.size:Int)≤Bb4 .i64
 ms:(gmM m).length=nBx m
 os:(gmO m).length=nBx m
 n:nBx m≤8
theorem Bfc {m:GM}:Cjb m=true ↔ OkGM m:=by
 unfold Cjb
 simp only [Bool.and_eq_true,decide_eq_true_eq]
 exact ⟨fun h=>⟨h.1,h.2.1,h.2.2.1,h.2.2.2⟩,fun h=>⟨h.sz,h.ms,h.os,h.n⟩⟩
def FL_g (f:Nat):FLay:={ ks:=[.p 0 0 0 0],bs:=bsG f,nx:=1000 }
def D6y (f:Nat):FLay:={ ks:=[],bs:=bsG f,nx:=1000 }
def FE_u (f:Nat) (b:Bool):FLay:=bif b then D6y f else FN
theorem Blm {f:Nat} (b:Bool):1000≤(FE_u f b).nx:=by cases b <;> exact Nat.le_refl _
def pnU (f:Nat) (e:Int):(FE_u f false).T:=((e,()),())
def mkU (f:Nat) (x:GB):(FE_u f true).T:=((),x)
def spG (f:Nat):List (Nat×(Baj→Nat→List AV→Tree (Out×Baj×Nat))):=[(137,sp_ro f),(98,sp_fl f)]
theorem Bit {P:Program} {f g:Nat} {sp sq:Baj→Nat→List AV→Tree (Out×Baj×Nat)} (h:Plain P f) (k:Bbp P f sp) (h2:Plain P g) (k2:Bbp P g sq):∀ p ∈ [(f,sp),(g,sq)],Plain P p.1∧Bbp P p.1 p.2:=fun p hp=>by
 simp only [List.mem_cons,List.not_mem_nil,or_false] at hp
 rcases hp with rfl | rfl
 ·exact ⟨h,k⟩
 ·exact ⟨h2,k2⟩
theorem Biu {P:Program} {fns:List (Nat×Func)}:∀ p ∈ fns,∀ d ∈ Ban (bodyOf p.2),∀ g,Bc0 ([]:List ((Nat×Nat)×(St→Tree (XE×St)))) p.1 (keyOf d)=some g→Bb0 P p.1 d g:=fun _ _ _ _ _ h=>by simp [Bc0] at h
noncomputable def D6z (f:Nat):Ctx:=Buv Tryz.prog plGm [(49,Tryz.f49)] [] (spG f)
theorem Cqq {f:Nat} (h1:Bbp Tryz.prog 137 (sp_ro f)) (h2:Bbp Tryz.prog 98 (sp_fl f)):CtxOk (D6z f):=Bgb Bao puGm (fns_cons is_must V1) Biu (Bit is_rolls.plain h1 is_flies.plain h2)
noncomputable def Cvf:Code:=(Ban (bodyOf Tryz.f101)).getD 0 .skip
def Ccv (f:Nat):Lay:={ keys:=[0,13,14],ks:=[.p 0 0 0 0,.d cI,.d cI],bs:=bsG f,n:=80,nx:=2000,marks:=[] }
def D70 (f:Nat):Lay:={ keys:=[],ks:=[],bs:=bsG f,n:=80,nx:=2000,marks:=[] }
def D71:Lay:={ keys:=[],ks:=[],bs:=[],n:=80,nx:=2000,marks:=[] }
def C63 (f:Nat):XE→Lay:=fun e=>match e with | .panic _=>D71 | _=>D70 f
def Bhu (l:TCT Bal) (m:TCT Baw):TCTs [cPt,cI]:=Bhl (W64 (m.2.1.1+(Bgf l m.1).2.1)) (W64 (m.2.1.2.1+(Bgf l m.1).2.2.1)) (Bgf l m.1).1
def C64 (l:TCT Bal) (m:TCT Baw):TCT Baw:=(m.1,((Bhu l m).1.1,(Bhu l m).1.2.1,()),m.2.2.1,())
def Bah (ms:Bak) (i:Nat):TCT Baw:=Bas ms i (Bap Baw)
def gk (x:GB):Kns:=x.2.1.1
def Bmc (f:Nat) (x:GB) (n i:Int) (ms:Bak):(Ccv f).T:=(((),n,i,()),(gb (gmU x.1 ms (gmO x.1)) (gk x)))
def Cjc (f:Nat) (x:GB) (ms:Bak):V2 (C63 f):=⟨.exit 0,((),(gb (gmU x.1 ms (gmO x.1)) (gk x)))⟩
def Cjd (f:Nat) (e:Int):V2 (C63 f):=⟨.panic (.ifc 49 (.int .i64 e)),((),())⟩
abbrev TSw (f:Nat):=Tree ((Ccv f).T⊕V2 (C63 f))
def inT {β:Type} (n:Nat) (i:Int) (k:Tree β):Tree β:=bif decide (Int.toNat i<n) then k else .fail
theorem C65 {β:Type} {n:Nat} {i:Int} {k:Tree β} (h:0≤i∧i<(n:Int)):inT n i k=k:=by unfold inT;rw [decide_eq_true (by omega)];rfl
def Cje (f:Nat) (x:GB) (n i:Int) (ms:Bak):TSw f :=
 bif Be0 (gmL x.1) (Bah ms (Int.toNat i)).1 != 0 then .leaf (.inr (Cjd f (Be0 (gmL x.1) (Bah ms (Int.toNat i)).1))) else inT ms.length i (inT ms.length i (
  bif (Bhu (gmL x.1) (Bah ms (Int.toNat i))).2.1 != 0 then .leaf (.inr (Cjd f 4)) else inT ms.length i (.leaf (.inl (Bmc f x n (W64 (i+1)) (Bb8 ms (Int.toNat i) (C64 (gmL x.1) (Bah ms (Int.toNat i)))))))))
def szG {β:Type} (m:GM) (k:Tree β):Tree β:=bif decide ((m.1.size:Int)≤Bb4 .i64) then k else .fail
def Bsl (f:Nat) (x:GB) (n i:Int) (ms:Bak):TSw f:=bif decide (i<n) then bif Bvq ms (gmO x.1) i then
 bif !Bbq ms (gmO x.1) (Int.toNat i) then .leaf (.inl (Bmc f x n (W64 (i+1)) ms)) else bif Bdj (gmW x.1) (gmF x.1) i then .leaf (.inl (Bmc f x n (W64 (i+1)) ms)) else
 inO ms.length i (szG x.1 (Cje f x n i ms)) else .fail else .leaf (.inr (Cjc f x ms))
def Cjf (f:Nat) (g:(Ccv f).T):TSw f:=Bsl f g.2 g.1.2.1 g.1.2.2.1 (gmM g.2.1)
def fu_sw (f:Nat) (g:(Ccv f).T):Nat:=Int.toNat g.1.2.1+1
def sm_sw (f:Nat):St→Tree (XE×St):=Baz (Ccv f) (C63 f) (finP 49 .i64 [.exit 0] (Cjf f) (fu_sw f))
theorem Cqr {f:Nat} (e:XE):(Ccv f).nx≤(C63 f e).nx:=by cases e <;> exact Nat.le_refl _
theorem Cy9:Bb0 Tryz.prog 101 Cvf (sm_sw 53):=Bm7 (Cqq Bet Beu) 7 _ _ _ Cqr _ _ _ _ (fu_sw 53) (fun g=>by kernel_rfl)
def C1t (m:GM) (i:Nat) (ms:Bak):Bak⊕Int :=
 bif !Bbq ms (gmO m) i||Bdj (gmW m) (gmF m) i then .inl ms else bif Be0 (gmL m) (Bah ms i).1 != 0 then .inr (Be0 (gmL m) (Bah ms i).1) else
 bif (Bhu (gmL m) (Bah ms i)).2.1 != 0 then .inr 4 else .inl (Bb8 ms i (C64 (gmL m) (Bah ms i)))
def Bsm (f:Nat) (x:GB):Bak⊕Int→V2 (C63 f)
 | .inl ms=>Cjc f x ms
 | .inr e=>Cjd f e
theorem Bbb {α:Type}:∀ (l:List α) (i:Nat) (x:α),(Bb8 l i x).length=l.length
 | [],_,_=>rfl
 | _::_,0,_=>rfl
 | _::l,i+1,x=>by simp only [Bb8,List.length_cons,Bbb l i x]
theorem Cjg {m:GM} {n:Nat} (i:Nat) (s s':Bak) (_:i<n) (hi:s.length=n) (h:C1t m i s=.inl s'):s'.length=n:=by
 unfold C1t at h
 cases h1:!Bbq s (gmO m) i||Bdj (gmW m) (gmF m) i with
 | true=>rw [h1] at h;cases h;exact hi
 | false =>
  rw [h1] at h
  cases h2:Be0 (gmL m) (Bah s i).1 != 0 with
  | true=>rw [h2] at h;cases h
  | false =>
   rw [h2] at h
   cases h3:(Bhu (gmL m) (Bah s i)).2.1 != 0 with
   | true=>rw [h3] at h;cases h
   | false=>rw [h3] at h;cases h;rw [Bbb];exact hi
theorem Byp {ms:Bak} {os:List Bool} {i n:Nat} (h:i<n) (h1:ms.length=n) (h2:os.length=n):Bvq ms os (i:Int)=true:=by
 unfold Bvq
 exact decide_eq_true (by omega)
theorem D3a {f:Nat} {x:GB} {ms:Bak} (hx:OkGM x.1) (hm:ms.length=nBx x.1):iter (Cjf f) (nBx x.1+1) (Bmc f x (nBx x.1) 0 ms)=some (Bsm f x (Bat (C1t x.1) 0 (nBx x.1) ms)):=by
 have hn:(nBx x.1:Int)≤Bb4 .i64:=by have:=hx.n;show (nBx x.1:Int)≤9223372036854775807;omega
 refine Bgn (nBx x.1) (fun i ms=>Bmc f x (nBx x.1) i ms) (C1t x.1) (Bsm f x) (fun _ ms=>ms.length=nBx x.1) (fun i ms hi hl=>?_) Cjg (fun ms hl=>?_) (nBx x.1) 0 ms (by omega) hm
 ·show (Bsl f (gb (gmU x.1 ms (gmO x.1)) (gk x)) (nBx x.1) (i:Int) ms).run=_
  have e:∀ y z,Bmc f (gb (gmU x.1 ms (gmO x.1)) (gk x)) (nBx x.1) y z=Bmc f x (nBx x.1) y z:=fun _ _=>rfl
  unfold Bsl
  have hin:=Byp hi hl hx.os
  show Tree.run (bif decide ((i:Int)<(nBx x.1:Int)) then bif Bvq ms (gmO x.1) (i:Int) then bif !Bbq ms (gmO x.1) i then .leaf (.inl (Bmc f x (nBx x.1) (W64 ((i:Int)+1)) ms)) else bif Bdj (gmW x.1) (gmF x.1) i then .leaf (.inl (Bmc f x (nBx x.1) (W64 ((i:Int)+1)) ms)) else
   inO ms.length i (szG x.1 (Cje f x (nBx x.1) i ms)) else .fail else .leaf (.inr (Cjc f x ms)):TSw f)=_
  have hsz:∀ k:TSw f,szG x.1 k=k:=fun k=>by unfold szG;rw [decide_eq_true hx.sz];rfl
  rw [decide_eq_true (show (i:Int)<(nBx x.1:Int) by omega),hin,Bfb (by omega),hsz,Bdd hi hn]
  unfold C1t Cje
  rw [C65 (by omega),C65 (by omega),C65 (by omega),show Int.toNat (i:Int)=i from rfl,Bdd hi hn]
  cases Bbq ms (gmO x.1) i with
  | false=>rfl
  | true =>
   cases Bdj (gmW x.1) (gmF x.1) i with
   | true=>rfl
   | false =>
    simp only [Bool.not_true,Bool.or_self,cond_true,cond_false]
    cases Be0 (gmL x.1) (Bah ms i).1 != 0 with
    | true=>rfl
    | false =>
     simp only [cond_false]
     cases (Bhu (gmL x.1) (Bah ms i)).2.1 != 0 <;> rfl
 ·show (Bsl f (gb (gmU x.1 ms (gmO x.1)) (gk x)) (nBx x.1) (nBx x.1) ms).run=_
  unfold Bsl
  rw [decide_eq_false (show ¬ (nBx x.1:Int)<(nBx x.1:Int) by omega)]
  rfl
end St
end V
end Go.Proofs.YtcfanlgpkefogaaGreat
namespace Go.Proofs.YtcfanlgpkefogaaGreat
open Go.RowKit
namespace V
namespace St
noncomputable def D72 (f:Nat):Ctx:=Buv Tryz.prog plGm [(101,Tryz.f101)] [((101,1),sm_sw f)] (spG f)
theorem Cqs {f:Nat} (h1:Bbp Tryz.prog 137 (sp_ro f)) (h2:Bbp Tryz.prog 98 (sp_fl f)) (hl:Bb0 Tryz.prog 101 Cvf (sm_sw f)):CtxOk (D72 f) :=
 Bgb Bao puGm (fns_cons is_gslow V1) (Bbv (by kernel_rfl) (by kernel_rfl) hl) (Bit is_rolls.plain h1 is_flies.plain h2)
def Cjh (f:Nat) (x:GB):Option (V2 (C63 f)):=iter (Cjf f) (nBx x.1+1) (Bmc f x (nBx x.1) 0 (gmM x.1))
def T_slw (f:Nat) (x:GB):Tree (Bcy (FE_u f)):=bif isP 49 .i64 (Cjh f x) then .leaf ⟨false,pnU f (panO 49 .i64 (Cjh f x)).1⟩ else bif isE (.exit 0) (Cjh f x) then .leaf ⟨true,((),(Bcg (.exit 0) (Cjh f x)).2)⟩ else .fail
def Bsn (x:GB):Option (Bak⊕Int):=bif Cjb x.1 then some (Bat (C1t x.1) 0 (nBx x.1) (gmM x.1)) else none
def C66 (f:Nat) (x:GB) (ms:Bak):(FE_u f true).T:=mkU f (gb (gmU x.1 ms (gmO x.1)) (gk x))
abbrev sp_slw (f:Nat):Baj→Nat→List AV→Tree (Out×Baj×Nat):=Bic Bik (FL_g f) (FE_u f) (Bsk (fun g:(FL_g f).T=>Bsn g.2) (fun g=>C66 f g.2) (pnU f) [])
theorem Cqt {f:Nat} {g:(FL_g f).T} {z:Bak⊕Int} (h:Bsn g.2=some z):(T_slw f g.2).run=some (Bvr (L:=FL_g f) (E:=FE_u f) (fun g=>C66 f g.2) (pnU f) g z):=by
 unfold Bsn at h
 cases ho:Cjb g.2.1 with
 | false=>rw [ho] at h;cases h
 | true =>
  rw [ho] at h
  cases h
  have hy:Cjh f g.2=some (Bsm f g.2 (Bat (C1t g.2.1) 0 (nBx g.2.1) (gmM g.2.1))):=D3a (Bfc.1 ho) (Bfc.1 ho).ms
  unfold T_slw
  rw [hy]
  cases Bat (C1t g.2.1) 0 (nBx g.2.1) (gmM g.2.1) with
  | inl ms=>rfl
  | inr e =>
   have h1:isP 49 .i64 (some (Bsm f g.2 (.inr e)))=true:=Blf
   have h2:panO 49 .i64 (some (Bsm f g.2 (.inr e)))=⟨e,((),())⟩:=Bhd
   rw [h1,h2]
   rfl
theorem Cji:Bbp Tryz.prog 101 (sp_slw 53):=Bph (Cqs Bet Beu Cy9) 6 Blm _ _ _ _ (fun g=>T_slw 53 g.2) (fun g=>by kernel_rfl) fun _ _ _ h=>Cqt h
end St
end V
end Go.Proofs.YtcfanlgpkefogaaGreat
namespace Go.Proofs.YtcfanlgpkefogaaGreat
open Go.RowKit
namespace V
theorem Bso {P:Program} {f:Nat} {fn:Func} {loops:List ((Nat×Nat)×(St→Tree (XE×St)))} (h:Ban (bodyOf fn)=[]):∀ d ∈ Ban (bodyOf fn),∀ g,Bc0 loops f (keyOf d)=some g→Bb0 P f d g:=by
 intro d hd
 rw [h] at hd
 cases hd
theorem Biv {P:Program} {loops:List ((Nat×Nat)×(St→Tree (XE×St)))}:∀ q ∈ ([]:List (Nat×Func)),∀ d ∈ Ban (bodyOf q.2),∀ g,Bc0 loops q.1 (keyOf d)=some g→Bb0 P q.1 d g:=fun _ h=>nomatch h
theorem Be1 {P:Program} {f:Nat} {fn:Func} {rest:List (Nat×Func)} {loops:List ((Nat×Nat)×(St→Tree (XE×St)))} (h:∀ d ∈ Ban (bodyOf fn),∀ g,Bc0 loops f (keyOf d)=some g→Bb0 P f d g)
  (hr:∀ q ∈ rest,∀ d ∈ Ban (bodyOf q.2),∀ g,Bc0 loops q.1 (keyOf d)=some g→Bb0 P q.1 d g):∀ q ∈ (f,fn)::rest,∀ d ∈ Ban (bodyOf q.2),∀ g,Bc0 loops q.1 (keyOf d)=some g→Bb0 P q.1 d g:=by
 intro q hq
 rcases List.mem_cons.1 hq with rfl | hq
 ·exact h
 ·exact hr q hq
def Cvg (P:Program) (f:Nat) (loops:List ((Nat×Nat)×(St→Tree (XE×St)))):List Code→Prop
 | []=>True
 | d::l=>(∀ g,Bc0 loops f (keyOf d)=some g→Bb0 P f d g)∧Cvg P f loops l
theorem Bo0 {P:Program} {f:Nat} {fn:Func} {loops:List ((Nat×Nat)×(St→Tree (XE×St)))} {ds:List Code} (h:Ban (bodyOf fn)=ds) (ha:Cvg P f loops ds):∀ d ∈ Ban (bodyOf fn),∀ g,Bc0 loops f (keyOf d)=some g→Bb0 P f d g:=by
 rw [h]
 clear h
 induction ds with
 | nil=>intro d hd;cases hd
 | cons a l ih =>
  intro d hd
  rcases List.mem_cons.1 hd with rfl | hd
  ·exact ha.1
  ·exact ih ha.2 d hd
theorem Bi2 {P:Program} {f:Nat} {d:Code} {loops:List ((Nat×Nat)×(St→Tree (XE×St)))} {k:Nat} {s:St→Tree (XE×St)} (hk:keyOf d=k) (ha:Bc0 loops f k=some s) (h:Bb0 P f d s):∀ g,Bc0 loops f (keyOf d)=some g→Bb0 P f d g:=by
 intro g hg
 rw [hk,ha] at hg
 cases hg
 exact h
namespace St
noncomputable def Cjj:Code:=(Ban (bodyOf Tryz.f102)).getD 0 .skip
def Ccw (f:Nat):Lay:={ keys:=[0,12,13,14],ks:=[.p 0 0 0 0,.d (.sl Fq),.d cI,.d cI],bs:=bsG f,n:=104,nx:=2000,marks:=[] }
def D73 (f:Nat):Lay:={ keys:=[0],ks:=[.p 0 0 0 0],bs:=bsG f,n:=104,nx:=2000,marks:=[] }
def D3b:Lay:={ keys:=[],ks:=[],bs:=[],n:=104,nx:=3000,marks:=[] }
def C1u (f:Nat):XE→Lay:=fun e=>match e with | .panic _=>D3b | _=>D73 f
def Bm9 (b:TCT Fq) (m:TCT Baw):TCTs [Baw,cI]:=Biy (bm b m)
def Bcj (bl:List (TCT Fq)) (i:Nat):TCT Fq:=Bas bl i (Bap Fq)
def Bws (f:Nat) (x:GB) (bl:List (TCT Fq)) (n i:Int) (ms:Bak):(Ccw f).T:=(((),bl,n,i,()),(gb (gmU x.1 ms (gmO x.1)) (gk x)))
def Cjk (f:Nat) (x:GB) (ms:Bak):V2 (C1u f):=⟨.exit 0,(((),()),(gb (gmU x.1 ms (gmO x.1)) (gk x)))⟩
def Cvh (f:Nat) (e:Int):V2 (C1u f):=⟨.panic (.ifc 49 (.int .i64 e)),((),())⟩
abbrev TM1 (f:Nat):=Tree ((Ccw f).T⊕V2 (C1u f))
def Cjl (f:Nat) (x:GB) (bl:List (TCT Fq)) (n i:Int) (ms:Bak):TM1 f:=inO ms.length i (bif (Bm9 (Bcj bl (Int.toNat i)) (Bah ms (Int.toNat i))).2.1 != 0 then .leaf (.inr (Cvh f (Bm9 (Bcj bl (Int.toNat i)) (Bah ms (Int.toNat i))).2.1)) else
 inO ms.length i (.leaf (.inl (Bws f x bl n (W64 (i+1)) (Bb8 ms (Int.toNat i) (Bm9 (Bcj bl (Int.toNat i)) (Bah ms (Int.toNat i))).1)))))
def C67 (f:Nat) (x:GB) (bl:List (TCT Fq)) (n i:Int) (ms:Bak):TM1 f:=bif decide (i<n) then inN bl.length i (bif Bvq ms (gmO x.1) i then bif Bbq ms (gmO x.1) (Int.toNat i) then Cjl f x bl n i ms else .leaf (.inl (Bws f x bl n (W64 (i+1)) ms)) else .fail) else .leaf (.inr (Cjk f x ms))
def Cjm (f:Nat) (g:(Ccw f).T):TM1 f:=C67 f g.2 g.1.2.1 g.1.2.2.1 g.1.2.2.2.1 (gmM g.2.1)
def fu_m1 (f:Nat) (g:(Ccw f).T):Nat:=Int.toNat g.1.2.2.1+1
def sm_m1 (f:Nat):St→Tree (XE×St):=Baz (Ccw f) (C1u f) (finP 49 .i64 [.exit 0] (Cjm f) (fu_m1 f))
theorem Cqu {f:Nat} (e:XE):(Ccw f).nx≤(C1u f e).nx:=by cases e <;> first | exact Nat.le_refl _ | exact (by decide:(2000:Nat)≤3000)
def stE (bl:List (TCT Fq)) (os:List Bool) (i:Nat) (ms:Bak):Bak⊕Int:=bif !Bbq ms os i then .inl ms else bif (Bm9 (Bcj bl i) (Bah ms i)).2.1 != 0 then .inr (Bm9 (Bcj bl i) (Bah ms i)).2.1 else .inl (Bb8 ms i (Bm9 (Bcj bl i) (Bah ms i)).1)
def Bpi (f:Nat) (x:GB):Bak⊕Int→V2 (C1u f)
 | .inl ms=>Cjk f x ms
 | .inr e=>Cvh f e
theorem C68 {bl:List (TCT Fq)} {os:List Bool} {n:Nat} (i:Nat) (s s':Bak) (_:i<n) (hi:s.length=n) (h:stE bl os i s=.inl s'):s'.length=n:=by
 unfold stE at h
 cases h1:!Bbq s os i with
 | true=>rw [h1] at h;cases h;exact hi
 | false =>
  rw [h1] at h
  cases h3:(Bm9 (Bcj bl i) (Bah s i)).2.1 != 0 with
  | true=>rw [h3] at h;cases h
  | false=>rw [h3] at h;cases h;rw [Bbb];exact hi
theorem D3c {f:Nat} {x:GB} {ms:Bak} (hx:OkGM x.1) (hm:ms.length=nBx x.1):iter (Cjm f) (nBx x.1+1) (Bws f x (gmB x.1) (nBx x.1) 0 ms)=some (Bpi f x (Bat (stE (gmB x.1) (gmO x.1)) 0 (nBx x.1) ms)):=by
 have hn:(nBx x.1:Int)≤Bb4 .i64:=by have:=hx.n;show (nBx x.1:Int)≤9223372036854775807;omega
 refine Bgn (nBx x.1) (fun i ms=>Bws f x (gmB x.1) (nBx x.1) i ms) (stE (gmB x.1) (gmO x.1)) (Bpi f x) (fun _ ms=>ms.length=nBx x.1) (fun i ms hi hl=>?_) C68 (fun ms hl=>?_) (nBx x.1) 0 ms (by omega) hm
 ·show Tree.run (bif decide ((i:Int)<(nBx x.1:Int)) then inN (nBx x.1) i (bif Bvq ms (gmO x.1) i then bif Bbq ms (gmO x.1) i then Cjl f x (gmB x.1) (nBx x.1) i ms else .leaf (.inl (Bws f x (gmB x.1) (nBx x.1) (W64 ((i:Int)+1)) ms)) else .fail) else .leaf (.inr (Cjk f x ms)):TM1 f)=_
  rw [decide_eq_true (show (i:Int)<(nBx x.1:Int) by omega),Bde (by omega),Byp hi hl hx.os,Bdd hi hn]
  unfold stE Cjl
  rw [Bfb (by omega),Bfb (by omega),show Int.toNat (i:Int)=i from rfl,Bdd hi hn]
  cases Bbq ms (gmO x.1) i with
  | false=>rfl
  | true =>
   simp only [Bool.not_true,cond_true,cond_false]
   cases (Bm9 (Bcj (gmB x.1) i) (Bah ms i)).2.1 != 0 <;> rfl
 ·show (C67 f (gb (gmU x.1 ms (gmO x.1)) (gk x)) (gmB x.1) (nBx x.1) (nBx x.1) ms).run=_
  unfold C67
  rw [decide_eq_false (show ¬ (nBx x.1:Int)<(nBx x.1:Int) by omega)]
  rfl
noncomputable def Cjn:Code:=(Ban (bodyOf Tryz.f102)).getD 1 .skip
def Ccx (f:Nat):Lay:={ keys:=[0,52,53],ks:=[.p 0 0 0 0,.d cI,.d cI],bs:=bsG f,n:=104,nx:=3000,marks:=[] }
def D74 (f:Nat):Lay:={ keys:=[],ks:=[],bs:=bsG f,n:=104,nx:=3000,marks:=[] }
def C69 (f:Nat):XE→Lay:=fun e=>match e with | .panic _=>D3b | _=>D74 f
abbrev S2:Type:=Bak×List Bool×Kns
def kn (t s k b o:Int):TCT cKn:=(t,s,k,b,o,())
def D3d (m:TCT Baw):TCT Baw:=(m.1,(0,0,()),m.2.2.1,())
def Bwt (f:Nat) (x:GB) (n i:Int) (s:S2):(Ccx f).T:=(((),n,i,()),(gb (gmU x.1 s.1 s.2.1) s.2.2))
def Cjo (f:Nat) (x:GB) (s:S2):V2 (C69 f):=⟨.exit 2,((),(gb (gmU x.1 s.1 s.2.1) s.2.2))⟩
abbrev TM2 (f:Nat):=Tree ((Ccx f).T⊕V2 (C69 f))
def Ccy {β:Type} (ks:Kns) (k:TCT cKn) (t:Kns→Tree β):Tree β:=bif Bd9 ks [k] 40 then t (ks++[k]) else .fail
def Bsp (f:Nat) (x:GB) (n i:Int) (ms:Bak) (os:List Bool) (ks:Kns):TM2 f:=bif decide (i<n) then inO os.length i (bif !Bas os (Int.toNat i) (Bap .b) then inO ms.length i (
 bif !onB (gmL x.1) (Bah ms (Int.toNat i)).1 then inO os.length i (inO ms.length i (Ccy ks (kn (gmT x.1) (gmS x.1) 2 i 0) fun ks'=>.leaf (.inl (Bwt f x n (W64 (i+1)) (Bb8 ms (Int.toNat i) (D3d (Bah ms (Int.toNat i))),Bb8 os (Int.toNat i) true,ks')))))
 else .leaf (.inl (Bwt f x n (W64 (i+1)) (ms,os,ks)))) else .leaf (.inl (Bwt f x n (W64 (i+1)) (ms,os,ks)))) else .leaf (.inr (Cjo f x (ms,os,ks)))
def Cjp (f:Nat) (g:(Ccx f).T):TM2 f:=Bsp f g.2 g.1.2.1 g.1.2.2.1 (gmM g.2.1) (gmO g.2.1) (gk g.2)
def fu_m2 (f:Nat) (g:(Ccx f).T):Nat:=Int.toNat g.1.2.1+1
def sm_m2 (f:Nat):St→Tree (XE×St):=Baz (Ccx f) (C69 f) (Bdg [.exit 2] (Cjp f) (fu_m2 f))
theorem Cqv {f:Nat} (e:XE):(Ccx f).nx≤(C69 f e).nx:=by cases e <;> exact Nat.le_refl _
noncomputable def D75 (f:Nat) (c:Nat×Func):Ctx:=Buv Tryz.prog plGm [(49,Tryz.f49),(100,Tryz.f100),c] [] (spG f)
theorem Bg4 {f:Nat} {c:Nat×Func} (hc:FnIs Tryz.prog c) (h1:Bbp Tryz.prog 137 (sp_ro f)) (h2:Bbp Tryz.prog 98 (sp_fl f)):CtxOk (D75 f c):=Bgb Bao puGm (fns_cons is_must (fns_cons is_knock (fns_cons hc V1))) Biu (Bit is_rolls.plain h1 is_flies.plain h2)
theorem Cya:Bb0 Tryz.prog 102 Cjj (sm_m1 53):=Bm7 (Bg4 is_Tick1 Bet Beu) 7 _ _ _ Cqu _ _ _ _ (fu_m1 53) (fun g=>by kernel_rfl)
theorem Cyb:Bb0 Tryz.prog 102 Cjn (sm_m2 53):=Bbl (Bg4 is_Tick1 Bet Beu) 7 _ _ _ Cqv _ _ (fu_m2 53) (fun g=>by kernel_rfl)
def lvE (l:TCT Bal) (t st:Int) (i:Nat) (s:S2):S2⊕Int:=bif !Bas s.2.1 i (Bap .b) then bif !onB l (Bah s.1 i).1 then .inl (Bb8 s.1 i (D3d (Bah s.1 i)),Bb8 s.2.1 i true,s.2.2++[kn t st 2 i 0]) else .inl s else .inl s
def C6a (f:Nat) (x:GB):S2⊕Int→V2 (C69 f)
 | .inl s=>Cjo f x s
 | .inr _=>Cjo f x ([],[],[])
structure Inv2 (n k:Nat) (i:Nat) (s:S2):Prop where
 m:s.1.length=n
 o:s.2.1.length=n
 k:s.2.2.length≤k+i
theorem Cjq {l:TCT Bal} {t st:Int} {n k:Nat} (i:Nat) (s s':S2) (_:i<n) (hi:Inv2 n k i s) (h:lvE l t st i s=.inl s'):Inv2 n k (i+1) s':=by
 unfold lvE at h
 have hk:=hi.k
 cases h1:!Bas s.2.1 i (Bap .b) with
 | false=>rw [h1] at h;cases h;exact ⟨hi.m,hi.o,by omega⟩
 | true =>
  rw [h1] at h
  cases h3:!onB l (Bah s.1 i).1 with
  | false=>rw [h3] at h;cases h;exact ⟨hi.m,hi.o,by omega⟩
  | true=>rw [h3] at h;cases h;exact ⟨by rw [Bbb];exact hi.m,by rw [Bbb];exact hi.o,by simp;omega⟩
theorem D3e {f:Nat} {x:GB} {s:S2} {n k:Nat} (hn8:n≤8) (hk:k≤900000) (hs:Inv2 n k 0 s):iter (Cjp f) (n+1) (Bwt f x n 0 s)=some (C6a f x (Bat (lvE (gmL x.1) (gmT x.1) (gmS x.1)) 0 n s)):=by
 have hn:(n:Int)≤Bb4 .i64:=by show (n:Int)≤9223372036854775807;omega
 refine Bgn n (fun i s=>Bwt f x n i s) (lvE (gmL x.1) (gmT x.1) (gmS x.1)) (C6a f x) (Inv2 n k) (fun i s hi hl=>?_) Cjq (fun s hl=>?_) n 0 s (by omega) hs
 ·show (Bsp f (gb (gmU x.1 s.1 s.2.1) s.2.2) n i s.1 s.2.1 s.2.2).run=_
  unfold Bsp lvE Ccy
  have h1:=hl.m
  have h2:=hl.o
  have h3:=hl.k
  rw [decide_eq_true (show (i:Int)<(n:Int) by omega),Bfb (by omega),Bfb (by omega),Bfb (by omega),Bfb (by omega),show Int.toNat (i:Int)=i from rfl,Bdd hi hn,Bkk (by simp;omega) (by decide)]
  cases Bas s.2.1 i (Bap .b) with
  | true=>rfl
  | false =>
   show (bif !onB (gmL x.1) (Bah s.1 i).1 then _ else _:TM2 f).run=_
   simp only [Bool.not_false,cond_true]
   cases onB (gmL x.1) (Bah s.1 i).1 <;> rfl
 ·show (Bsp f (gb (gmU x.1 s.1 s.2.1) s.2.2) n n s.1 s.2.1 s.2.2).run=_
  unfold Bsp
  rw [decide_eq_false (show ¬ (n:Int)<(n:Int) by omega)]
  rfl
end St
end V
end Go.Proofs.YtcfanlgpkefogaaGreat
namespace Go.Proofs.YtcfanlgpkefogaaGreat
open Go.RowKit
namespace V
theorem Bpj {S B:Type} {f:Nat→S→S⊕B} (h:∀ i s,∃ s',f i s=.inl s'):∀ (k i:Nat) (s:S),∃ s',Bat f i k s=.inl s'
 | 0,_,s=>⟨s,rfl⟩
 | k+1,i,s=>by
  obtain ⟨s',hs⟩:=h i s
  unfold Bat
  rw [hs]
  exact Bpj h k (i+1) s'
namespace St
theorem C9o {l:TCT Bal} {t st:Int} (i:Nat) (s:S2):∃ s',lvE l t st i s=.inl s':=by
 unfold lvE
 cases !Bas s.2.1 i (Bap .b) with
 | false=>exact ⟨_,rfl⟩
 | true=>cases !onB l (Bah s.1 i).1 <;> exact ⟨_,rfl⟩
noncomputable def D76 (f:Nat):Ctx:=Buv Tryz.prog plGm [(102,Tryz.f102)] [((102,1),sm_m1 f),((102,9),sm_m2 f)] (spG f)
theorem Cqw {f:Nat} (h1:Bbp Tryz.prog 137 (sp_ro f)) (h2:Bbp Tryz.prog 98 (sp_fl f)) (hl:Bb0 Tryz.prog 102 Cjj (sm_m1 f)) (hm:Bb0 Tryz.prog 102 Cjn (sm_m2 f)):CtxOk (D76 f) :=
 Bgb Bao puGm (fns_cons is_gmove V1) (Be1 (Bo0 (ds:=[Cjj,Cjn]) (by kernel_rfl) ⟨Bi2 (k:=1) (by kernel_rfl) rfl hl,Bi2 (k:=9) (by kernel_rfl) rfl hm,trivial⟩) Biv) (Bit is_rolls.plain h1 is_flies.plain h2)
def mvF (bl:List (TCT Fq)) (l:TCT Bal) (t st:Int) (n:Nat) (s:S2):S2⊕Int:=match Bat (stE bl s.2.1) 0 n s.1 with
 | .inl ms=>Bat (lvE l t st) 0 n (ms,s.2.1,s.2.2)
 | .inr e=>.inr e
def gs (x:GB):S2:=(gmM x.1,gmO x.1,gk x)
def D3f (f:Nat) (x:GB):Option (V2 (C1u f)):=iter (Cjm f) (nBx x.1+1) (Bws f x (gmB x.1) (nBx x.1) 0 (gmM x.1))
def Cyc (f:Nat) (x:GB):Option (V2 (C69 f)):=iter (Cjp f) (nBx x.1+1) (Bwt f x (nBx x.1) 0 (gs x))
abbrev TU (f:Nat):=Tree (Bcy (FE_u f))
def Cvi (f:Nat) (y:Option (V2 (C69 f))):TU f:=bif isE (.exit 2) y then .leaf ⟨true,((),(Bcg (.exit 2) y).2)⟩ else .fail
def Cjr (f:Nat) (y:Option (V2 (C1u f))):TU f:=bif isP 49 .i64 y then .leaf ⟨false,pnU f (panO 49 .i64 y).1⟩ else bif isE (.exit 0) y then Cvi f (Cyc f (Bcg (.exit 0) y).2) else .fail
def T_mv (f:Nat) (x:GB):TU f:=Cjr f (D3f f x)
def Bmr (x:GB):Bool:=Cjb x.1&&decide ((gk x).length≤900000)
def C1v (x:GB):Option (S2⊕Int):=bif Bmr x then some (mvF (gmB x.1) (gmL x.1) (gmT x.1) (gmS x.1) (nBx x.1) (gs x)) else none
def Cjs (f:Nat) (x:GB) (s:S2):(FE_u f true).T:=mkU f (gb (gmU x.1 s.1 s.2.1) s.2.2)
abbrev sp_mv (f:Nat):Baj→Nat→List AV→Tree (Out×Baj×Nat):=Bic Bik (FL_g f) (FE_u f) (Bsk (fun g:(FL_g f).T=>C1v g.2) (fun g=>Cjs f g.2) (pnU f) ([],[],[]))
theorem Bsq {x:GB} (h:Bmr x=true):OkGM x.1∧(gk x).length≤900000:=by
 unfold Bmr at h
 simp only [Bool.and_eq_true,decide_eq_true_eq] at h
 exact ⟨Bfc.1 h.1,h.2⟩
theorem Cyd {f:Nat} {g:(FL_g f).T} {z:S2⊕Int} (h:C1v g.2=some z):(T_mv f g.2).run=some (Bvr (L:=FL_g f) (E:=FE_u f) (fun g=>Cjs f g.2) (pnU f) g z):=by
 unfold C1v at h
 cases ho:Bmr g.2 with
 | false=>rw [ho] at h;cases h
 | true =>
  rw [ho] at h
  cases h
  obtain ⟨hg,hk⟩:=Bsq ho
  have hy:D3f f g.2=some (Bpi f g.2 (Bat (stE (gmB g.2.1) (gmO g.2.1)) 0 (nBx g.2.1) (gmM g.2.1))):=D3c hg hg.ms
  unfold T_mv mvF
  rw [hy]
  show (Cjr f (some (Bpi f g.2 (Bat (stE (gmB g.2.1) (gmO g.2.1)) 0 (nBx g.2.1) (gmM g.2.1))))).run=some (Bvr (L:=FL_g f) (E:=FE_u f) (fun g=>Cjs f g.2) (pnU f) g (match Bat (stE (gmB g.2.1) (gmO g.2.1)) 0 (nBx g.2.1) (gmM g.2.1) with
   | .inl ms=>Bat (lvE (gmL g.2.1) (gmT g.2.1) (gmS g.2.1)) 0 (nBx g.2.1) (ms,gmO g.2.1,gk g.2)
   | .inr e=>.inr e))
  cases h1:Bat (stE (gmB g.2.1) (gmO g.2.1)) 0 (nBx g.2.1) (gmM g.2.1) with
  | inr e =>
   have h1:isP 49 .i64 (some (Bpi f g.2 (.inr e)))=true:=Blf
   have h2:panO 49 .i64 (some (Bpi f g.2 (.inr e)))=⟨e,((),())⟩:=Bhd
   unfold Cjr
   rw [h1,h2]
   rfl
  | inl ms =>
   have hms:ms.length=nBx g.2.1:=Bav (n:=nBx g.2.1) (Inv:=fun _ (s:Bak)=>s.length=nBx g.2.1) C68 (nBx g.2.1) 0 _ _ (by omega) hg.ms h1
   have hz:Cyc f (gb (gmU g.2.1 ms (gmO g.2.1)) (gk g.2))=some (C6a f (gb (gmU g.2.1 ms (gmO g.2.1)) (gk g.2)) (Bat (lvE (gmL g.2.1) (gmT g.2.1) (gmS g.2.1)) 0 (nBx g.2.1) (ms,gmO g.2.1,gk g.2))) :=
    D3e (n:=nBx g.2.1) (x:=gb (gmU g.2.1 ms (gmO g.2.1)) (gk g.2)) (s:=(ms,gmO g.2.1,gk g.2)) (k:=(gk g.2).length) hg.n hk ⟨hms,hg.os,by simp⟩
   show (Cvi f (Cyc f (gb (gmU g.2.1 ms (gmO g.2.1)) (gk g.2)))).run=some (Bvr (L:=FL_g f) (E:=FE_u f) (fun g=>Cjs f g.2) (pnU f) g (Bat (lvE (gmL g.2.1) (gmT g.2.1) (gmS g.2.1)) 0 (nBx g.2.1) (ms,gmO g.2.1,gk g.2)))
   rw [hz]
   obtain ⟨s',hs'⟩:=Bpj (C9o (l:=gmL g.2.1) (t:=gmT g.2.1) (st:=gmS g.2.1)) (nBx g.2.1) 0 (ms,gmO g.2.1,gk g.2)
   rw [hs']
   rfl
theorem Cqx:Bbp Tryz.prog 102 (sp_mv 53):=Bph (Cqw Bet Beu Cya Cyb) 6 Blm _ _ _ _ (fun g=>T_mv 53 g.2) (fun g=>by kernel_rfl) fun _ _ _ h=>Cyd h
end St
end V
end Go.Proofs.YtcfanlgpkefogaaGreat
namespace Go.Proofs.YtcfanlgpkefogaaGreat
open Go.RowKit
namespace V
def Bpk (n:Nat) (p:TCT Bfk):Prop:=0≤p.1∧p.1<p.2.1∧p.2.1<(n:Int)
theorem Cjt {l:List (TCT Fq)} {re dr:Int} {i k n:Nat} {s s':SS} (h:Bd8 l re dr i k s=some s') (hik:i<k) (hk:k<n) (hs:∀ p ∈ s.2,Bpk n p):∀ p ∈ s'.2,Bpk n p:=by
 unfold Bd8 at h
 cases h1:(Bb9 (bAt l s.1 i) (bAt l s.1 k) re dr).2.2.1==0 with
 | true =>
  rw [h1] at h
  simp only [cond_true,Option.some.injEq] at h
  subst h
  intro p hp
  rcases List.mem_append.1 hp with hp | hp
  ·exact hs p hp
  ·rw [List.mem_singleton] at hp
   subst hp
   exact ⟨Int.natCast_nonneg i,Int.ofNat_lt.2 hik,Int.ofNat_lt.2 hk⟩
 | false =>
  rw [h1,cond_false] at h
  cases h2:(Bb9 (bAt l s.1 i) (bAt l s.1 k) re dr).2.2.1==4 with
  | true=>rw [h2] at h;simp at h
  | false=>rw [h2] at h;simp only [cond_false,Option.some.injEq] at h;subst h;exact hs
theorem Cju {l:List (TCT Fq)} {re dr:Int} {i n:Nat}:∀ (f k:Nat) (s s':SS),inR l re dr i f k s=some s'→i<k→k+f≤n→(∀ p ∈ s.2,Bpk n p)→∀ p ∈ s'.2,Bpk n p
 | 0,k,s,s',h,_,_,hs=>by rw [inR,Option.some.injEq] at h;subst h;exact hs
 | f+1,k,s,s',h,hik,hk,hs=>by
  rw [inR] at h
  cases h1:Bd8 l re dr i k s with
  | none=>rw [h1] at h;simp at h
  | some s1 =>
   rw [h1,Option.bind_some] at h
   exact Cju f (k+1) s1 s' h (by omega) (by omega) (Cjt h1 hik (by omega) hs)
theorem C9p {l:List (TCT Fq)} {re dr:Int}:∀ (f i:Nat) (s s':SS),Bff l re dr f i s=some s'→i+f=l.length→(∀ p ∈ s.2,Bpk l.length p)→(∀ p ∈ s'.2,Bpk l.length p)∧s'.1.length=s.1.length∧s'.2.length≤s.2.length+f*l.length
 | 0,i,s,s',h,_,hs=>by rw [Bh7,Option.some.injEq] at h;subst h;exact ⟨hs,rfl,by omega⟩
 | f+1,i,s,s',h,hi,hs=>by
  rw [Bfr] at h
  cases h1:inR l re dr i (l.length-(i+1)) (i+1) s with
  | none=>rw [h1] at h;simp at h
  | some s1 =>
   rw [h1,Option.bind_some] at h
   have a:=Cat _ _ _ _ h1
   have b:=C9p f (i+1) s1 s' h (by omega) (Cju _ _ _ _ h1 (by omega) (by omega) hs)
   refine ⟨b.1,b.2.1.trans a.1,?_⟩
   have e:(f+1)*l.length=f*l.length+l.length:=Nat.succ_mul f l.length
   omega
theorem Ccz {l:List (TCT Fq)} {s:List (TCT Baw)} {re dr:Int} (h:(Bbi l s re dr).2.2.1=0) (hl:l.length≤8):(Bbi l s re dr).1.length=s.length∧(Bbi l s re dr).2.1.length≤64∧∀ p ∈ (Bbi l s re dr).2.1,Bpk l.length p:=by
 unfold Bbi at h ⊢
 cases h1:Bix l s != 0 with
 | true=>rw [h1,cond_true] at h;exact absurd h (bne_iff_ne.1 h1)
 | false =>
  rw [h1,cond_false] at h
  simp only [cond_false]
  cases h2:!Bdo re dr with
  | true=>rw [h2] at h;cases h
  | false =>
   rw [h2,cond_false] at h
   simp only [cond_false]
   cases h3:Bff l re dr l.length 0 (s,[]) with
   | none=>rw [h3] at h;cases h
   | some s' =>
    have a:=C9p _ _ _ _ h3 (by omega) (fun p hp=>nomatch hp)
    refine ⟨a.2.1,?_,a.1⟩
    have b:s'.2.length≤0+l.length*l.length:=a.2.2
    have c:l.length*l.length≤8*8:=Nat.mul_le_mul hl hl
    show s'.2.length≤64
    omega
end V
end Go.Proofs.YtcfanlgpkefogaaGreat
namespace Go.Proofs.YtcfanlgpkefogaaGreat
open Go.RowKit
namespace V
def unE {S:Type}:S⊕Empty→S
 | .inl s=>s
 | .inr e=>nomatch e
theorem Bfd {S:Type} (x:S⊕Empty):x=.inl (unE x):=by
 cases x with
 | inl s=>rfl
 | inr e=>exact nomatch e
namespace St
abbrev kI:SK:=.o 3 cI
abbrev kBa:SK:=.o 70 Fq
abbrev kMo:SK:=.o 60 Baw
noncomputable def C9q:Code:=(Ban (bodyOf Tryz.f50)).getD 0 .skip
noncomputable def C9r:Code:=(Ban (bodyOf Tryz.f50)).getD 1 .skip
noncomputable def C9s:Code:=(Ban (bodyOf Tryz.f50)).getD 2 .skip
def Cd0 (f:Nat):Lay:={ keys:=[0,2,3,4,18,19,20],ks:=[.p 0 0 0 0,kI,kBa,kMo,.d (.sl Fq),.d cI,.d cI],bs:=bsG f,n:=113,nx:=2000,marks:=[] }
def D77 (f:Nat):Lay:={ keys:=[0,2,3,4],ks:=[.p 0 0 0 0,kI,kBa,kMo],bs:=bsG f,n:=113,nx:=2000,marks:=[] }
def C6b (f:Nat):XE→Lay:=fun _=>D77 f
abbrev GA:Type:=List Int×List (TCT Fq)×Bak
def Bo1 (f:Nat) (x:GB) (bl:List (TCT Fq)) (n i:Int) (s:GA):(Cd0 f).T:=(((),s.1,s.2.1,s.2.2,bl,n,i,()),x)
def C1w (f:Nat) (x:GB) (s:GA):V2 (C6b f):=⟨.exit 0,(((),s.1,s.2.1,s.2.2,()),x)⟩
abbrev TS1 (f:Nat):=Tree ((Cd0 f).T⊕V2 (C6b f))
def ap8 {β:Type} (w:List Int) (i:Int) (k:Tree β):Tree β:=bif Bd9 w [i] 8 then k else .fail
def Cqy {β:Type} (w:List (TCT Fq)) (i:TCT Fq) (k:Tree β):Tree β:=bif Bd9 w [i] 16 then k else .fail
def Cqz {β:Type} (w:Bak) (i:TCT Baw) (k:Tree β):Tree β:=bif Bd9 w [i] 48 then k else .fail
theorem Cye {β:Type} {w:List Int} {i:Int} {k:Tree β} (h:w.length≤1000):ap8 w i k=k:=by unfold ap8;rw [Bkk (by simp;omega) (by decide)];rfl
theorem Cr0 {β:Type} {w:List (TCT Fq)} {i:TCT Fq} {k:Tree β} (h:w.length≤1000):Cqy w i k=k:=by unfold Cqy;rw [Bkk (by simp;omega) (by decide)];rfl
theorem Cr1 {β:Type} {w:Bak} {i:TCT Baw} {k:Tree β} (h:w.length≤1000):Cqz w i k=k:=by unfold Cqz;rw [Bkk (by simp;omega) (by decide)];rfl
def ga1 (i:Int) (b:TCT Fq) (m:TCT Baw) (s:GA):GA:=(s.1++[i],s.2.1++[b],s.2.2++[m])
def C6c (f:Nat) (x:GB) (bl:List (TCT Fq)) (n i:Int) (s:GA):TS1 f:=bif decide (i<n) then inN bl.length i (inO (gmO x.1).length i (
 bif !Bas (gmO x.1) (Int.toNat i) (Bap .b) then bif !Bdj (gmW x.1) (gmF x.1) i then inO (gmM x.1).length i (ap8 s.1 i (Cqy s.2.1 (Bcj bl (Int.toNat i)) (Cqz s.2.2 (Bah (gmM x.1) (Int.toNat i))
  (.leaf (.inl (Bo1 f x bl n (W64 (i+1)) (ga1 i (Bcj bl (Int.toNat i)) (Bah (gmM x.1) (Int.toNat i)) s)))))))
 else .leaf (.inl (Bo1 f x bl n (W64 (i+1)) s)) else .leaf (.inl (Bo1 f x bl n (W64 (i+1)) s)))) else .leaf (.inr (C1w f x s))
def Cjv (f:Nat) (g:(Cd0 f).T):TS1 f:=C6c f g.2 g.1.2.2.2.2.1 g.1.2.2.2.2.2.1 g.1.2.2.2.2.2.2.1 (g.1.2.1,g.1.2.2.1,g.1.2.2.2.1)
def fu_s1 (f:Nat) (g:(Cd0 f).T):Nat:=Int.toNat g.1.2.2.2.2.2.1+1
def sm_s1 (f:Nat):St→Tree (XE×St):=Baz (Cd0 f) (C6b f) (Bdg [.exit 0] (Cjv f) (fu_s1 f))
theorem C9t {f:Nat} (e:XE):(Cd0 f).nx≤(C6b f e).nx:=Nat.le_refl _
def gaE (bl:List (TCT Fq)) (ms:Bak) (os:List Bool) (w fl:Int) (i:Nat) (s:GA):GA⊕Empty:=.inl (bif !Bas os i (Bap .b)&&!Bdj w fl i then ga1 i (Bcj bl i) (Bah ms i) s else s)
def gaV (bl:List (TCT Fq)) (w fl:Int) (n:Nat) (ms:Bak) (os:List Bool):GA:=unE (Bat (gaE bl ms os w fl) 0 n ([],[],[]))
structure InvG (n i:Nat) (s:GA):Prop where
 b:s.2.1.length=s.1.length
 m:s.2.2.length=s.1.length
 k:s.1.length≤i
 r:∀ w ∈ s.1,0≤w∧w<(n:Int)
theorem C6d {bl:List (TCT Fq)} {ms:Bak} {os:List Bool} {w fl:Int} {n:Nat} (i:Nat) (s s':GA) (hi:i<n) (h:InvG n i s) (h2:gaE bl ms os w fl i s=.inl s'):InvG n (i+1) s':=by
 unfold gaE at h2
 have hb:=h.b
 have hm:=h.m
 have hk:=h.k
 cases hc:!Bas os i (Bap .b)&&!Bdj w fl i with
 | false =>
  rw [hc] at h2
  simp only [cond_false,Sum.inl.injEq] at h2
  subst h2
  exact ⟨hb,hm,by omega,h.r⟩
 | true =>
  rw [hc] at h2
  simp only [cond_true,Sum.inl.injEq] at h2
  subst h2
  refine ⟨by simp [ga1,hb],by simp [ga1,hm],by simp [ga1];omega,fun v hv=>?_⟩
  rcases List.mem_append.1 hv with hv | hv
  ·exact h.r v hv
  ·rw [List.mem_singleton] at hv;subst hv;omega
theorem C9u {bl:List (TCT Fq)} {w fl:Int} {n:Nat} {ms:Bak} {os:List Bool}:InvG n n (gaV bl w fl n ms os) :=
 Bav (n:=n) (Inv:=InvG n) C6d n 0 _ _ (by omega) ⟨rfl,rfl,Nat.le_refl _,fun _ h=>absurd h List.not_mem_nil⟩ (Bfd (Bat (gaE bl ms os w fl) 0 n ([],[],[])))
def Cyf (f:Nat) (x:GB) (r:GA⊕Empty):V2 (C6b f):=C1w f x (unE r)
theorem D3g {f:Nat} {x:GB} (hx:OkGM x.1):iter (Cjv f) (nBx x.1+1) (Bo1 f x (gmB x.1) (nBx x.1) 0 ([],[],[]))=some (C1w f x (gaV (gmB x.1) (gmW x.1) (gmF x.1) (nBx x.1) (gmM x.1) (gmO x.1))):=by
 have hn8:=hx.n
 have hos:=hx.os
 have hms:=hx.ms
 have hn:(nBx x.1:Int)≤Bb4 .i64:=by show (nBx x.1:Int)≤9223372036854775807;omega
 refine Bgn (nBx x.1) (fun i s=>Bo1 f x (gmB x.1) (nBx x.1) i s) (gaE (gmB x.1) (gmM x.1) (gmO x.1) (gmW x.1) (gmF x.1)) (Cyf f x) (InvG (nBx x.1)) (fun i s hi hl=>?_) C6d (fun s hl=>?_) (nBx x.1) 0 ([],[],[]) (by omega) ⟨rfl,rfl,Nat.le_refl _,fun _ h=>absurd h List.not_mem_nil⟩
 ·show Tree.run (bif decide ((i:Int)<(nBx x.1:Int)) then inN (nBx x.1) i (inO (gmO x.1).length i (
   bif !Bas (gmO x.1) i (Bap .b) then bif !Bdj (gmW x.1) (gmF x.1) i then inO (gmM x.1).length i (ap8 s.1 i (Cqy s.2.1 (Bcj (gmB x.1) i) (Cqz s.2.2 (Bah (gmM x.1) i)
    (.leaf (.inl (Bo1 f x (gmB x.1) (nBx x.1) (W64 (i+1)) (ga1 i (Bcj (gmB x.1) i) (Bah (gmM x.1) i) s)))))))
   else .leaf (.inl (Bo1 f x (gmB x.1) (nBx x.1) (W64 (i+1)) s)) else .leaf (.inl (Bo1 f x (gmB x.1) (nBx x.1) (W64 (i+1)) s)))) else .leaf (.inr (C1w f x s)):TS1 f)=_
  have h1:=hl.b
  have h2:=hl.m
  have h3:=hl.k
  rw [decide_eq_true (show (i:Int)<(nBx x.1:Int) by omega),Bde (by omega),Bfb (by omega),Bfb (by omega),Cye (by omega),Cr0 (by omega),Cr1 (by omega),Bdd hi hn]
  unfold gaE
  cases Bas (gmO x.1) i (Bap .b) with
  | true=>rfl
  | false=>cases Bdj (gmW x.1) (gmF x.1) i <;> rfl
 ·show (C6c f x (gmB x.1) (nBx x.1) (nBx x.1) s).run=_
  unfold C6c
  rw [decide_eq_false (show ¬ (nBx x.1:Int)<(nBx x.1:Int) by omega)]
  rfl
def Cd1 (f:Nat):Lay:={ keys:=[0,2,4,7,75,76,77],ks:=[.p 0 0 0 0,.d (.sl cI),.d (.sl Baw),.d (.sl Bfk),.d (.sl cI),.d cI,.d cI],bs:=bsG f,n:=113,nx:=3000,marks:=[] }
def D78 (f:Nat):Lay:={ keys:=[0,2,7],ks:=[.p 0 0 0 0,.d (.sl cI),.d (.sl Bfk)],bs:=bsG f,n:=113,nx:=3000,marks:=[] }
def C6e (f:Nat):XE→Lay:=fun _=>D78 f
abbrev Prs:Type:=List (TCT Bfk)
def C9v (f:Nat) (x:GB) (W:List Int) (M:Bak) (P:Prs) (W2:List Int) (n i:Int) (ms:Bak):(Cd1 f).T:=(((),W,M,P,W2,n,i,()),gb (gmU x.1 ms (gmO x.1)) (gk x))
def Cjw (f:Nat) (x:GB) (W:List Int) (P:Prs) (ms:Bak):V2 (C6e f):=⟨.exit 2,(((),W,P,()),gb (gmU x.1 ms (gmO x.1)) (gk x))⟩
abbrev TS2 (f:Nat):=Tree ((Cd1 f).T⊕V2 (C6e f))
def Bsr (f:Nat) (x:GB) (W:List Int) (M:Bak) (P:Prs) (W2:List Int) (n i:Int) (ms:Bak):TS2 f:=bif decide (i<n) then inN W2.length i (inN M.length i (inO ms.length (Bas W2 (Int.toNat i) (Bap cI)) (
 .leaf (.inl (C9v f x W M P W2 n (W64 (i+1)) (Bb8 ms (Int.toNat (Bas W2 (Int.toNat i) (Bap cI))) (Bah M (Int.toNat i)))))))) else .leaf (.inr (Cjw f x W P ms))
def Cjx (f:Nat) (g:(Cd1 f).T):TS2 f:=Bsr f g.2 g.1.2.1 g.1.2.2.1 g.1.2.2.2.1 g.1.2.2.2.2.1 g.1.2.2.2.2.2.1 g.1.2.2.2.2.2.2.1 (gmM g.2.1)
def fu_s2 (f:Nat) (g:(Cd1 f).T):Nat:=Int.toNat g.1.2.2.2.2.2.1+1
def sm_s2 (f:Nat):St→Tree (XE×St):=Baz (Cd1 f) (C6e f) (Bdg [.exit 2] (Cjx f) (fu_s2 f))
theorem C9w {f:Nat} (e:XE):(Cd1 f).nx≤(C6e f e).nx:=Nat.le_refl _
def scE (W:List Int) (M:Bak) (i:Nat) (ms:Bak):Bak⊕Empty:=.inl (Bb8 ms (Int.toNat (Bas W i (Bap cI))) (Bah M i))
def scV (W:List Int) (M ms:Bak):Bak:=unE (Bat (scE W M) 0 W.length ms)
theorem Cjy {W:List Int} {M:Bak} {n k:Nat} (i:Nat) (s s':Bak) (_:i<n) (h:s.length=k) (h2:scE W M i s=.inl s'):s'.length=k:=by
 cases h2
 rw [Bbb];exact h
theorem C9x {W:List Int} {M ms:Bak}:(scV W M ms).length=ms.length :=
 Bav (n:=W.length) (Inv:=fun _ (s:Bak)=>s.length=ms.length) Cjy W.length 0 ms _ (by omega) rfl (Bfd (Bat (scE W M) 0 W.length ms))
def Cyg (f:Nat) (x:GB) (W:List Int) (P:Prs) (r:Bak⊕Empty):V2 (C6e f):=Cjw f x W P (unE r)
theorem D3h {f:Nat} {x:GB} {W:List Int} {M:Bak} {P:Prs} {ms:Bak} {n:Nat} (hW:∀ w ∈ W,0≤w∧w<(n:Int)) (hM:M.length=W.length) (hms:ms.length=n) (hl:W.length≤1000) :
  iter (Cjx f) (W.length+1) (C9v f x W M P W W.length 0 ms)=some (Cjw f x W P (scV W M ms)):=by
 have hn:(W.length:Int)≤Bb4 .i64:=by show (W.length:Int)≤9223372036854775807;omega
 refine Bgn W.length (fun i s=>C9v f x W M P W W.length i s) (scE W M) (Cyg f x W P) (fun _ s=>s.length=n) (fun i s hi hs=>?_) Cjy (fun s hs=>?_) W.length 0 ms (by omega) hms
 ·show (Bsr f (gb (gmU x.1 s (gmO x.1)) (gk x)) W M P W W.length i s).run=_
  have hw:=hW (Bas W i (Bap cI)) (by rw [Bdc hi];exact List.getElem_mem hi)
  unfold Bsr
  rw [decide_eq_true (show (i:Int)<(W.length:Int) by omega),Bde (by omega),Bde (by omega),show Int.toNat (i:Int)=i from rfl,Bfb (by omega),Bdd hi hn]
  rfl
 ·show (Bsr f (gb (gmU x.1 s (gmO x.1)) (gk x)) W M P W W.length W.length s).run=_
  unfold Bsr
  rw [decide_eq_false (show ¬ (W.length:Int)<(W.length:Int) by omega)]
  rfl
def Cd2 (f:Nat):Lay:={ keys:=[0,2,94,95,96],ks:=[.p 0 0 0 0,.d (.sl cI),.d (.sl Bfk),.d cI,.d cI],bs:=bsG f,n:=113,nx:=4000,marks:=[] }
def D79 (f:Nat):Lay:={ keys:=[],ks:=[],bs:=bsG f,n:=113,nx:=4000,marks:=[] }
def C6f (f:Nat):XE→Lay:=fun _=>D79 f
def C9y (f:Nat) (x:GB) (W:List Int) (P:Prs) (n i:Int) (ks:Kns):(Cd2 f).T:=(((),W,P,n,i,()),gb x.1 ks)
def Cjz (f:Nat) (x:GB) (ks:Kns):V2 (C6f f):=⟨.exit 4,((),gb x.1 ks)⟩
abbrev TS3 (f:Nat):=Tree ((Cd2 f).T⊕V2 (C6f f))
def Biw (P:Prs) (i:Nat):TCT Bfk:=Bas P i (Bap Bfk)
def knP (t st:Int) (W:List Int) (p:TCT Bfk):TCT cKn:=kn t st 0 (Bas W (Int.toNat p.1) (Bap cI)) (Bas W (Int.toNat p.2.1) (Bap cI))
def Bss (f:Nat) (x:GB) (W:List Int) (P:Prs) (n i:Int) (ks:Kns):TS3 f:=bif decide (i<n) then inN P.length i (inN W.length (Biw P (Int.toNat i)).1 (inN W.length (Biw P (Int.toNat i)).2.1 (
 Ccy ks (knP (gmT x.1) (gmS x.1) W (Biw P (Int.toNat i))) fun ks'=>.leaf (.inl (C9y f x W P n (W64 (i+1)) ks'))))) else .leaf (.inr (Cjz f x ks))
def Ck0 (f:Nat) (g:(Cd2 f).T):TS3 f:=Bss f g.2 g.1.2.1 g.1.2.2.1 g.1.2.2.2.1 g.1.2.2.2.2.1 (gk g.2)
def fu_s3 (f:Nat) (g:(Cd2 f).T):Nat:=Int.toNat g.1.2.2.2.1+1
def sm_s3 (f:Nat):St→Tree (XE×St):=Baz (Cd2 f) (C6f f) (Bdg [.exit 4] (Ck0 f) (fu_s3 f))
theorem C9z {f:Nat} (e:XE):(Cd2 f).nx≤(C6f f e).nx:=Nat.le_refl _
def kpE (W:List Int) (P:Prs) (t st:Int) (i:Nat) (ks:Kns):Kns⊕Empty:=.inl (ks++[knP t st W (Biw P i)])
def kpV (W:List Int) (P:Prs) (t st:Int) (ks:Kns):Kns:=unE (Bat (kpE W P t st) 0 P.length ks)
theorem Ck1 {W:List Int} {P:Prs} {t st:Int} {n k:Nat} (i:Nat) (s s':Kns) (_:i<n) (h:s.length=k+i) (h2:kpE W P t st i s=.inl s'):s'.length=k+(i+1):=by
 cases h2
 simp only [List.length_append,List.length_singleton]
 omega
theorem Ca0 {W:List Int} {P:Prs} {t st:Int} {ks:Kns}:(kpV W P t st ks).length=ks.length+P.length :=
 Bav (n:=P.length) (Inv:=fun i (s:Kns)=>s.length=ks.length+i) Ck1 P.length 0 ks _ (by omega) rfl (Bfd (Bat (kpE W P t st) 0 P.length ks))
def Cyh (f:Nat) (x:GB) (r:Kns⊕Empty):V2 (C6f f):=Cjz f x (unE r)
theorem D3i {f:Nat} {x:GB} {W:List Int} {P:Prs} {ks:Kns} (hP:∀ p ∈ P,Bpk W.length p) (hk:ks.length≤900000) (hl:P.length≤1000) :
  iter (Ck0 f) (P.length+1) (C9y f x W P P.length 0 ks)=some (Cjz f x (kpV W P (gmT x.1) (gmS x.1) ks)):=by
 have hn:(P.length:Int)≤Bb4 .i64:=by show (P.length:Int)≤9223372036854775807;omega
 refine Bgn P.length (fun i s=>C9y f x W P P.length i s) (kpE W P (gmT x.1) (gmS x.1)) (Cyh f x) (fun i s=>s.length=ks.length+i) (fun i s hi hs=>?_) Ck1 (fun s hs=>?_) P.length 0 ks (by omega) rfl
 ·show (Bss f (gb x.1 s) W P P.length i s).run=_
  have hp:=hP (Biw P i) (by unfold Biw;rw [Bdc hi];exact List.getElem_mem hi)
  unfold Bss Ccy
  rw [decide_eq_true (show (i:Int)<(P.length:Int) by omega),Bde (by omega),show Int.toNat (i:Int)=i from rfl,Bde ⟨hp.1,Int.lt_trans hp.2.1 hp.2.2⟩,Bde ⟨Int.le_trans hp.1 (Int.le_of_lt hp.2.1),hp.2.2⟩,Bkk (by simp;omega) (by decide),Bdd hi hn]
  rfl
 ·show (Bss f (gb x.1 s) W P P.length P.length s).run=_
  unfold Bss
  rw [decide_eq_false (show ¬ (P.length:Int)<(P.length:Int) by omega)]
  rfl
theorem Cyi:Bb0 Tryz.prog 50 C9q (sm_s1 53):=Bbl (Bg4 is_Tick1 Bet Beu) 7 _ _ _ C9t _ _ (fu_s1 53) (fun g=>by kernel_rfl)
theorem Cyj:Bb0 Tryz.prog 50 C9r (sm_s2 53):=Bbl (Bg4 is_Tick1 Bet Beu) 7 _ _ _ C9w _ _ (fu_s2 53) (fun g=>by kernel_rfl)
theorem Cyk:Bb0 Tryz.prog 50 C9s (sm_s3 53):=Bbl (Bg4 is_Tick1 Bet Beu) 7 _ _ _ C9z _ _ (fu_s3 53) (fun g=>by kernel_rfl)
theorem Cyl:Bb0 Tryz.prog 50 C9q (sm_s1 46):=Bbl (Bg4 is_Strike1 Brj Brk) 7 _ _ _ C9t _ _ (fu_s1 46) (fun g=>by kernel_rfl)
theorem Cym:Bb0 Tryz.prog 50 C9r (sm_s2 46):=Bbl (Bg4 is_Strike1 Brj Brk) 7 _ _ _ C9w _ _ (fu_s2 46) (fun g=>by kernel_rfl)
theorem Cyn:Bb0 Tryz.prog 50 C9s (sm_s3 46):=Bbl (Bg4 is_Strike1 Brj Brk) 7 _ _ _ C9z _ _ (fu_s3 46) (fun g=>by kernel_rfl)
end St
end V
end Go.Proofs.YtcfanlgpkefogaaGreat
namespace Go.Proofs.YtcfanlgpkefogaaGreat
open Go.RowKit
namespace V
namespace St
def gmC (m:GM):TCT Bbu:=(m.2.2.2.2.2.2.2.2.2.2.2.2.1,m.2.2.2.2.2.2.2.2.2.2.2.2.2.1,())
noncomputable def Byq (f:Nat):Ctx:=Buv Tryz.prog plGm [(50,Tryz.f50),(49,Tryz.f49)] [((50,4),sm_s1 f),((50,12),sm_s2 f),((50,17),sm_s3 f)] (spG f)
theorem Ca1 {f:Nat} (h1:Bbp Tryz.prog 137 (sp_ro f)) (h2:Bbp Tryz.prog 98 (sp_fl f)) (l1:Bb0 Tryz.prog 50 C9q (sm_s1 f)) (l2:Bb0 Tryz.prog 50 C9r (sm_s2 f)) (l3:Bb0 Tryz.prog 50 C9s (sm_s3 f)):CtxOk (Byq f) :=
 Bgb Bao puGm (fns_cons is_gsettle (fns_cons is_must V1)) (Be1 (Bo0 (ds:=[C9q,C9r,C9s]) (by kernel_rfl) ⟨Bi2 (k:=4) (by kernel_rfl) rfl l1,Bi2 (k:=12) (by kernel_rfl) rfl l2,Bi2 (k:=17) (by kernel_rfl) rfl l3,trivial⟩) (Be1 (Bso (by kernel_rfl)) Biv)) (Bit is_rolls.plain h1 is_flies.plain h2)
def seG (bl:List (TCT Fq)) (w fl:Int) (n:Nat) (s:S2):GA:=gaV bl w fl n s.1 s.2.1
def seS (bl:List (TCT Fq)) (bc:TCT Bbu) (w fl:Int) (n:Nat) (s:S2):Ct6:=Bbi (seG bl w fl n s).2.1 (seG bl w fl n s).2.2 bc.1 bc.2.1
def seF (bl:List (TCT Fq)) (bc:TCT Bbu) (t st w fl:Int) (n:Nat) (s:S2):(Bak×Kns)⊕Int :=
 bif (seS bl bc w fl n s).2.2.1 != 0 then .inr (seS bl bc w fl n s).2.2.1 else .inl (scV (seG bl w fl n s).1 (seS bl bc w fl n s).1 s.1,kpV (seG bl w fl n s).1 (seS bl bc w fl n s).2.1 t st s.2.2)
def Cvj (f:Nat) (y:Option (V2 (C6f f))):TU f:=bif isE (.exit 4) y then .leaf ⟨true,((),(Bcg (.exit 4) y).2)⟩ else .fail
def Cyo (f:Nat) (x:GB) (W:List Int) (P:Prs):Option (V2 (C6f f)):=iter (Ck0 f) (P.length+1) (C9y f x W P P.length 0 (gk x))
def D3j (f:Nat) (y:Option (V2 (C6e f))):TU f:=bif isE (.exit 2) y then Cvj f (Cyo f (Bcg (.exit 2) y).2 (Bcg (.exit 2) y).1.2.1 (Bcg (.exit 2) y).1.2.2.1) else .fail
def D3k (f:Nat) (x:GB) (W:List Int) (M:Bak) (P:Prs):Option (V2 (C6e f)):=iter (Cjx f) (W.length+1) (C9v f x W M P W W.length 0 (gmM x.1))
def C6g (f:Nat) (x:GB) (W:List Int) (r:Ct6):TU f:=bif r.2.2.1 != 0 then .leaf ⟨false,pnU f r.2.2.1⟩ else D3j f (D3k f x W r.1 r.2.1)
def D3l (f:Nat) (y:Option (V2 (C6b f))):TU f:=bif isE (.exit 0) y then C6g f (Bcg (.exit 0) y).2 (Bcg (.exit 0) y).1.2.1 (Bbi (Bcg (.exit 0) y).1.2.2.1 (Bcg (.exit 0) y).1.2.2.2.1 (gmC (Bcg (.exit 0) y).2.1).1 (gmC (Bcg (.exit 0) y).2.1).2.1) else .fail
def D3m (f:Nat) (x:GB):Option (V2 (C6b f)):=iter (Cjv f) (nBx x.1+1) (Bo1 f x (gmB x.1) (nBx x.1) 0 ([],[],[]))
def T_se (f:Nat) (x:GB):TU f:=D3l f (D3m f x)
def Bms (x:GB):Option ((Bak×Kns)⊕Int):=bif Bmr x then some (seF (gmB x.1) (gmC x.1) (gmT x.1) (gmS x.1) (gmW x.1) (gmF x.1) (nBx x.1) (gs x)) else none
def C1x (f:Nat) (x:GB) (s:Bak×Kns):(FE_u f true).T:=mkU f (gb (gmU x.1 s.1 (gmO x.1)) s.2)
abbrev sp_se (f:Nat):Baj→Nat→List AV→Tree (Out×Baj×Nat):=Bic Bik (FL_g f) (FE_u f) (Bsk (fun g:(FL_g f).T=>Bms g.2) (fun g=>C1x f g.2) (pnU f) ([],[]))
theorem Bpl {bl:List (TCT Fq)} {bc:TCT Bbu} {w fl:Int} {n:Nat} {s:S2} (hn:n≤8) (h:(seS bl bc w fl n s).2.2.1=0):(seS bl bc w fl n s).1.length=(seG bl w fl n s).1.length∧(seS bl bc w fl n s).2.1.length≤64∧∀ p ∈ (seS bl bc w fl n s).2.1,Bpk (seG bl w fl n s).1.length p:=by
 have hg:InvG n n (seG bl w fl n s):=C9u
 have a:=Ccz (l:=(seG bl w fl n s).2.1) (s:=(seG bl w fl n s).2.2) (re:=bc.1) (dr:=bc.2.1) h (by rw [hg.b];have:=hg.k;omega)
 rw [hg.b] at a
 exact ⟨a.1.trans hg.m,a.2.1,a.2.2⟩
theorem Ck2 {f:Nat} {g:(FL_g f).T} {z:(Bak×Kns)⊕Int} (h:Bms g.2=some z):(T_se f g.2).run=some (Bvr (L:=FL_g f) (E:=FE_u f) (fun g=>C1x f g.2) (pnU f) g z):=by
 unfold Bms at h
 cases ho:Bmr g.2 with
 | false=>rw [ho] at h;cases h
 | true =>
  rw [ho] at h
  cases h
  obtain ⟨hg,hk⟩:=Bsq ho
  unfold T_se
  rw [show D3m f g.2=some (C1w f g.2 (seG (gmB g.2.1) (gmW g.2.1) (gmF g.2.1) (nBx g.2.1) (gs g.2))) from D3g hg]
  show (C6g f g.2 (seG (gmB g.2.1) (gmW g.2.1) (gmF g.2.1) (nBx g.2.1) (gs g.2)).1 (seS (gmB g.2.1) (gmC g.2.1) (gmW g.2.1) (gmF g.2.1) (nBx g.2.1) (gs g.2))).run=_
  unfold seF C6g
  have hn8:=hg.n
  cases he:(seS (gmB g.2.1) (gmC g.2.1) (gmW g.2.1) (gmF g.2.1) (nBx g.2.1) (gs g.2)).2.2.1 != 0 with
  | true=>rfl
  | false =>
   have hs:=Bpl hn8 (bne_eq_false_iff_eq.1 he)
   have hi:InvG (nBx g.2.1) (nBx g.2.1) (seG (gmB g.2.1) (gmW g.2.1) (gmF g.2.1) (nBx g.2.1) (gs g.2)):=C9u
   have hik:=hi.k
   simp only [cond_false]
   rw [show D3k f g.2 (seG (gmB g.2.1) (gmW g.2.1) (gmF g.2.1) (nBx g.2.1) (gs g.2)).1 (seS (gmB g.2.1) (gmC g.2.1) (gmW g.2.1) (gmF g.2.1) (nBx g.2.1) (gs g.2)).1 (seS (gmB g.2.1) (gmC g.2.1) (gmW g.2.1) (gmF g.2.1) (nBx g.2.1) (gs g.2)).2.1=_ from D3h hi.r hs.1 hg.ms (by omega)]
   show (Cvj f (Cyo f (gb (gmU g.2.1 (scV (seG (gmB g.2.1) (gmW g.2.1) (gmF g.2.1) (nBx g.2.1) (gs g.2)).1 (seS (gmB g.2.1) (gmC g.2.1) (gmW g.2.1) (gmF g.2.1) (nBx g.2.1) (gs g.2)).1 (gmM g.2.1)) (gmO g.2.1)) (gk g.2)) (seG (gmB g.2.1) (gmW g.2.1) (gmF g.2.1) (nBx g.2.1) (gs g.2)).1 (seS (gmB g.2.1) (gmC g.2.1) (gmW g.2.1) (gmF g.2.1) (nBx g.2.1) (gs g.2)).2.1)).run=_
   have hs64:=hs.2.1
   rw [show Cyo f (gb (gmU g.2.1 (scV (seG (gmB g.2.1) (gmW g.2.1) (gmF g.2.1) (nBx g.2.1) (gs g.2)).1 (seS (gmB g.2.1) (gmC g.2.1) (gmW g.2.1) (gmF g.2.1) (nBx g.2.1) (gs g.2)).1 (gmM g.2.1)) (gmO g.2.1)) (gk g.2)) (seG (gmB g.2.1) (gmW g.2.1) (gmF g.2.1) (nBx g.2.1) (gs g.2)).1 (seS (gmB g.2.1) (gmC g.2.1) (gmW g.2.1) (gmF g.2.1) (nBx g.2.1) (gs g.2)).2.1=_ from D3i (x:=gb (gmU g.2.1 (scV (seG (gmB g.2.1) (gmW g.2.1) (gmF g.2.1) (nBx g.2.1) (gs g.2)).1 (seS (gmB g.2.1) (gmC g.2.1) (gmW g.2.1) (gmF g.2.1) (nBx g.2.1) (gs g.2)).1 (gmM g.2.1)) (gmO g.2.1)) (gk g.2)) hs.2.2 hk (by omega)]
   rfl
theorem Cr2:Bbp Tryz.prog 50 (sp_se 53):=Bph (Ca1 Bet Beu Cyi Cyj Cyk) 6 Blm _ _ _ _ (fun g=>T_se 53 g.2) (fun g=>by kernel_rfl) fun _ _ _ h=>Ck2 h
theorem Cr3:Bbp Tryz.prog 50 (sp_se 46):=Bph (Ca1 Brj Brk Cyl Cym Cyn) 6 Blm _ _ _ _ (fun g=>T_se 46 g.2) (fun g=>by kernel_rfl) fun _ _ _ h=>Ck2 h
end St
end V
end Go.Proofs.YtcfanlgpkefogaaGreat
namespace Go.Proofs.YtcfanlgpkefogaaGreat
open Go.RowKit
namespace V
namespace St
noncomputable def C1y:Code:=(Ban (bodyOf Tryz.f103)).getD 0 .skip
noncomputable def Bwu:Code:=(Ban (bodyOf Tryz.f103)).getD 1 .skip
abbrev kBb:List SK:=[.d cI,.d cI]
def C6h (f:Nat):Lay:={ keys:=[0,2,3,13,14,15,24,25,26],ks:=[.p 0 0 0 0,.d cI,.p 2002 0 0 0,.d (.sl Fq),.d cI,.d cI,.d (.sl Bag),.d cI,.d cI],bs:=[(0,137,kGm f),(1,48,[.o 58 cKn]),(2002,70,kBb)],n:=81,nx:=3000,marks:=[] }
def D3n (f:Nat):Lay:={ keys:=[0,13,14,15],ks:=[.p 0 0 0 0,.d (.sl Fq),.d cI,.d cI],bs:=bsG f,n:=81,nx:=3000,marks:=[] }
def D3o:Lay:={ keys:=[],ks:=[],bs:=[],n:=81,nx:=4000,marks:=[] }
def C1z (f:Nat):XE→Lay:=fun e=>match e with | .panic _=>D3o | _=>D3n f
def C6i (f:Nat):Lay:={ keys:=[0,13,14,15],ks:=[.p 0 0 0 0,.d (.sl Fq),.d cI,.d cI],bs:=bsG f,n:=81,nx:=2000,marks:=[] }
def D7a (f:Nat):Lay:={ keys:=[],ks:=[],bs:=bsG f,n:=81,nx:=2000,marks:=[] }
def C6j (f:Nat):XE→Lay:=fun e=>match e with | .panic _=>D3o | _=>D7a f
theorem Cr4 {f:Nat} (e:XE):(C6h f).nx≤(C1z f e).nx:=by cases e <;> first | exact Nat.le_refl _ | exact (by decide:(3000:Nat)≤4000)
theorem Cr5 {f:Nat} (e:XE):(C6i f).nx≤(C6j f e).nx:=by cases e <;> first | exact Nat.le_refl _ | exact (by decide:(2000:Nat)≤4000)
abbrev Dss:Type:=List (TCT Bag)
abbrev MK:Type:=Bak×Kns
def Bdh (ps:Dss) (i:Nat):TCT Bag:=Bas ps i (Bap Bag)
def bmV (b:TCT Fq) (m:TCT Baw) (d:TCT Bag) (c:TCT Bbu):TCTs [Baw,cI]:=Bod (bm b m) d.1.1 d.1.2.1 d.2.1 c.1 c.2.1
structure Cb where
 i:Int
 b:TCT Fq
 bl:List (TCT Fq)
 n1:Int
 i1:Int
 ps:Dss
def gmb (m:GM) (k:Kns) (b:TCT Fq):GM×SKTs [.o 0 cKn]×SKTs kBb×Unit:=(m,(k,()),b,())
def C20 (f:Nat) (x:GB) (c:Cb) (n k:Int) (s:MK):(C6h f).T:=(((),c.i,(),c.bl,c.n1,c.i1,c.ps,n,k,()),gmb (gmU x.1 s.1 (gmO x.1)) s.2 c.b)
def Bsu (f:Nat) (x:GB) (c:Cb) (s:MK):V2 (C1z f):=⟨.exit 2,(((),c.bl,c.n1,c.i1,()),gb (gmU x.1 s.1 (gmO x.1)) s.2)⟩
def C21 (f:Nat) (e:Int):V2 (C1z f):=⟨.panic (.ifc 49 (.int .i64 e)),((),())⟩
abbrev TB2 (f:Nat):=Tree ((C6h f).T⊕V2 (C1z f))
def C6k (f:Nat) (x:GB) (c:Cb) (n k:Int) (s:MK) (r:TCTs [Baw,cI]):TB2 f :=
 bif r.2.1==0 then inO s.1.length c.i (Ccy s.2 (kn (gmT x.1) (gmS x.1) 1 c.i k) fun ks=>.leaf (.inl (C20 f x c n (W64 (k+1)) (Bb8 s.1 (Int.toNat c.i) r.1,ks))))
 else bif r.2.1==4 then .leaf (.inr (C21 f r.2.1)) else .leaf (.inl (C20 f x c n (W64 (k+1)) s))
def Bsv (f:Nat) (x:GB) (c:Cb) (n k:Int) (s:MK):TB2 f:=bif decide (k<n) then inN c.ps.length k (bif Bvq s.1 (gmO x.1) c.i then
 bif !Bbq s.1 (gmO x.1) (Int.toNat c.i) then .leaf (.inr (Bsu f x c s)) else bif Bdj (gmW x.1) (gmF x.1) c.i then .leaf (.inr (Bsu f x c s)) else
 inO s.1.length c.i (C6k f x c n k s (bmV c.b (Bah s.1 (Int.toNat c.i)) (Bdh c.ps (Int.toNat k)) (gmC x.1))) else .fail) else .leaf (.inr (Bsu f x c s))
def cb (f:Nat) (g:(C6h f).T):Cb:=⟨g.1.2.1,g.2.2.2.1,g.1.2.2.2.1,g.1.2.2.2.2.1,g.1.2.2.2.2.2.1,g.1.2.2.2.2.2.2.1⟩
def Ck3 (f:Nat) (g:(C6h f).T):TB2 f:=Bsv f (gb g.2.1 g.2.2.1.1) (cb f g) g.1.2.2.2.2.2.2.2.1 g.1.2.2.2.2.2.2.2.2.1 (gmM g.2.1,g.2.2.1.1)
def fu_b2 (f:Nat) (g:(C6h f).T):Nat:=Int.toNat g.1.2.2.2.2.2.2.2.1+1
def sm_b2 (f:Nat):St→Tree (XE×St):=Baz (C6h f) (C1z f) (finP 49 .i64 [.exit 2] (Ck3 f) (fu_b2 f))
def bpE (b:TCT Fq) (c:TCT Bbu) (ps:Dss) (os:List Bool) (w fl t st:Int) (i:Nat) (k:Nat) (s:MK):MK⊕(MK⊕Int) :=
 bif !Bbq s.1 os i||Bdj w fl i then .inr (.inl s) else
 bif (bmV b (Bah s.1 i) (Bdh ps k) c).2.1==0 then .inl (Bb8 s.1 i (bmV b (Bah s.1 i) (Bdh ps k) c).1,s.2++[kn t st 1 i k]) else
 bif (bmV b (Bah s.1 i) (Bdh ps k) c).2.1==4 then .inr (.inr (bmV b (Bah s.1 i) (Bdh ps k) c).2.1) else .inl s
def Bsw:MK⊕(MK⊕Int)→MK⊕Int
 | .inl s=>.inl s
 | .inr x=>x
def Byr (f:Nat) (x:GB) (c:Cb) (r:MK⊕(MK⊕Int)):V2 (C1z f):=match Bsw r with
 | .inl s=>Bsu f x c s
 | .inr e=>C21 f e
structure InvK (n k:Nat) (i:Nat) (s:MK):Prop where
 m:s.1.length=n
 k:s.2.length≤k+i
theorem Ck4 {b:TCT Fq} {c:TCT Bbu} {ps:Dss} {os:List Bool} {w fl t st:Int} {i n k0 m:Nat} (k:Nat) (s s':MK) (_:k<m) (hi:InvK n k0 k s) (h:bpE b c ps os w fl t st i k s=.inl s'):InvK n k0 (k+1) s':=by
 unfold bpE at h
 have hk:=hi.k
 cases h1:!Bbq s.1 os i||Bdj w fl i with
 | true=>rw [h1] at h;cases h
 | false =>
  rw [h1] at h
  cases h2:(bmV b (Bah s.1 i) (Bdh ps k) c).2.1==0 with
  | true=>rw [h2] at h;cases h;exact ⟨by rw [Bbb];exact hi.m,by simp;omega⟩
  | false =>
   rw [h2] at h
   cases h3:(bmV b (Bah s.1 i) (Bdh ps k) c).2.1==4 with
   | true=>rw [h3] at h;cases h
   | false=>rw [h3] at h;cases h;exact ⟨hi.m,by omega⟩
theorem D3p {f:Nat} {x:GB} {c:Cb} {i n k0:Nat} {s:MK} (hci:c.i=(i:Int)) (hi:i<n) (hos:(gmO x.1).length=n) (hs:InvK n k0 0 s) (hk0:k0≤990000) (hps:c.ps.length≤1000) :
  iter (Ck3 f) (c.ps.length+1) (C20 f x c c.ps.length 0 s)=some (Byr f x c (Bat (bpE c.b (gmC x.1) c.ps (gmO x.1) (gmW x.1) (gmF x.1) (gmT x.1) (gmS x.1) i) 0 c.ps.length s)):=by
 have hn:(c.ps.length:Int)≤Bb4 .i64:=by show (c.ps.length:Int)≤9223372036854775807;omega
 refine Bgn c.ps.length (fun k s=>C20 f x c c.ps.length k s) (bpE c.b (gmC x.1) c.ps (gmO x.1) (gmW x.1) (gmF x.1) (gmT x.1) (gmS x.1) i) (Byr f x c) (InvK n k0) (fun k s hk hl=>?_) Ck4 (fun s hl=>?_) c.ps.length 0 s (by omega) hs
 ·show (Bsv f (gb (gmU x.1 s.1 (gmO x.1)) s.2) c c.ps.length k s).run=_
  have h1:=hl.m
  have h2:=hl.k
  unfold Bsv
  show Tree.run (bif decide ((k:Int)<(c.ps.length:Int)) then inN c.ps.length k (bif Bvq s.1 (gmO x.1) c.i then
   bif !Bbq s.1 (gmO x.1) (Int.toNat c.i) then .leaf (.inr (Bsu f x c s)) else bif Bdj (gmW x.1) (gmF x.1) c.i then .leaf (.inr (Bsu f x c s)) else
   inO s.1.length c.i (C6k f x c c.ps.length k s (bmV c.b (Bah s.1 (Int.toNat c.i)) (Bdh c.ps k) (gmC x.1))) else .fail) else .leaf (.inr (Bsu f x c s)):TB2 f)=_
  rw [hci,decide_eq_true (show (k:Int)<(c.ps.length:Int) by omega),Bde (by omega),Byp hi h1 hos,Bfb (by omega),show Int.toNat (i:Int)=i from rfl]
  unfold C6k bpE Ccy
  rw [hci,Bfb (by omega),Bkk (by simp;omega) (by decide),Bdd hk hn,show Int.toNat (i:Int)=i from rfl]
  cases Bbq s.1 (gmO x.1) i with
  | false=>rfl
  | true =>
   cases Bdj (gmW x.1) (gmF x.1) i with
   | true=>rfl
   | false =>
    simp only [Bool.not_true,Bool.or_self,cond_true,cond_false]
    cases (bmV c.b (Bah s.1 i) (Bdh c.ps k) (gmC x.1)).2.1==0 with
    | true=>rfl
    | false =>
     simp only [cond_false]
     cases (bmV c.b (Bah s.1 i) (Bdh c.ps k) (gmC x.1)).2.1==4 <;> rfl
 ·show (Bsv f (gb (gmU x.1 s.1 (gmO x.1)) s.2) c c.ps.length c.ps.length s).run=_
  unfold Bsv
  rw [decide_eq_false (show ¬ (c.ps.length:Int)<(c.ps.length:Int) by omega)]
  rfl
def Ck5 (f:Nat) (x:GB) (bl:List (TCT Fq)) (n i:Int) (s:MK):(C6i f).T:=(((),bl,n,i,()),gb (gmU x.1 s.1 (gmO x.1)) s.2)
def Cvk (f:Nat) (x:GB) (s:MK):V2 (C6j f):=⟨.exit 0,((),gb (gmU x.1 s.1 (gmO x.1)) s.2)⟩
def Cvl (f:Nat) (e:Int):V2 (C6j f):=⟨.panic (.ifc 49 (.int .i64 e)),((),())⟩
abbrev TB1 (f:Nat):=Tree ((C6i f).T⊕V2 (C6j f))
def D3q (f:Nat) (r:(D3n f).T):(C6i f).T:=(((),r.1.2.1,r.1.2.2.1,W64 (r.1.2.2.2.1+1),()),r.2)
def Ck6 (f:Nat) (y:Option (V2 (C1z f))):TB1 f:=bif isP 49 .i64 y then .leaf (.inr (Cvl f (panO 49 .i64 y).1)) else bif isE (.exit 2) y then .leaf (.inl (D3q f (Bcg (.exit 2) y))) else .fail
def D3r (f:Nat) (x:GB) (c:Cb):Option (V2 (C1z f)):=iter (Ck3 f) (c.ps.length+1) (C20 f x c c.ps.length 0 (gmM x.1,gk x))
def cb1 (x:GB) (bl:List (TCT Fq)) (n i:Int):Cb:=⟨i,Bcj bl (Int.toNat i),bl,n,i,gmP x.1⟩
def Bsx (f:Nat) (x:GB) (bl:List (TCT Fq)) (n i:Int):TB1 f:=bif decide (i<n) then inN bl.length i (Ck6 f (D3r f x (cb1 x bl n i))) else .leaf (.inr (Cvk f x (gmM x.1,gk x)))
def Ck7 (f:Nat) (g:(C6i f).T):TB1 f:=Bsx f g.2 g.1.2.1 g.1.2.2.1 g.1.2.2.2.1
def fu_b1 (f:Nat) (g:(C6i f).T):Nat:=Int.toNat g.1.2.2.1+1
def sm_b1 (f:Nat):St→Tree (XE×St):=Baz (C6i f) (C6j f) (finP 49 .i64 [.exit 0] (Ck7 f) (fu_b1 f))
def Lt_b1 (f:Nat):Bj2:=fun k=>bif Nat.beq k 4 then some (sm_b2 f) else none
theorem Ck8:Ban C1y=[Bwu]:=by kernel_rfl
theorem Cyp:keyOf Bwu=4:=by kernel_rfl
theorem Ck9 {f:Nat} (h:Bb0 Tryz.prog 103 Bwu (sm_b2 f)):∀ d ∈ Ban C1y,∀ g,Lt_b1 f (keyOf d)=some g→Bb0 Tryz.prog 103 d g:=fun d hd g hg=>by
 rw [Ck8,List.mem_singleton] at hd
 subst hd
 rw [Cyp] at hg
 cases hg
 exact h
theorem Cka:Bb0 Tryz.prog 103 Bwu (sm_b2 53):=Bm7 (Bg4 is_Tick1 Bet Beu) 7 _ _ _ Cr4 _ _ _ _ (fu_b2 53) (fun g=>by kernel_rfl)
theorem Cyq:Bb0 Tryz.prog 103 C1y (sm_b1 53):=C4w (Bg4 is_Tick1 Bet Beu) 7 _ (Lt_b1 53) (Ck9 Cka) _ _ Cr5 _ _ _ _ (fu_b1 53) (fun g=>by kernel_rfl)
def boE (bl:List (TCT Fq)) (c:TCT Bbu) (ps:Dss) (os:List Bool) (w fl t st:Int) (i:Nat) (s:MK):MK⊕Int:=Bsw (Bat (bpE (Bcj bl i) c ps os w fl t st i) 0 ps.length s)
def Bsy (f:Nat) (x:GB):MK⊕Int→V2 (C6j f)
 | .inl s=>Cvk f x s
 | .inr e=>Cvl f e
theorem Ckb {b:TCT Fq} {c:TCT Bbu} {ps:Dss} {os:List Bool} {w fl t st:Int} {i n k0 m:Nat}:∀ (j k:Nat) (s s':MK),k+j=m→InvK n k0 k s→Bsw (Bat (bpE b c ps os w fl t st i) k j s)=.inl s'→InvK n k0 m s'
 | 0,k,s,s',hj,hi,h=>by
  have e:k=m:=by omega
  subst e
  cases h
  exact hi
 | j+1,k,s,s',hj,hi,h=>by
  unfold Bat at h
  cases hf:bpE b c ps os w fl t st i k s with
  | inl t1=>rw [hf] at h;exact Ckb j (k+1) t1 s' (by omega) (Ck4 (m:=m) k s t1 (by omega) hi hf) h
  | inr y =>
   rw [hf] at h
   unfold bpE at hf
   have hk:=hi.k
   cases h1:!Bbq s.1 os i||Bdj w fl i with
   | true =>
    rw [h1] at hf
    cases hf
    cases h
    exact ⟨hi.m,by omega⟩
   | false =>
    rw [h1] at hf
    cases h2:(bmV b (Bah s.1 i) (Bdh ps k) c).2.1==0 with
    | true=>rw [h2] at hf;cases hf
    | false =>
     rw [h2] at hf
     cases h3:(bmV b (Bah s.1 i) (Bdh ps k) c).2.1==4 with
     | true=>rw [h3] at hf;cases hf;cases h
     | false=>rw [h3] at hf;cases hf
structure InvO (n k P:Nat) (i:Nat) (s:MK):Prop where
 m:s.1.length=n
 k:s.2.length≤k+i*P
theorem Ckc {bl:List (TCT Fq)} {c:TCT Bbu} {ps:Dss} {os:List Bool} {w fl t st:Int} {n k0 m:Nat} (i:Nat) (s s':MK) (_:i<m) (hi:InvO n k0 ps.length i s) (h:boE bl c ps os w fl t st i s=.inl s'):InvO n k0 ps.length (i+1) s':=by
 have a:=Ckb (n:=n) (k0:=k0+i*ps.length) (m:=ps.length) ps.length 0 s s' (by omega) ⟨hi.m,by have:=hi.k;omega⟩ h
 have e:(i+1)*ps.length=i*ps.length+ps.length:=Nat.succ_mul i ps.length
 exact ⟨a.m,by have:=a.k;omega⟩
theorem D3s {f:Nat} {x:GB} {s:MK} (hx:OkGM x.1) (hm:s.1.length=nBx x.1) (hk:s.2.length≤900000) (hps:(gmP x.1).length≤1000) :
  iter (Ck7 f) (nBx x.1+1) (Ck5 f x (gmB x.1) (nBx x.1) 0 s)=some (Bsy f x (Bat (boE (gmB x.1) (gmC x.1) (gmP x.1) (gmO x.1) (gmW x.1) (gmF x.1) (gmT x.1) (gmS x.1)) 0 (nBx x.1) s)):=by
 have hn8:=hx.n
 have hn:(nBx x.1:Int)≤Bb4 .i64:=by show (nBx x.1:Int)≤9223372036854775807;omega
 refine Bgn (nBx x.1) (fun i s=>Ck5 f x (gmB x.1) (nBx x.1) i s) (boE (gmB x.1) (gmC x.1) (gmP x.1) (gmO x.1) (gmW x.1) (gmF x.1) (gmT x.1) (gmS x.1)) (Bsy f x) (InvO (nBx x.1) s.2.length (gmP x.1).length) (fun i s1 hi hl=>?_) Ckc (fun s hl=>?_) (nBx x.1) 0 s (by omega) ⟨hm,by omega⟩
 ·show (Bsx f (gb (gmU x.1 s1.1 (gmO x.1)) s1.2) (gmB x.1) (nBx x.1) i).run=_
  have h2:=hl.k
  have h3:i*(gmP x.1).length≤8*1000:=Nat.mul_le_mul (by omega) hps
  have hy:D3r f (gb (gmU x.1 s1.1 (gmO x.1)) s1.2) (cb1 (gb (gmU x.1 s1.1 (gmO x.1)) s1.2) (gmB x.1) (nBx x.1) i)=some (Byr f (gb (gmU x.1 s1.1 (gmO x.1)) s1.2) (cb1 (gb (gmU x.1 s1.1 (gmO x.1)) s1.2) (gmB x.1) (nBx x.1) i) (Bat (bpE (Bcj (gmB x.1) i) (gmC x.1) (gmP x.1) (gmO x.1) (gmW x.1) (gmF x.1) (gmT x.1) (gmS x.1) i) 0 (gmP x.1).length s1)) :=
   D3p (f:=f) (x:=gb (gmU x.1 s1.1 (gmO x.1)) s1.2) (c:=cb1 (gb (gmU x.1 s1.1 (gmO x.1)) s1.2) (gmB x.1) (nBx x.1) i) (i:=i) (n:=nBx x.1) (k0:=s.2.length+i*(gmP x.1).length) (s:=s1) rfl hi hx.os ⟨hl.m,by omega⟩ (by omega) hps
  unfold Bsx
  rw [decide_eq_true (show (i:Int)<(nBx x.1:Int) by omega),Bde (n:=(gmB x.1).length) (by show 0≤(i:Int)∧(i:Int)<(nBx x.1:Int);omega),hy]
  unfold boE Byr
  cases Bsw (Bat (bpE (Bcj (gmB x.1) i) (gmC x.1) (gmP x.1) (gmO x.1) (gmW x.1) (gmF x.1) (gmT x.1) (gmS x.1) i) 0 (gmP x.1).length s1) with
  | inl s2 =>
   show (Tree.leaf (.inl (((),gmB x.1,(nBx x.1:Int),W64 ((i:Int)+1),()),gb (gmU x.1 s2.1 (gmO x.1)) s2.2)):TB1 f).run=_
   rw [Bdd hi hn]
   rfl
  | inr e =>
   have h1:isP 49 .i64 (some (C21 f e))=true:=Blf
   have h2:panO 49 .i64 (some (C21 f e))=⟨e,((),())⟩:=Bhd
   show (Ck6 f (some (C21 f e))).run=_
   unfold Ck6
   rw [h1,h2]
   rfl
 ·show (Bsx f (gb (gmU x.1 s.1 (gmO x.1)) s.2) (gmB x.1) (nBx x.1) (nBx x.1)).run=_
  unfold Bsx
  rw [decide_eq_false (show ¬ (nBx x.1:Int)<(nBx x.1:Int) by omega)]
  rfl
end St
end V
end Go.Proofs.YtcfanlgpkefogaaGreat
namespace Go.Proofs.YtcfanlgpkefogaaGreat
open Go.RowKit
namespace V
namespace St
noncomputable def D7b (f:Nat):Ctx:=Buv Tryz.prog plGm [(103,Tryz.f103)] [((103,1),sm_b1 f),((103,4),sm_b2 f)] (spG f)
theorem Cr6 {f:Nat} (h1:Bbp Tryz.prog 137 (sp_ro f)) (h2:Bbp Tryz.prog 98 (sp_fl f)) (l1:Bb0 Tryz.prog 103 C1y (sm_b1 f)) (l2:Bb0 Tryz.prog 103 Bwu (sm_b2 f)):CtxOk (D7b f) :=
 Bgb Bao puGm (fns_cons is_gbump V1) (Be1 (Bo0 (ds:=[C1y,Bwu]) (by kernel_rfl) ⟨Bi2 (k:=1) (by kernel_rfl) rfl l1,Bi2 (k:=4) (by kernel_rfl) rfl l2,trivial⟩) Biv) (Bit is_rolls.plain h1 is_flies.plain h2)
def Ckd (f:Nat) (x:GB):Option (V2 (C6j f)):=iter (Ck7 f) (nBx x.1+1) (Ck5 f x (gmB x.1) (nBx x.1) 0 (gmM x.1,gk x))
def T_bp (f:Nat) (x:GB):TU f:=bif isP 49 .i64 (Ckd f x) then .leaf ⟨false,pnU f (panO 49 .i64 (Ckd f x)).1⟩ else bif isE (.exit 0) (Ckd f x) then .leaf ⟨true,((),(Bcg (.exit 0) (Ckd f x)).2)⟩ else .fail
def buF (bl:List (TCT Fq)) (c:TCT Bbu) (ps:Dss) (t st w fl:Int) (n:Nat) (s:S2):MK⊕Int:=Bat (boE bl c ps s.2.1 w fl t st) 0 n (s.1,s.2.2)
def C22 (x:GB):Bool:=Bmr x&&decide ((gmP x.1).length≤1000)
theorem C23 {x:GB} (h:C22 x=true):OkGM x.1∧(gk x).length≤900000∧(gmP x.1).length≤1000:=by
 unfold C22 at h
 simp only [Bool.and_eq_true,decide_eq_true_eq] at h
 have a:=Bsq h.1
 exact ⟨a.1,a.2,h.2⟩
def C24 (x:GB):Option (MK⊕Int):=bif C22 x then some (buF (gmB x.1) (gmC x.1) (gmP x.1) (gmT x.1) (gmS x.1) (gmW x.1) (gmF x.1) (nBx x.1) (gs x)) else none
abbrev sp_bp (f:Nat):Baj→Nat→List AV→Tree (Out×Baj×Nat):=Bic Bik (FL_g f) (FE_u f) (Bsk (fun g:(FL_g f).T=>C24 g.2) (fun g=>C1x f g.2) (pnU f) ([],[]))
theorem Cyr {f:Nat} {g:(FL_g f).T} {z:MK⊕Int} (h:C24 g.2=some z):(T_bp f g.2).run=some (Bvr (L:=FL_g f) (E:=FE_u f) (fun g=>C1x f g.2) (pnU f) g z):=by
 unfold C24 at h
 cases ho:C22 g.2 with
 | false=>rw [ho] at h;cases h
 | true =>
  rw [ho] at h
  cases h
  obtain ⟨hg,hk,hp⟩:=C23 ho
  have hy:Ckd f g.2=some (Bsy f g.2 (buF (gmB g.2.1) (gmC g.2.1) (gmP g.2.1) (gmT g.2.1) (gmS g.2.1) (gmW g.2.1) (gmF g.2.1) (nBx g.2.1) (gs g.2))):=D3s hg hg.ms hk hp
  unfold T_bp
  rw [hy]
  cases buF (gmB g.2.1) (gmC g.2.1) (gmP g.2.1) (gmT g.2.1) (gmS g.2.1) (gmW g.2.1) (gmF g.2.1) (nBx g.2.1) (gs g.2) with
  | inl s=>rfl
  | inr e =>
   have h1:isP 49 .i64 (some (Bsy f g.2 (.inr e)))=true:=Blf
   have h2:panO 49 .i64 (some (Bsy f g.2 (.inr e)))=⟨e,((),())⟩:=Bhd
   rw [h1,h2]
   rfl
theorem Cr7:Bbp Tryz.prog 103 (sp_bp 53):=Bph (Cr6 Bet Beu Cyq Cka) 6 Blm _ _ _ _ (fun g=>T_bp 53 g.2) (fun g=>by kernel_rfl) fun _ _ _ h=>Cyr h
end St
end V
end Go.Proofs.YtcfanlgpkefogaaGreat
namespace Go.Proofs.YtcfanlgpkefogaaGreat
open Go.RowKit
namespace V
def thY {A β:Type} (y:Option (A⊕Int)) (d:A) (pn:Int→Tree β) (k:A→Tree β):Tree β:=bif isL y then k (gL d y) else bif isR y then pn (gR 0 y) else .fail
theorem Bwv {A β:Type} {y:Option (A⊕Int)} {d a:A} {pn:Int→Tree β} {k:A→Tree β} (h:y=some (.inl a)):thY y d pn k=k a:=by rw [h];rfl
theorem Bww {A β:Type} {y:Option (A⊕Int)} {d:A} {e:Int} {pn:Int→Tree β} {k:A→Tree β} (h:y=some (.inr e)):thY y d pn k=pn e:=by rw [h];rfl
namespace St
noncomputable def Cke:Code:=(Ban (bodyOf Tryz.f54)).getD 0 .skip
def C6l (f:Nat):Lay:={ keys:=[0],ks:=[.p 0 0 0 0],bs:=bsG f,n:=52,nx:=4000,marks:=[] }
def D7c:Lay:={ keys:=[],ks:=[],bs:=[],n:=52,nx:=9000,marks:=[] }
def C25 (f:Nat):XE→Lay:=fun e=>match e with | .panic _=>D7c | _=>C6l f
theorem Cr8 {f:Nat} (e:XE):(C6l f).nx≤(C25 f e).nx:=by cases e <;> first | exact Nat.le_refl _ | exact (by decide:(4000:Nat)≤9000)
abbrev YS:Type:=GB→Option (Bak⊕Int)
abbrev Y2:Type:=GB→Option (S2⊕Int)
abbrev YK:Type:=GB→Option (MK⊕Int)
abbrev SPf:Type:=Baj→Nat→List AV→Tree (Out×Baj×Nat)
def D7d {β:Type} (m:GM) (ms:Bak) (os:List Bool) (k:GM→β):β:=match m with
 | (a0,a1,a2,a3,a4,a5,a6,a7,a8,a9,a10,a11,a12,a13,a14,_,_,a17,a18,a19,a20,a21,_)=>k (a0,a1,a2,a3,a4,a5,a6,a7,a8,a9,a10,a11,a12,a13,a14,ms,os,a17,a18,a19,a20,a21,())
def D3t {β:Type} (m:GM) (ms:Bak) (k:GM→β):β:=match m with
 | (a0,a1,a2,a3,a4,a5,a6,a7,a8,a9,a10,a11,a12,a13,a14,_,a16,a17,a18,a19,a20,a21,_)=>k (a0,a1,a2,a3,a4,a5,a6,a7,a8,a9,a10,a11,a12,a13,a14,ms,a16,a17,a18,a19,a20,a21,())
def gmA (m:GM) (ms:Bak) (os:List Bool) (fl tk st:Int):GM:=(m.1,m.2.1,m.2.2.1,m.2.2.2.1,m.2.2.2.2.1,m.2.2.2.2.2.1,m.2.2.2.2.2.2.1,m.2.2.2.2.2.2.2.1,m.2.2.2.2.2.2.2.2.1,m.2.2.2.2.2.2.2.2.2.1,m.2.2.2.2.2.2.2.2.2.2.1,m.2.2.2.2.2.2.2.2.2.2.2.1,m.2.2.2.2.2.2.2.2.2.2.2.2.1,m.2.2.2.2.2.2.2.2.2.2.2.2.2.1,m.2.2.2.2.2.2.2.2.2.2.2.2.2.2.1,ms,os,m.2.2.2.2.2.2.2.2.2.2.2.2.2.2.2.2.2.1,fl,tk,st,m.2.2.2.2.2.2.2.2.2.2.2.2.2.2.2.2.2.2.2.2.2.1,())
def Bqi {L:FLay} {E:Bool→FLay} {A:Type} (Y:L.T→Option (A⊕Int)) (mk:L.T→A→((E true).T→Tree (Bcy E))→Tree (Bcy E)) (pn:Int→(E false).T) (d:A) (g:L.T):Tree (Bcy E) :=
 .br (isL (Y g)) (mk g (gL d (Y g)) fun y=>.leaf ⟨true,y⟩) (.br (isR (Y g)) (.leaf ⟨false,pn (gR 0 (Y g))⟩) .fail)
def D3u (f:Nat) (x:GB) (s:S2) (k:(FE_u f true).T→Tree (Bcy (FE_u f))):Tree (Bcy (FE_u f)):=D7d x.1 s.1 s.2.1 fun m=>k ((),(m,(s.2.2,()),()))
def D3v (f:Nat) (x:GB) (s:MK) (k:(FE_u f true).T→Tree (Bcy (FE_u f))):Tree (Bcy (FE_u f)):=D3t x.1 s.1 fun m=>k ((),(m,(s.2,()),()))
def D3w (f:Nat) (x:GB) (s:Bak) (k:(FE_u f true).T→Tree (Bcy (FE_u f))):Tree (Bcy (FE_u f)):=D3t x.1 s fun m=>k ((),(m,(x.2.1.1,()),()))
theorem Cr9 {f:Nat} (Y:Y2):(Bqi (L:=FL_g f) (E:=FE_u f) (fun g=>Y g.2) (fun g=>D3u f g.2) (pnU f) ([],[],[]))=(Bsk (L:=FL_g f) (E:=FE_u f) (fun g=>Y g.2) (fun g=>Cjs f g.2) (pnU f) ([],[],[])):=rfl
theorem Bys {f:Nat} (Y:YK):(Bqi (L:=FL_g f) (E:=FE_u f) (fun g=>Y g.2) (fun g=>D3v f g.2) (pnU f) ([],[]))=(Bsk (L:=FL_g f) (E:=FE_u f) (fun g=>Y g.2) (fun g=>C1x f g.2) (pnU f) ([],[])):=rfl
theorem Cra {f:Nat} (Y:YS):(Bqi (L:=FL_g f) (E:=FE_u f) (fun g=>Y g.2) (fun g=>D3w f g.2) (pnU f) [])=(Bsk (L:=FL_g f) (E:=FE_u f) (fun g=>Y g.2) (fun g=>C66 f g.2) (pnU f) []):=rfl
abbrev D3x (f:Nat) (Y:YS):SPf:=Bic Bik (FL_g f) (FE_u f) (Bqi (fun g:(FL_g f).T=>Y g.2) (fun g=>D3w f g.2) (pnU f) [])
abbrev D3y (f:Nat) (Y:Y2):SPf:=Bic Bik (FL_g f) (FE_u f) (Bqi (fun g:(FL_g f).T=>Y g.2) (fun g=>D3u f g.2) (pnU f) ([],[],[]))
abbrev Cd3 (f:Nat) (Y:YK):SPf:=Bic Bik (FL_g f) (FE_u f) (Bqi (fun g:(FL_g f).T=>Y g.2) (fun g=>D3v f g.2) (pnU f) ([],[]))
structure TY where
 s:YS
 m:Y2
 e:YK
 b:YK
def spT (f:Nat) (Y:TY):List (Nat×SPf):=[(101,D3x f Y.s),(102,D3y f Y.m),(50,Cd3 f Y.e),(103,Cd3 f Y.b)]
def tyG:TY:=⟨Bsn,C1v,Bms,C24⟩
theorem Cys {f:Nat} (h1:Bbp Tryz.prog 101 (sp_slw f)) (h2:Bbp Tryz.prog 102 (sp_mv f)) (h3:Bbp Tryz.prog 50 (sp_se f)) (h4:Bbp Tryz.prog 103 (sp_bp f)):∀ p ∈ spT f tyG,Plain Tryz.prog p.1∧Bbp Tryz.prog p.1 p.2:=fun p hp=>by
 unfold spT at hp
 simp only [List.mem_cons,List.not_mem_nil,or_false] at hp
 rcases hp with rfl | rfl | rfl | rfl
 ·exact ⟨is_gslow.plain,by rw [tyG,D3x,Cra];exact h1⟩
 ·exact ⟨is_gmove.plain,by rw [tyG,D3y,Cr9];exact h2⟩
 ·exact ⟨is_gsettle.plain,by rw [tyG,Cd3,Bys];exact h3⟩
 ·exact ⟨is_gbump.plain,by rw [tyG,Cd3,Bys];exact h4⟩
theorem Cvm:∀ p ∈ spT 53 tyG,Plain Tryz.prog p.1∧Bbp Tryz.prog p.1 p.2:=Cys Cji Cqx Cr2 Cr7
noncomputable def D7e (f:Nat) (Y:TY):Ctx:=Buv Tryz.prog plGm [(49,Tryz.f49)] [] (spT f Y)
theorem Crb {f:Nat} {Y:TY} (h:∀ p ∈ spT f Y,Plain Tryz.prog p.1∧Bbp Tryz.prog p.1 p.2):CtxOk (D7e f Y):=Bgb Bao puGm (fns_cons is_must V1) Biu h
def x2 (x:GB) (s:S2):GB:=gb (gmU x.1 s.1 s.2.1) s.2.2
abbrev TTk (f:Nat):=Tree ((C6l f).T⊕V2 (C25 f))
def Cvn (f:Nat) (e:Int):V2 (C25 f):=⟨.panic (.ifc 49 (.int .i64 e)),((),())⟩
def Bwx (f:Nat) (e:Int):TTk f:=.leaf (.inr (Cvn f e))
def z2:S2:=([],[],[])
def zM:MK:=([],[])
def xS (x:GB) (i:Int) (s:S2):GB:=(gmA x.1 s.1 s.2.1 (gmF x.1) (gmT x.1) i,(s.2.2,()),())
def Bsz (f:Nat) (Y:TY) (x:GB) (i:Int) (s:S2):TTk f:=bif decide (i≤16) then thY (Y.m (xS x i s)) z2 (Bwx f) fun s1=>thY (Y.e (xS x i s1)) zM (Bwx f) fun s2=>thY (Y.b (xS x i (s2.1,s1.2.1,s2.2))) zM (Bwx f) fun s3=>.leaf (.inl (((),()),xS x (W64 (i+1)) (s3.1,s1.2.1,s3.2)))
 else .leaf (.inr ⟨.exit 0,(((),()),xS x i s)⟩)
def Ca2 (f:Nat) (Y:TY) (g:(C6l f).T):TTk f:=Bsz f Y g.2 (gmS g.2.1) (gs g.2)
def fu_tk (f:Nat) (_:(C6l f).T):Nat:=17
def sm_tk (f:Nat) (Y:TY):St→Tree (XE×St):=Baz (C6l f) (C25 f) (finP 49 .i64 [.exit 0] (Ca2 f Y) (fu_tk f))
theorem Cyt {Y:TY} (h:∀ p ∈ spT 53 Y,Plain Tryz.prog p.1∧Bbp Tryz.prog p.1 p.2):Bb0 Tryz.prog 54 Cke (sm_tk 53 Y):=Bm7 (Crb h) 7 _ _ _ Cr8 _ _ _ _ (fu_tk 53) (fun g=>by kernel_rfl)
structure CT where
 bl:List (TCT Fq)
 l:TCT Bal
 c:TCT Bbu
 ps:Dss
 w:Int
 fl:Int
 t:Int
def tkE (k:CT) (i:Nat) (s:S2):S2⊕Int:=match mvF k.bl k.l k.t ((i+1:Nat):Int) k.bl.length s with
 | .inr e=>.inr e
 | .inl s1=>match seF k.bl k.c k.t ((i+1:Nat):Int) k.w k.fl k.bl.length s1 with
  | .inr e=>.inr e
  | .inl s2=>match buF k.bl k.c k.ps k.t ((i+1:Nat):Int) k.w k.fl k.bl.length (s2.1,s1.2.1,s2.2) with
   | .inr e=>.inr e
   | .inl s3=>.inl (s3.1,s1.2.1,s3.2)
theorem Byt {bl:List (TCT Fq)} {l:TCT Bal} {t st:Int} {n k:Nat} {s s':S2} (hs:Inv2 n k 0 s) (h:mvF bl l t st n s=.inl s'):Inv2 n (k+n) 0 s':=by
 unfold mvF at h
 cases h1:Bat (stE bl s.2.1) 0 n s.1 with
 | inr e=>rw [h1] at h;cases h
 | inl ms =>
  rw [h1] at h
  change Bat (lvE l t st) 0 n (ms,s.2.1,s.2.2)=.inl s' at h
  have hm:ms.length=n:=Bav (n:=n) (Inv:=fun _ (s:Bak)=>s.length=n) C68 n 0 _ _ (by omega) hs.m h1
  have a:=Bav (n:=n) (Inv:=Inv2 n k) Cjq n 0 (ms,s.2.1,s.2.2) s' (by omega) ⟨hm,hs.o,hs.k⟩ h
  exact ⟨a.m,a.o,by have:=a.k;omega⟩
theorem Ca3 {bl:List (TCT Fq)} {c:TCT Bbu} {t st w fl:Int} {n k:Nat} {s:S2} {s':MK} (hn:n≤8) (hs:Inv2 n k 0 s) (h:seF bl c t st w fl n s=.inl s'):Inv2 n (k+64) 0 (s'.1,s.2.1,s'.2):=by
 unfold seF at h
 cases he:(seS bl c w fl n s).2.2.1 != 0 with
 | true=>rw [he] at h;cases h
 | false =>
  rw [he] at h
  cases h
  have a:=Bpl (bl:=bl) (bc:=c) (w:=w) (fl:=fl) (s:=s) hn (bne_eq_false_iff_eq.1 he)
  have hk:=hs.k
  refine ⟨?_,hs.o,?_⟩
  ·show (scV _ _ _).length=n
   rw [C9x];exact hs.m
  ·show (kpV _ _ _ _ _).length≤_
   rw [Ca0];have:=a.2.1;omega
theorem Crc {bl:List (TCT Fq)} {c:TCT Bbu} {ps:Dss} {t st w fl:Int} {n k:Nat} {s:S2} {s':MK} (hs:Inv2 n k 0 s) (h:buF bl c ps t st w fl n s=.inl s'):Inv2 n (k+n*ps.length) 0 (s'.1,s.2.1,s'.2):=by
 unfold buF at h
 have hk:=hs.k
 have a:=Bav (n:=n) (Inv:=InvO n s.2.2.length ps.length) Ckc n 0 _ _ (by omega) ⟨hs.m,by show s.2.2.length≤s.2.2.length+0*ps.length;omega⟩ h
 exact ⟨a.m,hs.o,by have:=a.k;show s'.2.length≤_;omega⟩
theorem Ca4 {k:CT} {k0 m:Nat} (hn:k.bl.length≤8) (hp:k.ps.length≤1000) (i:Nat) (s s':S2) (_:i<m) (hs:Inv2 k.bl.length (k0+i*8072) 0 s) (h:tkE k i s=.inl s'):Inv2 k.bl.length (k0+(i+1)*8072) 0 s':=by
 unfold tkE at h
 cases h1:mvF k.bl k.l k.t ((i+1:Nat):Int) k.bl.length s with
 | inr e=>rw [h1] at h;cases h
 | inl s1 =>
  rw [h1] at h
  have a:=Byt hs h1
  simp only at h
  cases h2:seF k.bl k.c k.t ((i+1:Nat):Int) k.w k.fl k.bl.length s1 with
  | inr e=>rw [h2] at h;cases h
  | inl s2 =>
   rw [h2] at h
   have b:=Ca3 hn a h2
   simp only at h
   cases h3:buF k.bl k.c k.ps k.t ((i+1:Nat):Int) k.w k.fl k.bl.length (s2.1,s1.2.1,s2.2) with
   | inr e=>rw [h3] at h;cases h
   | inl s3 =>
    rw [h3] at h
    cases h
    have c:=Crc b h3
    have d:k.bl.length*k.ps.length≤8*1000:=Nat.mul_le_mul hn hp
    exact ⟨c.m,c.o,by have:=c.k;simp only at this ⊢;omega⟩
def ctG (m:GM):CT:=⟨gmB m,gmL m,gmC m,gmP m,gmW m,gmF m,gmT m⟩
theorem Crd {x:GB} {i:Int} {s:S2} {k:Nat} (hsz:(x.1.1.size:Int)≤Bb4 .i64) (hn:nBx x.1≤8) (hs:Inv2 (nBx x.1) k 0 s) (hk:k≤900000):C1v (xS x i s)=some (mvF (gmB x.1) (gmL x.1) (gmT x.1) i (nBx x.1) s):=by
 have h:Bmr (xS x i s)=true:=by
  have:=hs.k
  unfold Bmr
  rw [Bool.and_eq_true,decide_eq_true_eq]
  exact ⟨Bfc.2 ⟨hsz,hs.m,hs.o,hn⟩,by show s.2.2.length≤900000;omega⟩
 unfold C1v;rw [h];rfl
theorem Cre {x:GB} {i:Int} {s:S2} {k:Nat} (hsz:(x.1.1.size:Int)≤Bb4 .i64) (hn:nBx x.1≤8) (hs:Inv2 (nBx x.1) k 0 s) (hk:k≤900000):Bms (xS x i s)=some (seF (gmB x.1) (gmC x.1) (gmT x.1) i (gmW x.1) (gmF x.1) (nBx x.1) s):=by
 have h:Bmr (xS x i s)=true:=by
  have:=hs.k
  unfold Bmr
  rw [Bool.and_eq_true,decide_eq_true_eq]
  exact ⟨Bfc.2 ⟨hsz,hs.m,hs.o,hn⟩,by show s.2.2.length≤900000;omega⟩
 unfold Bms;rw [h];rfl
theorem Crf {x:GB} {i:Int} {s:S2} {k:Nat} (hsz:(x.1.1.size:Int)≤Bb4 .i64) (hn:nBx x.1≤8) (hp:(gmP x.1).length≤1000) (hs:Inv2 (nBx x.1) k 0 s) (hk:k≤900000):C24 (xS x i s)=some (buF (gmB x.1) (gmC x.1) (gmP x.1) (gmT x.1) i (gmW x.1) (gmF x.1) (nBx x.1) s):=by
 have h:C22 (xS x i s)=true:=by
  have:=hs.k
  unfold C22 Bmr
  rw [Bool.and_eq_true,Bool.and_eq_true,decide_eq_true_eq,decide_eq_true_eq]
  exact ⟨⟨Bfc.2 ⟨hsz,hs.m,hs.o,hn⟩,by show s.2.2.length≤900000;omega⟩,hp⟩
 unfold C24;rw [h];rfl
def Ckf (f:Nat) (x:GB) (i:Nat) (s:S2):(C6l f).T:=(((),()),xS x ((i+1:Nat):Int) s)
def D3z (f:Nat) (x:GB) (s:S2):V2 (C25 f):=⟨.exit 0,(((),()),xS x 17 s)⟩
def Bt0 (f:Nat) (x:GB):S2⊕Int→V2 (C25 f)
 | .inl s=>D3z f x s
 | .inr e=>Cvn f e
theorem D40 (x:GB) (i j:Int) (s t:S2):xS (xS x i s) j t=xS x j t:=by
 unfold xS gmA
 rfl
theorem C26 {f:Nat} {x:GB} {i:Nat} {s:S2}:Ca2 f tyG (Ckf f x i s)=Bsz f tyG x ((i+1:Nat):Int) s:=by
 show Bsz f tyG (xS x ((i+1:Nat):Int) s) ((i+1:Nat):Int) s=_
 unfold Bsz
 simp only [D40]
theorem D41 {f:Nat} {x:GB} {s:S2} {k0:Nat} (hsz:(x.1.1.size:Int)≤Bb4 .i64) (hn:nBx x.1≤8) (hp:(gmP x.1).length≤1000) (hs:Inv2 (nBx x.1) k0 0 s) (hk0:k0≤700000) :
  iter (Ca2 f tyG) 17 (Ckf f x 0 s)=some (Bt0 f x (Bat (tkE (ctG x.1)) 0 16 s)):=by
 refine Bgn 16 (fun i s=>Ckf f x i s) (tkE (ctG x.1)) (Bt0 f x) (fun i s=>Inv2 (nBx x.1) (k0+i*8072) 0 s) (fun i s hi hl=>?_) (fun i s s' hi hl h=>Ca4 (k:=ctG x.1) (k0:=k0) (m:=16) hn hp i s s' hi hl h) (fun s hl=>?_) 16 0 s (by omega) ⟨hs.m,hs.o,by have:=hs.k;omega⟩
 ·rw [C26]
  have e1:=Crd (i:=((i+1:Nat):Int)) hsz hn (s:=s) hl (by omega)
  unfold Bsz
  rw [decide_eq_true (show ((i+1:Nat):Int)≤16 by omega),cond_true]
  show (thY (C1v (xS x ((i+1:Nat):Int) s)) z2 (Bwx f) fun s1=>thY (Bms (xS x ((i+1:Nat):Int) s1)) zM (Bwx f) fun s2=>thY (C24 (xS x ((i+1:Nat):Int) (s2.1,s1.2.1,s2.2))) zM (Bwx f) fun s3 =>
   .leaf (.inl (((),()),xS x (W64 (((i+1:Nat):Int)+1)) (s3.1,s1.2.1,s3.2)))).run=_
  unfold tkE
  change C1v (xS x ((i+1:Nat):Int) s)=some (mvF (ctG x.1).bl (ctG x.1).l (ctG x.1).t ((i+1:Nat):Int) (ctG x.1).bl.length s) at e1
  cases h1:mvF (ctG x.1).bl (ctG x.1).l (ctG x.1).t ((i+1:Nat):Int) (ctG x.1).bl.length s with
  | inr e=>rw [h1] at e1;rw [Bww e1];rfl
  | inl s1 =>
   rw [h1] at e1
   rw [Bwv e1]
   have a:Inv2 (nBx x.1) (k0+i*8072+nBx x.1) 0 s1:=Byt hl h1
   have e2:=Cre (i:=((i+1:Nat):Int)) hsz hn (s:=s1) a (by omega)
   change Bms (xS x ((i+1:Nat):Int) s1)=some (seF (ctG x.1).bl (ctG x.1).c (ctG x.1).t ((i+1:Nat):Int) (ctG x.1).w (ctG x.1).fl (ctG x.1).bl.length s1) at e2
   simp only
   cases h2:seF (ctG x.1).bl (ctG x.1).c (ctG x.1).t ((i+1:Nat):Int) (ctG x.1).w (ctG x.1).fl (ctG x.1).bl.length s1 with
   | inr e=>rw [h2] at e2;rw [Bww e2];rfl
   | inl s2 =>
    rw [h2] at e2
    rw [Bwv e2]
    have b:Inv2 (nBx x.1) (k0+i*8072+nBx x.1+64) 0 (s2.1,s1.2.1,s2.2):=Ca3 hn a h2
    have e3:=Crf (i:=((i+1:Nat):Int)) hsz hn hp (s:=(s2.1,s1.2.1,s2.2)) b (by omega)
    change C24 (xS x ((i+1:Nat):Int) (s2.1,s1.2.1,s2.2))=some (buF (ctG x.1).bl (ctG x.1).c (ctG x.1).ps (ctG x.1).t ((i+1:Nat):Int) (ctG x.1).w (ctG x.1).fl (ctG x.1).bl.length (s2.1,s1.2.1,s2.2)) at e3
    simp only
    cases h3:buF (ctG x.1).bl (ctG x.1).c (ctG x.1).ps (ctG x.1).t ((i+1:Nat):Int) (ctG x.1).w (ctG x.1).fl (ctG x.1).bl.length (s2.1,s1.2.1,s2.2) with
    | inr e=>rw [h3] at e3;rw [Bww e3];rfl
    | inl s3 =>
     rw [h3] at e3
     rw [Bwv e3,Bbc (by omega) (by omega)]
     rfl
 ·rw [C26]
  rfl
end St
end V
end Go.Proofs.YtcfanlgpkefogaaGreat
namespace Go.Proofs.YtcfanlgpkefogaaGreat
open Go.RowKit
namespace V
namespace St
noncomputable def X_ti (f:Nat) (Y:TY):Ctx:=Buv Tryz.prog plGm [(54,Tryz.f54),(49,Tryz.f49)] [((54,4),sm_tk f Y)] (spT f Y)
theorem Crg {f:Nat} {Y:TY} (h:∀ p ∈ spT f Y,Plain Tryz.prog p.1∧Bbp Tryz.prog p.1 p.2) (hl:Bb0 Tryz.prog 54 Cke (sm_tk f Y)):CtxOk (X_ti f Y) :=
 Bgb Bao puGm (fns_cons is_gtick (fns_cons is_must V1)) (Be1 (Bo0 (ds:=[Cke]) (by kernel_rfl) ⟨Bi2 (k:=4) (by kernel_rfl) rfl hl,trivial⟩) (Be1 (Bso (by kernel_rfl)) Biv)) h
def C27 (f:Nat) (e:Int):TU f:=.leaf ⟨false,pnU f e⟩
def D42 (v:GB):GB:=(gmA v.1 (gmM v.1) (gmO v.1) (max 0 (W64 (gmF v.1-1))) (W64 (gmT v.1+1)) (gmS v.1),(gk v,()),())
def Cyu (f:Nat) (y:Option (V2 (C25 f))):TU f:=bif isP 49 .i64 y then C27 f (panO 49 .i64 y).1 else bif isE (.exit 0) y then .leaf ⟨true,((),D42 (Bcg (.exit 0) y).2)⟩ else .fail
def Cyv (f:Nat) (Y:TY) (x:GB) (ms:Bak):Option (V2 (C25 f)):=iter (Ca2 f Y) 17 (((),()),xS x 1 (ms,gmO x.1,gk x))
def T_ti (f:Nat) (Y:TY) (x:GB):TU f:=bif gmT x.1==4000 then C27 f 3 else thY (Y.s x) [] (C27 f) fun ms=>Cyu f (Cyv f Y x ms)
def slE (l:TCT Bal) (os:List Bool) (w fl:Int) (i:Nat) (ms:Bak):Bak⊕Int :=
 bif !Bbq ms os i||Bdj w fl i then .inl ms else bif Be0 l (Bah ms i).1 != 0 then .inr (Be0 l (Bah ms i).1) else
 bif (Bhu l (Bah ms i)).2.1 != 0 then .inr 4 else .inl (Bb8 ms i (C64 l (Bah ms i)))
def tkF (k:CT) (s:S2):S2⊕Int:=bif k.t==4000 then .inr 3 else match Bat (slE k.l s.2.1 k.w k.fl) 0 k.bl.length s.1 with
 | .inr e=>.inr e
 | .inl ms=>Bat (tkE k) 0 16 (ms,s.2.1,s.2.2)
def Cd4 (x:GB):Bool:=C22 x&&decide ((gk x).length≤700000)
theorem Ckg {x:GB} (h:Cd4 x=true):OkGM x.1∧(gk x).length≤700000∧(gmP x.1).length≤1000:=by
 unfold Cd4 at h
 simp only [Bool.and_eq_true,decide_eq_true_eq] at h
 have a:=C23 h.1
 exact ⟨a.1,h.2,a.2.2⟩
def Byu (x:GB):Option (S2⊕Int):=bif Cd4 x then some (tkF (ctG x.1) (gs x)) else none
def xT (x:GB) (s:S2):GB:=(gmA x.1 s.1 s.2.1 (max 0 (W64 (gmF x.1-1))) (W64 (gmT x.1+1)) 17,(s.2.2,()),())
def D7f {β:Type} (m:GM) (ms:Bak) (os:List Bool) (k:GM→β):β:=match m with
 | (a0,a1,a2,a3,a4,a5,a6,a7,a8,a9,a10,a11,a12,a13,a14,_,_,a17,a18,a19,_,a21,_)=>k (a0,a1,a2,a3,a4,a5,a6,a7,a8,a9,a10,a11,a12,a13,a14,ms,os,a17,max 0 (W64 (a18-1)),W64 (a19+1),17,a21,())
def D43 (f:Nat) (x:GB) (s:S2) (k:(FE_u f true).T→Tree (Bcy (FE_u f))):Tree (Bcy (FE_u f)):=D7f x.1 s.1 s.2.1 fun m=>k ((),(m,(s.2.2,()),()))
def Cyw (f:Nat) (x:GB) (s:S2):(FE_u f true).T:=((),xT x s)
theorem Crh {f:Nat} (Y:Y2):(Bqi (L:=FL_g f) (E:=FE_u f) (fun g=>Y g.2) (fun g=>D43 f g.2) (pnU f) ([],[],[]))=(Bsk (L:=FL_g f) (E:=FE_u f) (fun g=>Y g.2) (fun g=>Cyw f g.2) (pnU f) ([],[],[])):=rfl
abbrev spYT (f:Nat) (Y:Y2):SPf:=Bic Bik (FL_g f) (FE_u f) (Bqi (fun g:(FL_g f).T=>Y g.2) (fun g=>D43 f g.2) (pnU f) ([],[],[]))
theorem Cyx {f:Nat} {g:(FL_g f).T} {z:S2⊕Int} (h:Byu g.2=some z):(T_ti f tyG g.2).run=some (Bvr (L:=FL_g f) (E:=FE_u f) (fun g=>Cyw f g.2) (pnU f) g z):=by
 unfold Byu at h
 cases ho:Cd4 g.2 with
 | false=>rw [ho] at h;cases h
 | true =>
  rw [ho] at h
  cases h
  obtain ⟨hg,hk,hp⟩:=Ckg ho
  unfold T_ti tkF
  show Tree.run (bif gmT g.2.1==4000 then C27 f 3 else thY (Bsn g.2) [] (C27 f) fun ms=>Cyu f (Cyv f tyG g.2 ms))=some (Bvr (L:=FL_g f) (E:=FE_u f) (fun g=>Cyw f g.2) (pnU f) g (bif gmT g.2.1==4000 then .inr 3 else match Bat (slE (gmL g.2.1) (gmO g.2.1) (gmW g.2.1) (gmF g.2.1)) 0 (nBx g.2.1) (gmM g.2.1) with
   | .inr e=>.inr e
   | .inl ms=>Bat (tkE (ctG g.2.1)) 0 16 (ms,gmO g.2.1,gk g.2)))
  cases gmT g.2.1==4000 with
  | true=>rfl
  | false =>
   simp only [cond_false]
   have e1:Bsn g.2=some (Bat (slE (gmL g.2.1) (gmO g.2.1) (gmW g.2.1) (gmF g.2.1)) 0 (nBx g.2.1) (gmM g.2.1)):=by
    unfold Bsn
    rw [Bfc.2 hg]
    rfl
   cases h1:Bat (slE (gmL g.2.1) (gmO g.2.1) (gmW g.2.1) (gmF g.2.1)) 0 (nBx g.2.1) (gmM g.2.1) with
   | inr e=>rw [h1] at e1;rw [Bww e1];rfl
   | inl ms =>
    rw [h1] at e1
    rw [Bwv e1]
    have hms:ms.length=nBx g.2.1:=Bav (n:=nBx g.2.1) (Inv:=fun _ (s:Bak)=>s.length=nBx g.2.1) (fun i s s' hi hl h=>Cjg (m:=g.2.1) i s s' hi hl h) (nBx g.2.1) 0 _ _ (by omega) hg.ms h1
    have hy:Cyv f tyG g.2 ms=some (Bt0 f g.2 (Bat (tkE (ctG g.2.1)) 0 16 (ms,gmO g.2.1,gk g.2))):=D41 (x:=g.2) (s:=(ms,gmO g.2.1,gk g.2)) (k0:=(gk g.2).length) hg.sz hg.n hp ⟨hms,hg.os,by show (gk g.2).length≤(gk g.2).length+0;omega⟩ hk
    rw [hy]
    simp only
    cases Bat (tkE (ctG g.2.1)) 0 16 (ms,gmO g.2.1,gk g.2) with
    | inl s=>rfl
    | inr e =>
     have h1:isP 49 .i64 (some (Bt0 f g.2 (.inr e)))=true:=Blf
     have h2:panO 49 .i64 (some (Bt0 f g.2 (.inr e)))=⟨e,((),())⟩:=Bhd
     unfold Cyu
     rw [h1,h2]
     rfl
theorem Cyy (Y:TY) (g:(FL_g 53).T):Bn1 (X_ti 53 Y) (Bcx (X_ti 53 Y) 6) 54 (ofKs (FL_g 53).ks g.1 (FL_g 53).nx) ((FL_g 53).lay.hp g) ((FL_g 53).lay.of g).nx (Bus (FE_u 53))=T_ti 53 Y g.2:=by kernel_rfl
theorem Cri:Bbp Tryz.prog 54 (spYT 53 Byu):=by
 rw [spYT,Crh]
 exact Bph (Crg Cvm (Cyt Cvm)) 6 Blm _ _ _ _ (fun g=>T_ti 53 tyG g.2) (Cyy tyG) fun _ _ _ h=>Cyx h
end St
end V
end Go.Proofs.YtcfanlgpkefogaaGreat
namespace Go.Proofs.YtcfanlgpkefogaaGreat
open Go.RowKit
namespace V
theorem Bdu {S B:Type} {f:Nat→S→S⊕B}:∀ (k i:Nat) (s:S) (b:B),Bat f i k s=.inr b→∃ j t,f j t=.inr b
 | 0,_,_,_,h=>by cases h
 | k+1,i,s,b,h=>by
  unfold Bat at h
  cases hf:f i s with
  | inl t=>rw [hf] at h;exact Bdu k (i+1) t b h
  | inr c=>rw [hf] at h;cases h;exact ⟨i,s,hf⟩
namespace St
theorem is_sTick:FnIs Tryz.prog (14,Tryz.f14):=⟨Tryz.func14,by kernel_rfl,by kernel_rfl⟩
theorem is_newGame:FnIs Tryz.prog (45,Tryz.f45):=⟨Tryz.func45,by kernel_rfl,by kernel_rfl⟩
theorem is_sTry:FnIs Tryz.prog (47,Tryz.f47):=⟨Tryz.func47,by kernel_rfl,by kernel_rfl⟩
theorem is_sTry1:FnIs Tryz.prog (97,Tryz.f97):=⟨Tryz.func97,by kernel_rfl,by kernel_rfl⟩
theorem is_clMot:FnIs Tryz.prog (95,Tryz.f95):=⟨Tryz.func95,by kernel_rfl,by kernel_rfl⟩
theorem is_clBool:FnIs Tryz.prog (96,Tryz.f96):=⟨Tryz.func96,by kernel_rfl,by kernel_rfl⟩
theorem Cyz {l:TCT Bal} {os:List Bool} {w fl:Int} {i:Nat} {ms:Bak} {e:Int} (h:slE l os w fl i ms=.inr e):e≠0:=by
 unfold slE at h
 cases h1:!Bbq ms os i||Bdj w fl i with
 | true=>rw [h1] at h;cases h
 | false =>
  rw [h1] at h
  cases h2:Be0 l (Bah ms i).1 != 0 with
  | true=>rw [h2] at h;cases h;exact bne_iff_ne.1 h2
  | false =>
   rw [h2] at h
   cases h3:(Bhu l (Bah ms i)).2.1 != 0 with
   | true=>rw [h3] at h;cases h;decide
   | false=>rw [h3] at h;cases h
theorem Cz0 {bl:List (TCT Fq)} {os:List Bool} {i:Nat} {ms:Bak} {e:Int} (h:stE bl os i ms=.inr e):e≠0:=by
 unfold stE at h
 cases h1:!Bbq ms os i with
 | true=>rw [h1] at h;cases h
 | false =>
  rw [h1] at h
  cases h3:(Bm9 (Bcj bl i) (Bah ms i)).2.1 != 0 with
  | true=>rw [h3] at h;cases h;exact bne_iff_ne.1 h3
  | false=>rw [h3] at h;cases h
theorem Cz1 {bl:List (TCT Fq)} {l:TCT Bal} {t st:Int} {n:Nat} {s:S2} {e:Int} (h:mvF bl l t st n s=.inr e):e≠0:=by
 unfold mvF at h
 cases h1:Bat (stE bl s.2.1) 0 n s.1 with
 | inr e' =>
  rw [h1] at h
  cases h
  obtain ⟨j,t,hj⟩:=Bdu _ _ _ _ h1
  exact Cz0 hj
 | inl ms =>
  rw [h1] at h
  obtain ⟨s',hs'⟩:=Bpj (C9o (l:=l) (t:=t) (st:=st)) n 0 (ms,s.2.1,s.2.2)
  change Bat (lvE l t st) 0 n (ms,s.2.1,s.2.2)=.inr e at h
  rw [hs'] at h
  cases h
theorem Byv {bl:List (TCT Fq)} {c:TCT Bbu} {t st w fl:Int} {n:Nat} {s:S2} {e:Int} (h:seF bl c t st w fl n s=.inr e):e≠0:=by
 unfold seF at h
 cases he:(seS bl c w fl n s).2.2.1 != 0 with
 | true=>rw [he] at h;cases h;exact bne_iff_ne.1 he
 | false=>rw [he] at h;cases h
theorem Cz2 {b:TCT Fq} {c:TCT Bbu} {ps:Dss} {os:List Bool} {w fl t st:Int} {i k:Nat} {s:MK} {e:Int} (h:bpE b c ps os w fl t st i k s=.inr (.inr e)):e≠0:=by
 unfold bpE at h
 cases h1:!Bbq s.1 os i||Bdj w fl i with
 | true=>rw [h1] at h;cases h
 | false =>
  rw [h1] at h
  cases h2:(bmV b (Bah s.1 i) (Bdh ps k) c).2.1==0 with
  | true=>rw [h2] at h;cases h
  | false =>
   rw [h2] at h
   cases h3:(bmV b (Bah s.1 i) (Bdh ps k) c).2.1==4 with
   | true =>
    rw [h3] at h
    cases h
    exact beq_eq_false_iff_ne.1 h2
   | false=>rw [h3] at h;cases h
theorem Cz3 {bl:List (TCT Fq)} {c:TCT Bbu} {ps:Dss} {t st w fl:Int} {n:Nat} {s:S2} {e:Int} (h:buF bl c ps t st w fl n s=.inr e):e≠0:=by
 unfold buF at h
 obtain ⟨j,u,hj⟩:=Bdu _ _ _ _ h
 unfold boE at hj
 cases hf:Bat (bpE (Bcj bl j) c ps s.2.1 w fl t st j) 0 ps.length u with
 | inl a=>rw [hf] at hj;cases hj
 | inr y =>
  rw [hf] at hj
  obtain ⟨k,v,hk⟩:=Bdu _ _ _ _ hf
  have:y=.inr e:=hj
  subst this
  exact Cz2 hk
theorem Cz4 {k:CT} {i:Nat} {s:S2} {e:Int} (h:tkE k i s=.inr e):e≠0:=by
 unfold tkE at h
 cases h1:mvF k.bl k.l k.t ((i+1:Nat):Int) k.bl.length s with
 | inr e'=>rw [h1] at h;cases h;exact Cz1 h1
 | inl s1 =>
  rw [h1] at h
  simp only at h
  cases h2:seF k.bl k.c k.t ((i+1:Nat):Int) k.w k.fl k.bl.length s1 with
  | inr e'=>rw [h2] at h;cases h;exact Byv h2
  | inl s2 =>
   rw [h2] at h
   simp only at h
   cases h3:buF k.bl k.c k.ps k.t ((i+1:Nat):Int) k.w k.fl k.bl.length (s2.1,s1.2.1,s2.2) with
   | inr e'=>rw [h3] at h;cases h;exact Cz3 h3
   | inl s3=>rw [h3] at h;cases h
theorem Cz5 {k:CT} {s:S2} {e:Int} (h:tkF k s=.inr e):e≠0:=by
 unfold tkF at h
 cases h0:k.t==4000 with
 | true=>rw [h0] at h;cases h;decide
 | false =>
  rw [h0] at h
  simp only [cond_false] at h
  cases h1:Bat (slE k.l s.2.1 k.w k.fl) 0 k.bl.length s.1 with
  | inr e' =>
   rw [h1] at h
   cases h
   obtain ⟨j,t,hj⟩:=Bdu _ _ _ _ h1
   exact Cyz hj
  | inl ms =>
   rw [h1] at h
   obtain ⟨j,t,hj⟩:=Bdu _ _ _ _ h
   exact Cz4 hj
def ctS (g:TCT cGr) (s:TCT cSt):CT:=⟨No g,g.1,g.2.2.1,Bgm g.1,s.2.2.1,s.2.2.2.1,s.2.2.2.2.1⟩
abbrev TkR:Type:=TCTs [cSt,.sl cKn,cI]
def Bjf (e:Int):TkR:=(zS,[],e,())
def tkR (s:TCT cSt):S2⊕Int→TkR
 | .inl r=>((r.1,r.2.1,s.2.2.1,max 0 (W64 (s.2.2.2.1-1)),W64 (s.2.2.2.2.1+1),()),r.2.2,0,())
 | .inr e=>Bjf e
def tkV (g:TCT cGr) (s:TCT cSt):TkR:=tkR s (tkF (ctS g s) (msT s,osT s,[]))
def TickV (g:TCT cGr) (s:TCT cSt):TkR:=bif Bij g s != 0 then Bjf (Bij g s) else tkV g s
def C28 (r:TkR):TkR:=(etaS r.1,r.2.1,r.2.2.1,())
abbrev Crj:PureT:=Bbe [cGr,cSt] [cSt,.sl cKn,cI] (fun x=>decide ((x.1.1.1.size:Int)≤Bb4 .i64)) (fun x=>C28 (TickV x.1 x.2.1))
abbrev TTR:=Tree TkR
def gT (g:TCT cGr) (s:TCT cSt):GB:=((g.1.1,g.1.2.1,g.1.2.2.1,g.1.2.2.2.1,g.1.2.2.2.2.1,g.1.2.2.2.2.2.1.1.1,g.1.2.2.2.2.2.1.1.2.1,g.1.2.2.2.2.2.1.2.1,g.1.2.2.2.2.2.2.1,g.1.2.2.2.2.2.2.2.1,g.1.2.2.2.2.2.2.2.2.1,g.2.1,g.2.2.1.1,g.2.2.1.2.1,Bgm g.1,([]++s.1),([]++s.2.1),s.2.2.1,s.2.2.2.1,s.2.2.2.2.1,0,((),(),()),()),([],()),())
def neT {β:Type} {c:Type} (l:List c) (k:Tree β):Tree β:=bif !List.isEmpty l then k else .fail
theorem Byw {β:Type} {c:Type} {l:List c} {k:Tree β} (h:1≤l.length):neT l k=k:=by
 cases l with
 | nil=>simp at h
 | cons _ _=>rfl
def acT {β:Type} {c:Type} (l:List c) (b:Nat) (k:Tree β):Tree β:=bif Bd9 [] l b then k else .fail
theorem Byx {β:Type} {c:Type} {l:List c} {b:Nat} {k:Tree β} (h:l.length≤1000) (hb:b≤48):acT l b k=k:=by
 unfold acT
 rw [Bkk (by simp;omega) hb];rfl
def Crk (Y:Y2) (g:TCT cGr) (s:TCT cSt):TTR:=szT g.1 (bif Bij g s != 0 then .leaf (Bjf (Bij g s)) else szT g.1 (neT (msT s) (acT (msT s) 48 (neT (osT s) (acT (osT s) 1 (
 thY (Y (gT g s)) z2 (fun e=>bif e != 0 then .leaf (Bjf e) else .fail) fun r=>.leaf (tkR s (.inl r))))))))
abbrev plTk:List (Nat×PureT):=(25,Byh)::plGm
theorem puTk:Bc7 Tryz.prog plTk:=puOk_cons is_Posts.plain C99 puGm
noncomputable def D7g:List (Nat×Func):=[(14,Tryz.f14),(45,Tryz.f45),(47,Tryz.f47),(97,Tryz.f97),(95,Tryz.f95),(96,Tryz.f96)]
noncomputable def D44 (Y:Y2):Ctx:=Buv Tryz.prog plTk D7g [] [(54,spYT 53 Y)]
theorem Crl (Y:Y2) (x:TCTs [cGr,cSt]):Bcx (D44 Y) 8 (.fn 14) (Bdi [cGr,cSt] x) Bbx 0 (Bgt Tryz.prog [cSt,.sl cKn,cI])=Crk Y x.1 x.2.1:=by kernel_rfl
theorem Crm:CtxOk (D44 Byu):=Bgb Bao puTk (fns_cons is_sTick (fns_cons is_newGame (fns_cons is_sTry (fns_cons is_sTry1 (fns_cons is_clMot (fns_cons is_clBool V1)))))) Biu (fun p hp=>by
 rw [List.mem_singleton] at hp;subst hp;exact ⟨is_gtick.plain,Cri⟩)
theorem Bt1 {l:TCT Bal}:(Bgm l).length≤25:=by
 unfold Bgm
 cases h:Bc3 l==0 with
 | false=>show (0:Nat)≤25;omega
 | true =>
  have k:Bc3 l=0:=beq_iff_eq.1 h
  have hh:(Bay l).length≤12:=by
   unfold Bc3 Bk1 at k
   cases h1:decide (((Bay l).length:Int)<1)||(decide (((Bay l).length:Int)>12)||decide (((Bc4 l).length:Int)>256)) with
   | true=>rw [h1] at k;cases k
   | false =>
    simp only [Bool.or_eq_false_iff,decide_eq_false_iff_not] at h1
    omega
  show (Bbn l).length≤25
  rw [Bwp]
  omega
structure StaOk (g:TCT cGr) (s:TCT cSt):Prop where
 gr:groE g=0
 n1:1≤(No g).length
 n8:(No g).length≤8
 m:(msT s).length=(No g).length
 o:(osT s).length=(No g).length
 ok:Bfp (okS g (osT s)) 0 (msT s)=true
 num:Byl (No g).length s=false
theorem C6m {g:TCT cGr} {s:TCT cSt} (h:Bij g s=0):StaOk g s:=by
 unfold Bij at h
 cases h1:groE g != 0 with
 | true=>rw [h1,cond_true] at h;exact absurd h (bne_iff_ne.1 h1)
 | false =>
  have hg:groE g=0:=bne_eq_false_iff_eq.1 h1
  rw [h1,cond_false] at h
  unfold vaE at h
  cases h2:Bvo g s with
  | false=>rw [h2] at h;cases h
  | true =>
   rw [h2,cond_true] at h
   cases h3:Bfp (okS g (osT s)) 0 (msT s) with
   | false=>rw [h3] at h;cases h
   | true =>
    rw [h3,cond_true] at h
    cases h4:Byl (No g).length s with
    | true=>rw [h4] at h;cases h
    | false =>
     have a:=C9l hg
     have b:=Bsh h2
     exact ⟨hg,a.1,a.2,b.1,b.2,h3,h4⟩
theorem Crn {g:TCT cGr} {s:TCT cSt} (hs:(g.1.1.size:Int)≤Bb4 .i64) (h:StaOk g s):Cd4 (gT g s)=true:=by
 unfold Cd4 C22 Bmr
 simp only [Bool.and_eq_true,decide_eq_true_eq]
 refine ⟨⟨⟨Bfc.2 ⟨hs,?_,?_,h.n8⟩,by show (0:Nat)≤900000;omega⟩,?_⟩,by show (0:Nat)≤700000;omega⟩
 ·show ([]++s.1:Bak).length=(No g).length
  rw [List.nil_append];exact h.m
 ·show ([]++s.2.1:List Bool).length=(No g).length
  rw [List.nil_append];exact h.o
 ·have:=Bt1 (l:=g.1)
  show (Bgm g.1).length≤1000
  omega
theorem Cro {g:TCT cGr} {s:TCT cSt} (hs:(g.1.1.size:Int)≤Bb4 .i64) (h:StaOk g s):Byu (gT g s)=some (tkF (ctS g s) (msT s,osT s,[])):=by
 unfold Byu
 rw [Crn hs h]
 rfl
theorem Crp {g:TCT cGr} {s:TCT cSt} (hs:(g.1.1.size:Int)≤Bb4 .i64):(Crk Byu g s).sat (fun y=>y=C28 (TickV g s)):=by
 unfold Crk TickV
 rw [Bdm hs,Bdm hs]
 cases h1:Bij g s != 0 with
 | true=>exact rfl
 | false =>
  have h:=C6m (bne_eq_false_iff_eq.1 h1)
  have hn1:=h.n1
  have hn8:=h.n8
  have hm:=h.m
  have ho:=h.o
  simp only [cond_false]
  rw [Byw (by omega),Byx (by omega) (by decide),Byw (by omega),Byx (by omega) (by decide)]
  have hy:=Cro hs h
  unfold tkV
  cases hf:tkF (ctS g s) (msT s,osT s,[]) with
  | inl r=>rw [hf] at hy;rw [Bwv hy];exact rfl
  | inr e =>
   rw [hf] at hy
   rw [Bww hy,show (e != 0)=true from bne_iff_ne.2 (Cz5 hf)]
   exact rfl
theorem Crq:Bai Tryz.prog 14 Crj:=Bbg Crm 8 (fun x=>Crk Byu x.1 x.2.1) (Crl Byu) fun x hok _=>Crp (of_decide_eq_true hok)
end St
end V
end Go.Proofs.YtcfanlgpkefogaaGreat
namespace Go.Proofs.YtcfanlgpkefogaaGreat
open Go.RowKit
namespace V
namespace St
theorem is_sStrike:FnIs Tryz.prog (11,Tryz.f11):=⟨Tryz.func11,by kernel_rfl,by kernel_rfl⟩
def ex2:Bak:=[((50000,60106,()),(0,190000,()),(0,-12800,()),()),((80000,60000,()),(0,0,()),(0,0,()),())]
end St
end V
end Go.Proofs.YtcfanlgpkefogaaGreat
namespace Go.Proofs.YtcfanlgpkefogaaGreat
open Go.RowKit
namespace V
namespace St
end St
end V
end Go.Proofs.YtcfanlgpkefogaaGreat
