import Derived.Test.YtcfanlgpkefogaaGreatBA
namespace Go.Proofs.YtcfanlgpkefogaaGreat
open Go.RowKit
namespace V
namespace St
abbrev kPt:List SK:=[.d cI,.d cI]
def p0:SKTs kPt:=(0,0,())
end St
end V
end Go.Proofs.YtcfanlgpkefogaaGreat
namespace Go.Proofs.YtcfanlgpkefogaaGreat
open Go.RowKit
namespace V
def isL {A B:Type}:Option (A⊕B)→Bool
 | some (.inl _)=>true
 | _=>false
def isR {A B:Type}:Option (A⊕B)→Bool
 | some (.inr _)=>true
 | _=>false
def gL {A B:Type} (d:A):Option (A⊕B)→A
 | some (.inl a)=>a
 | _=>d
def gR {A B:Type} (d:B):Option (A⊕B)→B
 | some (.inr b)=>b
 | _=>d
def FLay.dfl (F:FLay):F.T:=(dflKs F.ks,D1u F.bs)
theorem Bsu {α:Type} {t:Tree α} {R S:α→Prop} (h:t.sat R) (k:∀ x,R x→S x):t.sat S:=by
 induction t with
 | leaf a=>exact k a h
 | need p t ih=>exact ⟨h.1,ih h.2⟩
 | br c t e i1 i2=>exact ⟨fun x=>i1 (h.1 x),fun x=>i2 (h.2 x)⟩
 | fail=>exact h
def Cyv {L:FLay} {E:Bool→FLay} (c:L.T→Bool) (r:L.T→(E true).T) (g:L.T):Tree (Bcy E):=.br (c g) (.leaf ⟨true,r g⟩) .fail
theorem Byz {X:Ctx} (hX:CtxOk X) {f:FuncId} (m:Nat) {probe:Bak→List AV→Option (List Nat)} {L:FLay} {E:Bool→FLay} (hE:∀ b,L.nx≤(E b).nx) (c:L.T→Bool) (r:L.T→(E true).T) (T:L.T→Tree (Bcy E))
  (he:∀ g,Bn6 X (Bcx X m) f (ofKs L.ks g.1 L.nx) (L.lay.hp g) (L.lay.of g).nx (Bv4 E)=T g)
  (h:∀ g,L.lay.WF g→c g=true→(T g).run=some ⟨true,r g⟩):Bbn X.P f (Bia probe L E (Cyv c r)) :=
 C4q hX m hE fun g R hw hf=>by
  rw [he]
  cases hc:c g with
  | false=>exact (hf.2 hc).elim
  | true=>exact Bsu (Tree.sat_run (h g hw hc) (hf.1 hc)) fun x hx _=>hx
namespace St
theorem is_rolls:FnIs Tryz.prog (137,Tryz.f137):=⟨Tryz.func137,by kernel_rfl,by kernel_rfl⟩
theorem is_flies:FnIs Tryz.prog (98,Tryz.f98):=⟨Tryz.func98,by kernel_rfl,by kernel_rfl⟩
theorem is_knock:FnIs Tryz.prog (100,Tryz.f100):=⟨Tryz.func100,by kernel_rfl,by kernel_rfl⟩
theorem is_must:FnIs Tryz.prog (49,Tryz.f49):=⟨Tryz.func49,by kernel_rfl,by kernel_rfl⟩
theorem is_gslow:FnIs Tryz.prog (101,Tryz.f101):=⟨Tryz.func101,by kernel_rfl,by kernel_rfl⟩
theorem is_gmove:FnIs Tryz.prog (102,Tryz.f102):=⟨Tryz.func102,by kernel_rfl,by kernel_rfl⟩
theorem is_gsettle:FnIs Tryz.prog (50,Tryz.f50):=⟨Tryz.func50,by kernel_rfl,by kernel_rfl⟩
theorem is_gbump:FnIs Tryz.prog (103,Tryz.f103):=⟨Tryz.func103,by kernel_rfl,by kernel_rfl⟩
theorem is_gtick:FnIs Tryz.prog (54,Tryz.f54):=⟨Tryz.func54,by kernel_rfl,by kernel_rfl⟩
theorem is_Tick1:FnIs Tryz.prog (53,Tryz.f53):=⟨Tryz.func53,by kernel_rfl,by kernel_rfl⟩
theorem is_Strike1:FnIs Tryz.prog (46,Tryz.f46):=⟨Tryz.func46,by kernel_rfl,by kernel_rfl⟩
abbrev kGm (f:Nat):List SK:=[.d .s,.d cI,.d cI,.d cI,.d (.sl Bbj),.d cI,.d cI,.d cI,.d cI,.d cI,.d (.sl Bc6),.d (.sl Fq),.d cI,.d cI,.d (.sl Bag),.w 2 60 Baq,.o 4 .b,.d cI,.d cI,.d cI,.d cI,.f f [] [.p 1 0 0 0]]
abbrev bsG (f:Nat):List BK:=[(0,137,kGm f),(1,48,[.o 58 cKn])]
abbrev GM:Type:=SKTs (kGm 0)
abbrev Kns:Type:=List (TCT cKn)
abbrev Baj:Type:=List (TCT Baq)
def gmX (m:GM):SKTs kGr:=(m.1,m.2.1,m.2.2.1,m.2.2.2.1,m.2.2.2.2.1,m.2.2.2.2.2.1,m.2.2.2.2.2.2.1,m.2.2.2.2.2.2.2.1,m.2.2.2.2.2.2.2.2.1,m.2.2.2.2.2.2.2.2.2.1,m.2.2.2.2.2.2.2.2.2.2.1,m.2.2.2.2.2.2.2.2.2.2.2.1,m.2.2.2.2.2.2.2.2.2.2.2.2.1,m.2.2.2.2.2.2.2.2.2.2.2.2.2.1,())
def gmP (m:GM):List (TCT Bag):=m.2.2.2.2.2.2.2.2.2.2.2.2.2.2.1
def gmM (m:GM):Baj:=m.2.2.2.2.2.2.2.2.2.2.2.2.2.2.2.1
def gmO (m:GM):List Bool:=m.2.2.2.2.2.2.2.2.2.2.2.2.2.2.2.2.1
def gmW (m:GM):Int:=m.2.2.2.2.2.2.2.2.2.2.2.2.2.2.2.2.2.1
def gmF (m:GM):Int:=m.2.2.2.2.2.2.2.2.2.2.2.2.2.2.2.2.2.2.1
def gmT (m:GM):Int:=m.2.2.2.2.2.2.2.2.2.2.2.2.2.2.2.2.2.2.2.1
def gmS (m:GM):Int:=m.2.2.2.2.2.2.2.2.2.2.2.2.2.2.2.2.2.2.2.2.1
def gmU (m:GM) (ms:Baj) (os:List Bool):GM:=(m.1,m.2.1,m.2.2.1,m.2.2.2.1,m.2.2.2.2.1,m.2.2.2.2.2.1,m.2.2.2.2.2.2.1,m.2.2.2.2.2.2.2.1,m.2.2.2.2.2.2.2.2.1,m.2.2.2.2.2.2.2.2.2.1,m.2.2.2.2.2.2.2.2.2.2.1,m.2.2.2.2.2.2.2.2.2.2.2.1,m.2.2.2.2.2.2.2.2.2.2.2.2.1,m.2.2.2.2.2.2.2.2.2.2.2.2.2.1,m.2.2.2.2.2.2.2.2.2.2.2.2.2.2.1,ms,os,m.2.2.2.2.2.2.2.2.2.2.2.2.2.2.2.2.2.1,m.2.2.2.2.2.2.2.2.2.2.2.2.2.2.2.2.2.2.1,m.2.2.2.2.2.2.2.2.2.2.2.2.2.2.2.2.2.2.2.1,m.2.2.2.2.2.2.2.2.2.2.2.2.2.2.2.2.2.2.2.2.1,m.2.2.2.2.2.2.2.2.2.2.2.2.2.2.2.2.2.2.2.2.2.1,())
def gmB (m:GM):List (TCT Fq):=blX (gmX m)
def gmL (m:GM):TCT Bam:=lwG (gmX m)
abbrev GB:Type:=GM×SKTs [.o 0 cKn]×Unit
def gb (m:GM) (k:Kns):GB:=(m,(k,()),())
def plGm:List (Nat×PureT):=(79,C1y)::(18,Bsp)::(19,C7y)::(39,Cn4)::(138,Cn8)::(99,C3f)::plS4
def Cr6:List AV→List Nat
 | []=>[]
 | .own i::l=>i::Cr6 l
 | _::l=>Cr6 l
def Bij (hp:Bak) (args:List AV):Option (List Nat):=match args with
 | .ptr id _ _ _::_=>match hp id with
  | some (.blk b)=>match nth b.cs 21 with
   | some (.fn _ _ [.ptr k _ _ _])=>match hp k with
    | some (.blk c)=>some (id::k::(Cr6 b.cs++Cr6 c.cs))
    | _=>none
   | _=>none
  | _=>none
 | _=>none
def C25 (f:Nat):FLay:={ ks:=[.p 0 0 0 0,.d cI],bs:=bsG f,nx:=1000 }
def D7c (f:Nat):FLay:={ ks:=[.d .b],bs:=bsG f,nx:=1000 }
def FN:FLay:={ ks:=[.i 49 .i64],bs:=[],nx:=1000 }
def Bvz (f:Nat) (b:Bool):FLay:=bif b then D7c f else FN
def inO {β:Type} (n:Nat) (i:Int) (k:Tree β):Tree β:=inN n i (bif decide (Int.toNat i<n) then k else .fail)
theorem Bfb {β:Type} {n:Nat} {i:Int} {k:Tree β} (h:0≤i∧i<(n:Int)):inO n i k=k:=by
 unfold inO
 rw [Bde h,decide_eq_true (by omega)];rfl
def Bbo (ms:Baj) (os:List Bool) (i:Nat):Bool:=!Bav os i (Bas .b)&&Bii (Bav ms i (Bas Baq))
def Bck (w fl i:Int):Bool:=(i==w)&&decide (fl>0)
def Bw0 (ms:Baj) (os:List Bool) (i:Int):Bool:=decide (0≤i∧i<(os.length:Int)∧i<(ms.length:Int))
def lfB (f:Nat) (b:Bool) (x:GB):Tree (Bcy (Bvz f)):=.leaf ⟨true,((b,()),x)⟩
def T_ro (f:Nat) (i:Int) (m:GM) (x:GB):Tree (Bcy (Bvz f)):=inO (gmO m).length i (bif !Bav (gmO m) (Int.toNat i) (Bas .b) then inO (gmM m).length i (lfB f (Bii (Bav (gmM m) (Int.toNat i) (Bas Baq))) x) else lfB f false x)
abbrev C_ro (f:Nat) (g:(C25 f).T):Bool:=Bw0 g.2.1.2.2.2.2.2.2.2.2.2.2.2.2.2.2.2.1 g.2.1.2.2.2.2.2.2.2.2.2.2.2.2.2.2.2.2.1 g.1.2.1
def V_ro (f:Nat) (g:(C25 f).T):(Bvz f true).T:=((Bbo g.2.1.2.2.2.2.2.2.2.2.2.2.2.2.2.2.2.1 g.2.1.2.2.2.2.2.2.2.2.2.2.2.2.2.2.2.2.1 (Int.toNat g.1.2.1),()),g.2)
def C_fl (f:Nat) (_:(C25 f).T):Bool:=true
def V_fl (f:Nat) (g:(C25 f).T):(Bvz f true).T:=((Bck g.2.1.2.2.2.2.2.2.2.2.2.2.2.2.2.2.2.2.2.1 g.2.1.2.2.2.2.2.2.2.2.2.2.2.2.2.2.2.2.2.2.1 g.1.2.1,()),g.2)
def T_fl (f:Nat) (i:Int) (m:GM) (x:GB):Tree (Bcy (Bvz f)):=bif i==gmW m then lfB f (decide (gmF m>0)) x else lfB f false x
theorem Brm {f:Nat} (b:Bool):1000≤(Bvz f b).nx:=by cases b <;> exact Nat.le_refl _
theorem Cjt {f:Nat} {g:(C25 f).T} (h:C_ro f g=true):(T_ro f g.1.2.1 g.2.1 g.2).run=some ⟨true,V_ro f g⟩:=by
 have hd:0≤g.1.2.1∧g.1.2.1<((gmO g.2.1).length:Int)∧g.1.2.1<((gmM g.2.1).length:Int):=of_decide_eq_true h
 unfold V_ro
 show (T_ro f g.1.2.1 g.2.1 g.2).run=some (⟨true,((Bbo (gmM g.2.1) (gmO g.2.1) (Int.toNat g.1.2.1),()),g.2)⟩:Bcy (Bvz f))
 unfold T_ro Bbo
 rw [Bfb ⟨hd.1,hd.2.1⟩,Bfb ⟨hd.1,hd.2.2⟩]
 cases Bav (gmO g.2.1) (Int.toNat g.1.2.1) (Bas .b) <;> rfl
theorem Cju {f:Nat} {g:(C25 f).T}:(T_fl f g.1.2.1 g.2.1 g.2).run=some ⟨true,V_fl f g⟩:=by
 unfold V_fl
 show (T_fl f g.1.2.1 g.2.1 g.2).run=some (⟨true,((Bck (gmW g.2.1) (gmF g.2.1) g.1.2.1,()),g.2)⟩:Bcy (Bvz f))
 unfold T_fl Bck
 cases g.1.2.1==gmW g.2.1 <;> rfl
abbrev sp_ro (f:Nat):Bak→Nat→List AV→Tree (Out×Bak×Nat):=Bia Bij (C25 f) (Bvz f) (Cyv (fun g=>Bw0 g.2.1.2.2.2.2.2.2.2.2.2.2.2.2.2.2.2.1 g.2.1.2.2.2.2.2.2.2.2.2.2.2.2.2.2.2.2.1 g.1.2.1) (V_ro f))
abbrev sp_fl (f:Nat):Bak→Nat→List AV→Tree (Out×Bak×Nat):=Bia Bij (C25 f) (Bvz f) (Cyv (fun _=>true) (V_fl f))
theorem puGm:Bc5 Tryz.prog plGm:=puOk_cons is_sOn.plain Cvz (puOk_cons is_CellAt.plain C1x (puOk_cons is_Slow.plain Cnb (puOk_cons is_Step.plain D1c (puOk_cons is_Bump.plain D1d (puOk_cons is_Settle.plain Cmc puS4)))))
noncomputable def D7d:Ctx:=ctx Tryz.prog plGm [(137,Tryz.f137),(98,Tryz.f98)]
theorem Brn:CtxOk D7d:=Bap Bao puGm (fns_cons is_rolls (fns_cons is_flies No))
theorem Ber:Bbn Tryz.prog 137 (sp_ro 53):=Byz Brn 6 Brm (C_ro 53) (V_ro 53) (fun g=>T_ro 53 g.1.2.1 g.2.1 g.2) (fun g=>by kernel_rfl) fun _ _ h=>Cjt h
theorem Bes:Bbn Tryz.prog 98 (sp_fl 53):=Byz Brn 6 Brm (C_fl 53) (V_fl 53) (fun g=>T_fl 53 g.1.2.1 g.2.1 g.2) (fun g=>by kernel_rfl) fun _ _ _=>Cju
theorem Bro:Bbn Tryz.prog 137 (sp_ro 46):=Byz Brn 6 Brm (C_ro 46) (V_ro 46) (fun g=>T_ro 46 g.1.2.1 g.2.1 g.2) (fun g=>by kernel_rfl) fun _ _ h=>Cjt h
theorem Brp:Bbn Tryz.prog 98 (sp_fl 46):=Byz Brn 6 Brm (C_fl 46) (V_fl 46) (fun g=>T_fl 46 g.1.2.1 g.2.1 g.2) (fun g=>by kernel_rfl) fun _ _ _=>Cju
end St
end V
end Go.Proofs.YtcfanlgpkefogaaGreat
namespace Go.Proofs.YtcfanlgpkefogaaGreat
open Go.RowKit
namespace V
def Bsv {L:FLay} {E:Bool→FLay} {A:Type} (Y:L.T→Option (A⊕Int)) (mk:L.T→A→(E true).T) (pn:Int→(E false).T) (d:A) (g:L.T):Tree (Bcy E) :=
 .br (isL (Y g)) (.leaf ⟨true,mk g (gL d (Y g))⟩) (.br (isR (Y g)) (.leaf ⟨false,pn (gR 0 (Y g))⟩) .fail)
def Bw1 {L:FLay} {E:Bool→FLay} {A:Type} (mk:L.T→A→(E true).T) (pn:Int→(E false).T) (g:L.T):A⊕Int→Bcy E
 | .inl a=>⟨true,mk g a⟩
 | .inr e=>⟨false,pn e⟩
theorem Cjv {L:FLay} {E:Bool→FLay} {A:Type} {Y:L.T→Option (A⊕Int)} {mk:L.T→A→(E true).T} {pn:Int→(E false).T} {d:A} {g:L.T} {R:Bcy E→Prop} (h:(Bsv Y mk pn d g).sat R):∃ z,Y g=some z∧R (Bw1 mk pn g z):=by
 unfold Bsv at h
 obtain ⟨h1,h2⟩:=h
 cases hF:Y g with
 | none =>
  rw [hF] at h2
  exact ((h2 rfl).2 rfl).elim
 | some z =>
  cases z with
  | inl a=>rw [hF] at h1;exact ⟨_,rfl,h1 rfl⟩
  | inr b=>rw [hF] at h2;exact ⟨_,rfl,(h2 rfl).1 rfl⟩
theorem Bpj {X:Ctx} (hX:CtxOk X) {f:FuncId} (m:Nat) {probe:Bak→List AV→Option (List Nat)} {L:FLay} {E:Bool→FLay} (hE:∀ b,L.nx≤(E b).nx) {A:Type} (Y:L.T→Option (A⊕Int)) (mk:L.T→A→(E true).T) (pn:Int→(E false).T) (d:A) (T:L.T→Tree (Bcy E))
  (he:∀ g,Bn6 X (Bcx X m) f (ofKs L.ks g.1 L.nx) (L.lay.hp g) (L.lay.of g).nx (Bv4 E)=T g)
  (h:∀ g z,L.lay.WF g→Y g=some z→(T g).run=some (Bw1 mk pn g z)):Bbn X.P f (Bia probe L E (Bsv Y mk pn d)) :=
 C4q hX m hE fun g R hw hf=>by
  rw [he]
  obtain ⟨z,hz,hr⟩:=Cjv hf
  exact Bsu (Tree.sat_run (h g z hw hz) hr) fun x hx _=>hx
namespace St
def nBx (m:GM):Nat:=(gmB m).length
def Cjw (m:GM):Bool:=decide ((m.1.size:Int)≤Bb2 .i64)&&(decide ((gmM m).length=nBx m)&&(decide ((gmO m).length=nBx m)&&decide (nBx m≤8)))
structure OkGM (m:GM):Prop where
 sz:(m.1.size:Int)≤Bb2 .i64
 ms:(gmM m).length=nBx m
 os:(gmO m).length=nBx m
 n:nBx m≤8
theorem Bfc {m:GM}:Cjw m=true ↔ OkGM m:=by
 unfold Cjw
 simp only [Bool.and_eq_true,decide_eq_true_eq]
 exact ⟨fun h=>⟨h.1,h.2.1,h.2.2.1,h.2.2.2⟩,fun h=>⟨h.sz,h.ms,h.os,h.n⟩⟩
def FL_g (f:Nat):FLay:={ ks:=[.p 0 0 0 0],bs:=bsG f,nx:=1000 }
def D7e (f:Nat):FLay:={ ks:=[],bs:=bsG f,nx:=1000 }
def FE_u (f:Nat) (b:Bool):FLay:=bif b then D7e f else FN
theorem Blj {f:Nat} (b:Bool):1000≤(FE_u f b).nx:=by cases b <;> exact Nat.le_refl _
def pnU (f:Nat) (e:Int):(FE_u f false).T:=((e,()),())
def mkU (f:Nat) (x:GB):(FE_u f true).T:=((),x)
def spG (f:Nat):List (Nat×(Bak→Nat→List AV→Tree (Out×Bak×Nat))):=[(137,sp_ro f),(98,sp_fl f)]
theorem Biv {P:Program} {f g:Nat} {sp sq:Bak→Nat→List AV→Tree (Out×Bak×Nat)} (h:Plain P f) (k:Bbn P f sp) (h2:Plain P g) (k2:Bbn P g sq):∀ p ∈ [(f,sp),(g,sq)],Plain P p.1∧Bbn P p.1 p.2:=fun p hp=>by
 simp only [List.mem_cons,List.not_mem_nil,or_false] at hp
 rcases hp with rfl | rfl
 ·exact ⟨h,k⟩
 ·exact ⟨h2,k2⟩
theorem Biw {P:Program} {fns:List (Nat×Func)}:∀ p ∈ fns,∀ d ∈ Bal (bodyOf p.2),∀ g,Bby ([]:List ((Nat×Nat)×(St→Tree (XE×St)))) p.1 (keyOf d)=some g→Bb0 P p.1 d g:=fun _ _ _ _ _ h=>by simp [Bby] at h
noncomputable def D7f (f:Nat):Ctx:=Bv7 Tryz.prog plGm [(49,Tryz.f49)] [] (spG f)
theorem Cr7 {f:Nat} (h1:Bbn Tryz.prog 137 (sp_ro f)) (h2:Bbn Tryz.prog 98 (sp_fl f)):CtxOk (D7f f):=Bg9 Bao puGm (fns_cons is_must No) Biw (Biv is_rolls.plain h1 is_flies.plain h2)
noncomputable def Cw4:Code:=(Bal (bodyOf Tryz.f101)).getD 0 .skip
def Cdb (f:Nat):Lay:={ keys:=[0,13,14],ks:=[.p 0 0 0 0,.d cI,.d cI],bs:=bsG f,n:=80,nx:=2000,marks:=[] }
def D7g (f:Nat):Lay:={ keys:=[],ks:=[],bs:=bsG f,n:=80,nx:=2000,marks:=[] }
def D7h:Lay:={ keys:=[],ks:=[],bs:=[],n:=80,nx:=2000,marks:=[] }
def C6i (f:Nat):XE→Lay:=fun e=>match e with | .panic _=>D7h | _=>D7g f
def Bhq (l:TCT Bam) (m:TCT Baq):TCTs [cPt,cI]:=Bk7 (W64 (m.2.1.1+(Bit l m.1).2.1)) (W64 (m.2.1.2.1+(Bit l m.1).2.2.1)) (Bit l m.1).1
def Bsw (l:TCT Bam) (m:TCT Baq):TCT Baq:=(m.1,((Bhq l m).1.1,(Bhq l m).1.2.1,()),m.2.2.1,())
def V2 (ms:Baj) (i:Nat):TCT Baq:=Bav ms i (Bas Baq)
def gk (x:GB):Kns:=x.2.1.1
def Bmb (f:Nat) (x:GB) (n i:Int) (ms:Baj):(Cdb f).T:=(((),n,i,()),(gb (gmU x.1 ms (gmO x.1)) (gk x)))
def Cjx (f:Nat) (x:GB) (ms:Baj):V1 (C6i f):=⟨.exit 0,((),(gb (gmU x.1 ms (gmO x.1)) (gk x)))⟩
def Cjy (f:Nat) (e:Int):V1 (C6i f):=⟨.panic (.ifc 49 (.int .i64 e)),((),())⟩
abbrev TSw (f:Nat):=Tree ((Cdb f).T⊕V1 (C6i f))
def inT {β:Type} (n:Nat) (i:Int) (k:Tree β):Tree β:=bif decide (Int.toNat i<n) then k else .fail
theorem C6j {β:Type} {n:Nat} {i:Int} {k:Tree β} (h:0≤i∧i<(n:Int)):inT n i k=k:=by unfold inT;rw [decide_eq_true (by omega)];rfl
def Cjz (f:Nat) (x:GB) (n i:Int) (ms:Baj):TSw f :=
 bif Bdr (gmL x.1) (V2 ms (Int.toNat i)).1 != 0 then .leaf (.inr (Cjy f (Bdr (gmL x.1) (V2 ms (Int.toNat i)).1))) else inT ms.length i (inT ms.length i (
  bif (Bhq (gmL x.1) (V2 ms (Int.toNat i))).2.1 != 0 then .leaf (.inr (Cjy f 4)) else inT ms.length i (.leaf (.inl (Bmb f x n (W64 (i+1)) (Bb7 ms (Int.toNat i) (Bsw (gmL x.1) (V2 ms (Int.toNat i)))))))))
def szG {β:Type} (m:GM) (k:Tree β):Tree β:=bif decide ((m.1.size:Int)≤Bb2 .i64) then k else .fail
def Bsx (f:Nat) (x:GB) (n i:Int) (ms:Baj):TSw f:=bif decide (i<n) then bif Bw0 ms (gmO x.1) i then
 bif !Bbo ms (gmO x.1) (Int.toNat i) then .leaf (.inl (Bmb f x n (W64 (i+1)) ms)) else bif Bck (gmW x.1) (gmF x.1) i then .leaf (.inl (Bmb f x n (W64 (i+1)) ms)) else
 inO ms.length i (szG x.1 (Cjz f x n i ms)) else .fail else .leaf (.inr (Cjx f x ms))
def Ck0 (f:Nat) (g:(Cdb f).T):TSw f:=Bsx f g.2 g.1.2.1 g.1.2.2.1 (gmM g.2.1)
def fu_sw (f:Nat) (g:(Cdb f).T):Nat:=Int.toNat g.1.2.1+1
def sm_sw (f:Nat):St→Tree (XE×St):=Baw (Cdb f) (C6i f) (finP 49 .i64 [.exit 0] (Ck0 f) (fu_sw f))
theorem Cr8 {f:Nat} (e:XE):(Cdb f).nx≤(C6i f e).nx:=by cases e <;> exact Nat.le_refl _
theorem Cyw:Bb0 Tryz.prog 101 Cw4 (sm_sw 53):=Bm6 (Cr7 Ber Bes) 7 _ _ _ Cr8 _ _ _ _ (fu_sw 53) (fun g=>by kernel_rfl)
def C26 (m:GM) (i:Nat) (ms:Baj):Baj⊕Int :=
 bif !Bbo ms (gmO m) i||Bck (gmW m) (gmF m) i then .inl ms else bif Bdr (gmL m) (V2 ms i).1 != 0 then .inr (Bdr (gmL m) (V2 ms i).1) else
 bif (Bhq (gmL m) (V2 ms i)).2.1 != 0 then .inr 4 else .inl (Bb7 ms i (Bsw (gmL m) (V2 ms i)))
def Bsy (f:Nat) (x:GB):Baj⊕Int→V1 (C6i f)
 | .inl ms=>Cjx f x ms
 | .inr e=>Cjy f e
theorem Bba {α:Type}:∀ (l:List α) (i:Nat) (x:α),(Bb7 l i x).length=l.length
 | [],_,_=>rfl
 | _::_,0,_=>rfl
 | _::l,i+1,x=>by simp only [Bb7,List.length_cons,Bba l i x]
theorem Ck1 {m:GM} {n:Nat} (i:Nat) (s s':Baj) (_:i<n) (hi:s.length=n) (h:C26 m i s=.inl s'):s'.length=n:=by
 unfold C26 at h
 cases h1:!Bbo s (gmO m) i||Bck (gmW m) (gmF m) i with
 | true=>rw [h1] at h;cases h;exact hi
 | false =>
  rw [h1] at h
  cases h2:Bdr (gmL m) (V2 s i).1 != 0 with
  | true=>rw [h2] at h;cases h
  | false =>
   rw [h2] at h
   cases h3:(Bhq (gmL m) (V2 s i)).2.1 != 0 with
   | true=>rw [h3] at h;cases h
   | false=>rw [h3] at h;cases h;rw [Bba];exact hi
theorem Bz0 {ms:Baj} {os:List Bool} {i n:Nat} (h:i<n) (h1:ms.length=n) (h2:os.length=n):Bw0 ms os (i:Int)=true:=by
 unfold Bw0
 exact decide_eq_true (by omega)
theorem D3x {f:Nat} {x:GB} {ms:Baj} (hx:OkGM x.1) (hm:ms.length=nBx x.1):iter (Ck0 f) (nBx x.1+1) (Bmb f x (nBx x.1) 0 ms)=some (Bsy f x (Bat (C26 x.1) 0 (nBx x.1) ms)):=by
 have hn:(nBx x.1:Int)≤Bb2 .i64:=by have:=hx.n;show (nBx x.1:Int)≤9223372036854775807;omega
 refine Bfq (nBx x.1) (fun i ms=>Bmb f x (nBx x.1) i ms) (C26 x.1) (Bsy f x) (fun _ ms=>ms.length=nBx x.1) (fun i ms hi hl=>?_) Ck1 (fun ms hl=>?_) (nBx x.1) 0 ms (by omega) hm
 ·show (Bsx f (gb (gmU x.1 ms (gmO x.1)) (gk x)) (nBx x.1) (i:Int) ms).run=_
  have e:∀ y z,Bmb f (gb (gmU x.1 ms (gmO x.1)) (gk x)) (nBx x.1) y z=Bmb f x (nBx x.1) y z:=fun _ _=>rfl
  unfold Bsx
  have hin:=Bz0 hi hl hx.os
  show Tree.run (bif decide ((i:Int)<(nBx x.1:Int)) then bif Bw0 ms (gmO x.1) (i:Int) then bif !Bbo ms (gmO x.1) i then .leaf (.inl (Bmb f x (nBx x.1) (W64 ((i:Int)+1)) ms)) else bif Bck (gmW x.1) (gmF x.1) i then .leaf (.inl (Bmb f x (nBx x.1) (W64 ((i:Int)+1)) ms)) else
   inO ms.length i (szG x.1 (Cjz f x (nBx x.1) i ms)) else .fail else .leaf (.inr (Cjx f x ms)):TSw f)=_
  have hsz:∀ k:TSw f,szG x.1 k=k:=fun k=>by unfold szG;rw [decide_eq_true hx.sz];rfl
  rw [decide_eq_true (show (i:Int)<(nBx x.1:Int) by omega),hin,Bfb (by omega),hsz,Bdc hi hn]
  unfold C26 Cjz
  rw [C6j (by omega),C6j (by omega),C6j (by omega),show Int.toNat (i:Int)=i from rfl,Bdc hi hn]
  cases Bbo ms (gmO x.1) i with
  | false=>rfl
  | true =>
   cases Bck (gmW x.1) (gmF x.1) i with
   | true=>rfl
   | false =>
    simp only [Bool.not_true,Bool.or_self,cond_true,cond_false]
    cases Bdr (gmL x.1) (V2 ms i).1 != 0 with
    | true=>rfl
    | false =>
     simp only [cond_false]
     cases (Bhq (gmL x.1) (V2 ms i)).2.1 != 0 <;> rfl
 ·show (Bsx f (gb (gmU x.1 ms (gmO x.1)) (gk x)) (nBx x.1) (nBx x.1) ms).run=_
  unfold Bsx
  rw [decide_eq_false (show ¬ (nBx x.1:Int)<(nBx x.1:Int) by omega)]
  rfl
end St
end V
end Go.Proofs.YtcfanlgpkefogaaGreat
namespace Go.Proofs.YtcfanlgpkefogaaGreat
open Go.RowKit
namespace V
namespace St
noncomputable def D7i (f:Nat):Ctx:=Bv7 Tryz.prog plGm [(101,Tryz.f101)] [((101,1),sm_sw f)] (spG f)
theorem Cr9 {f:Nat} (h1:Bbn Tryz.prog 137 (sp_ro f)) (h2:Bbn Tryz.prog 98 (sp_fl f)) (hl:Bb0 Tryz.prog 101 Cw4 (sm_sw f)):CtxOk (D7i f) :=
 Bg9 Bao puGm (fns_cons is_gslow No) (Bbt (by kernel_rfl) (by kernel_rfl) hl) (Biv is_rolls.plain h1 is_flies.plain h2)
def Ck2 (f:Nat) (x:GB):Option (V1 (C6i f)):=iter (Ck0 f) (nBx x.1+1) (Bmb f x (nBx x.1) 0 (gmM x.1))
def T_slw (f:Nat) (x:GB):Tree (Bcy (FE_u f)):=bif isP 49 .i64 (Ck2 f x) then .leaf ⟨false,pnU f (panO 49 .i64 (Ck2 f x)).1⟩ else bif isE (.exit 0) (Ck2 f x) then .leaf ⟨true,((),(Bca (.exit 0) (Ck2 f x)).2)⟩ else .fail
def Bsz (x:GB):Option (Baj⊕Int):=bif Cjw x.1 then some (Bat (C26 x.1) 0 (nBx x.1) (gmM x.1)) else none
def C6k (f:Nat) (x:GB) (ms:Baj):(FE_u f true).T:=mkU f (gb (gmU x.1 ms (gmO x.1)) (gk x))
abbrev sp_slw (f:Nat):Bak→Nat→List AV→Tree (Out×Bak×Nat):=Bia Bij (FL_g f) (FE_u f) (Bsv (fun g:(FL_g f).T=>Bsz g.2) (fun g=>C6k f g.2) (pnU f) [])
theorem Cra {f:Nat} {g:(FL_g f).T} {z:Baj⊕Int} (h:Bsz g.2=some z):(T_slw f g.2).run=some (Bw1 (L:=FL_g f) (E:=FE_u f) (fun g=>C6k f g.2) (pnU f) g z):=by
 unfold Bsz at h
 cases ho:Cjw g.2.1 with
 | false=>rw [ho] at h;cases h
 | true =>
  rw [ho] at h
  cases h
  have hy:Ck2 f g.2=some (Bsy f g.2 (Bat (C26 g.2.1) 0 (nBx g.2.1) (gmM g.2.1))):=D3x (Bfc.1 ho) (Bfc.1 ho).ms
  unfold T_slw
  rw [hy]
  cases Bat (C26 g.2.1) 0 (nBx g.2.1) (gmM g.2.1) with
  | inl ms=>rfl
  | inr e =>
   have h1:isP 49 .i64 (some (Bsy f g.2 (.inr e)))=true:=Blg
   have h2:panO 49 .i64 (some (Bsy f g.2 (.inr e)))=⟨e,((),())⟩:=Bhb
   rw [h1,h2]
   rfl
theorem Ck3:Bbn Tryz.prog 101 (sp_slw 53):=Bpj (Cr9 Ber Bes Cyw) 6 Blj _ _ _ _ (fun g=>T_slw 53 g.2) (fun g=>by kernel_rfl) fun _ _ _ h=>Cra h
end St
end V
end Go.Proofs.YtcfanlgpkefogaaGreat
namespace Go.Proofs.YtcfanlgpkefogaaGreat
open Go.RowKit
namespace V
theorem Bt0 {P:Program} {f:Nat} {fn:Func} {loops:List ((Nat×Nat)×(St→Tree (XE×St)))} (h:Bal (bodyOf fn)=[]):∀ d ∈ Bal (bodyOf fn),∀ g,Bby loops f (keyOf d)=some g→Bb0 P f d g:=by
 intro d hd
 rw [h] at hd
 cases hd
theorem Bix {P:Program} {loops:List ((Nat×Nat)×(St→Tree (XE×St)))}:∀ q ∈ ([]:List (Nat×Func)),∀ d ∈ Bal (bodyOf q.2),∀ g,Bby loops q.1 (keyOf d)=some g→Bb0 P q.1 d g:=fun _ h=>nomatch h
theorem Be2 {P:Program} {f:Nat} {fn:Func} {rest:List (Nat×Func)} {loops:List ((Nat×Nat)×(St→Tree (XE×St)))} (h:∀ d ∈ Bal (bodyOf fn),∀ g,Bby loops f (keyOf d)=some g→Bb0 P f d g)
  (hr:∀ q ∈ rest,∀ d ∈ Bal (bodyOf q.2),∀ g,Bby loops q.1 (keyOf d)=some g→Bb0 P q.1 d g):∀ q ∈ (f,fn)::rest,∀ d ∈ Bal (bodyOf q.2),∀ g,Bby loops q.1 (keyOf d)=some g→Bb0 P q.1 d g:=by
 intro q hq
 rcases List.mem_cons.1 hq with rfl | hq
 ·exact h
 ·exact hr q hq
def Cw5 (P:Program) (f:Nat) (loops:List ((Nat×Nat)×(St→Tree (XE×St)))):List Code→Prop
 | []=>True
 | d::l=>(∀ g,Bby loops f (keyOf d)=some g→Bb0 P f d g)∧Cw5 P f loops l
theorem Bo0 {P:Program} {f:Nat} {fn:Func} {loops:List ((Nat×Nat)×(St→Tree (XE×St)))} {ds:List Code} (h:Bal (bodyOf fn)=ds) (ha:Cw5 P f loops ds):∀ d ∈ Bal (bodyOf fn),∀ g,Bby loops f (keyOf d)=some g→Bb0 P f d g:=by
 rw [h]
 clear h
 induction ds with
 | nil=>intro d hd;cases hd
 | cons a l ih =>
  intro d hd
  rcases List.mem_cons.1 hd with rfl | hd
  ·exact ha.1
  ·exact ih ha.2 d hd
theorem Bhz {P:Program} {f:Nat} {d:Code} {loops:List ((Nat×Nat)×(St→Tree (XE×St)))} {k:Nat} {s:St→Tree (XE×St)} (hk:keyOf d=k) (ha:Bby loops f k=some s) (h:Bb0 P f d s):∀ g,Bby loops f (keyOf d)=some g→Bb0 P f d g:=by
 intro g hg
 rw [hk,ha] at hg
 cases hg
 exact h
namespace St
noncomputable def Ck4:Code:=(Bal (bodyOf Tryz.f102)).getD 0 .skip
def Cdc (f:Nat):Lay:={ keys:=[0,12,13,14],ks:=[.p 0 0 0 0,.d (.sl Fq),.d cI,.d cI],bs:=bsG f,n:=104,nx:=2000,marks:=[] }
def D7j (f:Nat):Lay:={ keys:=[0],ks:=[.p 0 0 0 0],bs:=bsG f,n:=104,nx:=2000,marks:=[] }
def D3y:Lay:={ keys:=[],ks:=[],bs:=[],n:=104,nx:=3000,marks:=[] }
def C27 (f:Nat):XE→Lay:=fun e=>match e with | .panic _=>D3y | _=>D7j f
def Bhr (b:TCT Fq) (m:TCT Baq):TCTs [Baq,cI]:=Bgt (bm b m)
def Bc1 (bl:List (TCT Fq)) (i:Nat):TCT Fq:=Bav bl i (Bas Fq)
def Bwz (f:Nat) (x:GB) (bl:List (TCT Fq)) (n i:Int) (ms:Baj):(Cdc f).T:=(((),bl,n,i,()),(gb (gmU x.1 ms (gmO x.1)) (gk x)))
def Ck5 (f:Nat) (x:GB) (ms:Baj):V1 (C27 f):=⟨.exit 0,(((),()),(gb (gmU x.1 ms (gmO x.1)) (gk x)))⟩
def Cw6 (f:Nat) (e:Int):V1 (C27 f):=⟨.panic (.ifc 49 (.int .i64 e)),((),())⟩
abbrev TM1 (f:Nat):=Tree ((Cdc f).T⊕V1 (C27 f))
def Ck6 (f:Nat) (x:GB) (bl:List (TCT Fq)) (n i:Int) (ms:Baj):TM1 f:=inO ms.length i (bif (Bhr (Bc1 bl (Int.toNat i)) (V2 ms (Int.toNat i))).2.1 != 0 then .leaf (.inr (Cw6 f (Bhr (Bc1 bl (Int.toNat i)) (V2 ms (Int.toNat i))).2.1)) else
 inO ms.length i (.leaf (.inl (Bwz f x bl n (W64 (i+1)) (Bb7 ms (Int.toNat i) (Bhr (Bc1 bl (Int.toNat i)) (V2 ms (Int.toNat i))).1)))))
def C6l (f:Nat) (x:GB) (bl:List (TCT Fq)) (n i:Int) (ms:Baj):TM1 f:=bif decide (i<n) then inN bl.length i (bif Bw0 ms (gmO x.1) i then bif Bbo ms (gmO x.1) (Int.toNat i) then Ck6 f x bl n i ms else .leaf (.inl (Bwz f x bl n (W64 (i+1)) ms)) else .fail) else .leaf (.inr (Ck5 f x ms))
def Ck7 (f:Nat) (g:(Cdc f).T):TM1 f:=C6l f g.2 g.1.2.1 g.1.2.2.1 g.1.2.2.2.1 (gmM g.2.1)
def fu_m1 (f:Nat) (g:(Cdc f).T):Nat:=Int.toNat g.1.2.2.1+1
def sm_m1 (f:Nat):St→Tree (XE×St):=Baw (Cdc f) (C27 f) (finP 49 .i64 [.exit 0] (Ck7 f) (fu_m1 f))
theorem Crb {f:Nat} (e:XE):(Cdc f).nx≤(C27 f e).nx:=by cases e <;> first | exact Nat.le_refl _ | exact (by decide:(2000:Nat)≤3000)
def stE (bl:List (TCT Fq)) (os:List Bool) (i:Nat) (ms:Baj):Baj⊕Int:=bif !Bbo ms os i then .inl ms else bif (Bhr (Bc1 bl i) (V2 ms i)).2.1 != 0 then .inr (Bhr (Bc1 bl i) (V2 ms i)).2.1 else .inl (Bb7 ms i (Bhr (Bc1 bl i) (V2 ms i)).1)
def Bpk (f:Nat) (x:GB):Baj⊕Int→V1 (C27 f)
 | .inl ms=>Ck5 f x ms
 | .inr e=>Cw6 f e
theorem C6m {bl:List (TCT Fq)} {os:List Bool} {n:Nat} (i:Nat) (s s':Baj) (_:i<n) (hi:s.length=n) (h:stE bl os i s=.inl s'):s'.length=n:=by
 unfold stE at h
 cases h1:!Bbo s os i with
 | true=>rw [h1] at h;cases h;exact hi
 | false =>
  rw [h1] at h
  cases h3:(Bhr (Bc1 bl i) (V2 s i)).2.1 != 0 with
  | true=>rw [h3] at h;cases h
  | false=>rw [h3] at h;cases h;rw [Bba];exact hi
theorem D3z {f:Nat} {x:GB} {ms:Baj} (hx:OkGM x.1) (hm:ms.length=nBx x.1):iter (Ck7 f) (nBx x.1+1) (Bwz f x (gmB x.1) (nBx x.1) 0 ms)=some (Bpk f x (Bat (stE (gmB x.1) (gmO x.1)) 0 (nBx x.1) ms)):=by
 have hn:(nBx x.1:Int)≤Bb2 .i64:=by have:=hx.n;show (nBx x.1:Int)≤9223372036854775807;omega
 refine Bfq (nBx x.1) (fun i ms=>Bwz f x (gmB x.1) (nBx x.1) i ms) (stE (gmB x.1) (gmO x.1)) (Bpk f x) (fun _ ms=>ms.length=nBx x.1) (fun i ms hi hl=>?_) C6m (fun ms hl=>?_) (nBx x.1) 0 ms (by omega) hm
 ·show Tree.run (bif decide ((i:Int)<(nBx x.1:Int)) then inN (nBx x.1) i (bif Bw0 ms (gmO x.1) i then bif Bbo ms (gmO x.1) i then Ck6 f x (gmB x.1) (nBx x.1) i ms else .leaf (.inl (Bwz f x (gmB x.1) (nBx x.1) (W64 ((i:Int)+1)) ms)) else .fail) else .leaf (.inr (Ck5 f x ms)):TM1 f)=_
  rw [decide_eq_true (show (i:Int)<(nBx x.1:Int) by omega),Bde (by omega),Bz0 hi hl hx.os,Bdc hi hn]
  unfold stE Ck6
  rw [Bfb (by omega),Bfb (by omega),show Int.toNat (i:Int)=i from rfl,Bdc hi hn]
  cases Bbo ms (gmO x.1) i with
  | false=>rfl
  | true =>
   simp only [Bool.not_true,cond_true,cond_false]
   cases (Bhr (Bc1 (gmB x.1) i) (V2 ms i)).2.1 != 0 <;> rfl
 ·show (C6l f (gb (gmU x.1 ms (gmO x.1)) (gk x)) (gmB x.1) (nBx x.1) (nBx x.1) ms).run=_
  unfold C6l
  rw [decide_eq_false (show ¬ (nBx x.1:Int)<(nBx x.1:Int) by omega)]
  rfl
noncomputable def Ck8:Code:=(Bal (bodyOf Tryz.f102)).getD 1 .skip
def Cdd (f:Nat):Lay:={ keys:=[0,52,53],ks:=[.p 0 0 0 0,.d cI,.d cI],bs:=bsG f,n:=104,nx:=3000,marks:=[] }
def D7k (f:Nat):Lay:={ keys:=[],ks:=[],bs:=bsG f,n:=104,nx:=3000,marks:=[] }
def C6n (f:Nat):XE→Lay:=fun e=>match e with | .panic _=>D3y | _=>D7k f
abbrev S2:Type:=Baj×List Bool×Kns
def kn (t s k b o:Int):TCT cKn:=(t,s,k,b,o,())
def D40 (m:TCT Baq):TCT Baq:=(m.1,(0,0,()),m.2.2.1,())
def Bx0 (f:Nat) (x:GB) (n i:Int) (s:S2):(Cdd f).T:=(((),n,i,()),(gb (gmU x.1 s.1 s.2.1) s.2.2))
def Ck9 (f:Nat) (x:GB) (s:S2):V1 (C6n f):=⟨.exit 2,((),(gb (gmU x.1 s.1 s.2.1) s.2.2))⟩
abbrev TM2 (f:Nat):=Tree ((Cdd f).T⊕V1 (C6n f))
def Cde {β:Type} (ks:Kns) (k:TCT cKn) (t:Kns→Tree β):Tree β:=bif Bd8 ks [k] 40 then t (ks++[k]) else .fail
def Bt1 (f:Nat) (x:GB) (n i:Int) (ms:Baj) (os:List Bool) (ks:Kns):TM2 f:=bif decide (i<n) then inO os.length i (bif !Bav os (Int.toNat i) (Bas .b) then inO ms.length i (
 bif !onB (gmL x.1) (V2 ms (Int.toNat i)).1 then inO os.length i (inO ms.length i (Cde ks (kn (gmT x.1) (gmS x.1) 2 i 0) fun ks'=>.leaf (.inl (Bx0 f x n (W64 (i+1)) (Bb7 ms (Int.toNat i) (D40 (V2 ms (Int.toNat i))),Bb7 os (Int.toNat i) true,ks')))))
 else .leaf (.inl (Bx0 f x n (W64 (i+1)) (ms,os,ks)))) else .leaf (.inl (Bx0 f x n (W64 (i+1)) (ms,os,ks)))) else .leaf (.inr (Ck9 f x (ms,os,ks)))
def Cka (f:Nat) (g:(Cdd f).T):TM2 f:=Bt1 f g.2 g.1.2.1 g.1.2.2.1 (gmM g.2.1) (gmO g.2.1) (gk g.2)
def fu_m2 (f:Nat) (g:(Cdd f).T):Nat:=Int.toNat g.1.2.1+1
def sm_m2 (f:Nat):St→Tree (XE×St):=Baw (Cdd f) (C6n f) (Bd4 [.exit 2] (Cka f) (fu_m2 f))
theorem Crc {f:Nat} (e:XE):(Cdd f).nx≤(C6n f e).nx:=by cases e <;> exact Nat.le_refl _
noncomputable def D7l (f:Nat) (c:Nat×Func):Ctx:=Bv7 Tryz.prog plGm [(49,Tryz.f49),(100,Tryz.f100),c] [] (spG f)
theorem Bg4 {f:Nat} {c:Nat×Func} (hc:FnIs Tryz.prog c) (h1:Bbn Tryz.prog 137 (sp_ro f)) (h2:Bbn Tryz.prog 98 (sp_fl f)):CtxOk (D7l f c):=Bg9 Bao puGm (fns_cons is_must (fns_cons is_knock (fns_cons hc No))) Biw (Biv is_rolls.plain h1 is_flies.plain h2)
theorem Cyx:Bb0 Tryz.prog 102 Ck4 (sm_m1 53):=Bm6 (Bg4 is_Tick1 Ber Bes) 7 _ _ _ Crb _ _ _ _ (fu_m1 53) (fun g=>by kernel_rfl)
theorem Cyy:Bb0 Tryz.prog 102 Ck8 (sm_m2 53):=Bbi (Bg4 is_Tick1 Ber Bes) 7 _ _ _ Crc _ _ (fu_m2 53) (fun g=>by kernel_rfl)
def lvE (l:TCT Bam) (t st:Int) (i:Nat) (s:S2):S2⊕Int:=bif !Bav s.2.1 i (Bas .b) then bif !onB l (V2 s.1 i).1 then .inl (Bb7 s.1 i (D40 (V2 s.1 i)),Bb7 s.2.1 i true,s.2.2++[kn t st 2 i 0]) else .inl s else .inl s
def C6o (f:Nat) (x:GB):S2⊕Int→V1 (C6n f)
 | .inl s=>Ck9 f x s
 | .inr _=>Ck9 f x ([],[],[])
structure Inv2 (n k:Nat) (i:Nat) (s:S2):Prop where
 m:s.1.length=n
 o:s.2.1.length=n
 k:s.2.2.length≤k+i
theorem Ckb {l:TCT Bam} {t st:Int} {n k:Nat} (i:Nat) (s s':S2) (_:i<n) (hi:Inv2 n k i s) (h:lvE l t st i s=.inl s'):Inv2 n k (i+1) s':=by
 unfold lvE at h
 have hk:=hi.k
 cases h1:!Bav s.2.1 i (Bas .b) with
 | false=>rw [h1] at h;cases h;exact ⟨hi.m,hi.o,by omega⟩
 | true =>
  rw [h1] at h
  cases h3:!onB l (V2 s.1 i).1 with
  | false=>rw [h3] at h;cases h;exact ⟨hi.m,hi.o,by omega⟩
  | true=>rw [h3] at h;cases h;exact ⟨by rw [Bba];exact hi.m,by rw [Bba];exact hi.o,by simp;omega⟩
theorem D41 {f:Nat} {x:GB} {s:S2} {n k:Nat} (hn8:n≤8) (hk:k≤900000) (hs:Inv2 n k 0 s):iter (Cka f) (n+1) (Bx0 f x n 0 s)=some (C6o f x (Bat (lvE (gmL x.1) (gmT x.1) (gmS x.1)) 0 n s)):=by
 have hn:(n:Int)≤Bb2 .i64:=by show (n:Int)≤9223372036854775807;omega
 refine Bfq n (fun i s=>Bx0 f x n i s) (lvE (gmL x.1) (gmT x.1) (gmS x.1)) (C6o f x) (Inv2 n k) (fun i s hi hl=>?_) Ckb (fun s hl=>?_) n 0 s (by omega) hs
 ·show (Bt1 f (gb (gmU x.1 s.1 s.2.1) s.2.2) n i s.1 s.2.1 s.2.2).run=_
  unfold Bt1 lvE Cde
  have h1:=hl.m
  have h2:=hl.o
  have h3:=hl.k
  rw [decide_eq_true (show (i:Int)<(n:Int) by omega),Bfb (by omega),Bfb (by omega),Bfb (by omega),Bfb (by omega),show Int.toNat (i:Int)=i from rfl,Bdc hi hn,Bko (by simp;omega) (by decide)]
  cases Bav s.2.1 i (Bas .b) with
  | true=>rfl
  | false =>
   show (bif !onB (gmL x.1) (V2 s.1 i).1 then _ else _:TM2 f).run=_
   simp only [Bool.not_false,cond_true]
   cases onB (gmL x.1) (V2 s.1 i).1 <;> rfl
 ·show (Bt1 f (gb (gmU x.1 s.1 s.2.1) s.2.2) n n s.1 s.2.1 s.2.2).run=_
  unfold Bt1
  rw [decide_eq_false (show ¬ (n:Int)<(n:Int) by omega)]
  rfl
end St
end V
end Go.Proofs.YtcfanlgpkefogaaGreat
namespace Go.Proofs.YtcfanlgpkefogaaGreat
open Go.RowKit
namespace V
theorem Bpl {S B:Type} {f:Nat→S→S⊕B} (h:∀ i s,∃ s',f i s=.inl s'):∀ (k i:Nat) (s:S),∃ s',Bat f i k s=.inl s'
 | 0,_,s=>⟨s,rfl⟩
 | k+1,i,s=>by
  obtain ⟨s',hs⟩:=h i s
  unfold Bat
  rw [hs]
  exact Bpl h k (i+1) s'
namespace St
theorem Ca2 {l:TCT Bam} {t st:Int} (i:Nat) (s:S2):∃ s',lvE l t st i s=.inl s':=by
 unfold lvE
 cases !Bav s.2.1 i (Bas .b) with
 | false=>exact ⟨_,rfl⟩
 | true=>cases !onB l (V2 s.1 i).1 <;> exact ⟨_,rfl⟩
noncomputable def D7m (f:Nat):Ctx:=Bv7 Tryz.prog plGm [(102,Tryz.f102)] [((102,1),sm_m1 f),((102,9),sm_m2 f)] (spG f)
theorem Crd {f:Nat} (h1:Bbn Tryz.prog 137 (sp_ro f)) (h2:Bbn Tryz.prog 98 (sp_fl f)) (hl:Bb0 Tryz.prog 102 Ck4 (sm_m1 f)) (hm:Bb0 Tryz.prog 102 Ck8 (sm_m2 f)):CtxOk (D7m f) :=
 Bg9 Bao puGm (fns_cons is_gmove No) (Be2 (Bo0 (ds:=[Ck4,Ck8]) (by kernel_rfl) ⟨Bhz (k:=1) (by kernel_rfl) rfl hl,Bhz (k:=9) (by kernel_rfl) rfl hm,trivial⟩) Bix) (Biv is_rolls.plain h1 is_flies.plain h2)
def mvF (bl:List (TCT Fq)) (l:TCT Bam) (t st:Int) (n:Nat) (s:S2):S2⊕Int:=match Bat (stE bl s.2.1) 0 n s.1 with
 | .inl ms=>Bat (lvE l t st) 0 n (ms,s.2.1,s.2.2)
 | .inr e=>.inr e
def gs (x:GB):S2:=(gmM x.1,gmO x.1,gk x)
def D42 (f:Nat) (x:GB):Option (V1 (C27 f)):=iter (Ck7 f) (nBx x.1+1) (Bwz f x (gmB x.1) (nBx x.1) 0 (gmM x.1))
def Cyz (f:Nat) (x:GB):Option (V1 (C6n f)):=iter (Cka f) (nBx x.1+1) (Bx0 f x (nBx x.1) 0 (gs x))
abbrev TU (f:Nat):=Tree (Bcy (FE_u f))
def Cw7 (f:Nat) (y:Option (V1 (C6n f))):TU f:=bif isE (.exit 2) y then .leaf ⟨true,((),(Bca (.exit 2) y).2)⟩ else .fail
def Ckc (f:Nat) (y:Option (V1 (C27 f))):TU f:=bif isP 49 .i64 y then .leaf ⟨false,pnU f (panO 49 .i64 y).1⟩ else bif isE (.exit 0) y then Cw7 f (Cyz f (Bca (.exit 0) y).2) else .fail
def T_mv (f:Nat) (x:GB):TU f:=Ckc f (D42 f x)
def Bmu (x:GB):Bool:=Cjw x.1&&decide ((gk x).length≤900000)
def C28 (x:GB):Option (S2⊕Int):=bif Bmu x then some (mvF (gmB x.1) (gmL x.1) (gmT x.1) (gmS x.1) (nBx x.1) (gs x)) else none
def Ckd (f:Nat) (x:GB) (s:S2):(FE_u f true).T:=mkU f (gb (gmU x.1 s.1 s.2.1) s.2.2)
abbrev sp_mv (f:Nat):Bak→Nat→List AV→Tree (Out×Bak×Nat):=Bia Bij (FL_g f) (FE_u f) (Bsv (fun g:(FL_g f).T=>C28 g.2) (fun g=>Ckd f g.2) (pnU f) ([],[],[]))
theorem Bt2 {x:GB} (h:Bmu x=true):OkGM x.1∧(gk x).length≤900000:=by
 unfold Bmu at h
 simp only [Bool.and_eq_true,decide_eq_true_eq] at h
 exact ⟨Bfc.1 h.1,h.2⟩
theorem Cz0 {f:Nat} {g:(FL_g f).T} {z:S2⊕Int} (h:C28 g.2=some z):(T_mv f g.2).run=some (Bw1 (L:=FL_g f) (E:=FE_u f) (fun g=>Ckd f g.2) (pnU f) g z):=by
 unfold C28 at h
 cases ho:Bmu g.2 with
 | false=>rw [ho] at h;cases h
 | true =>
  rw [ho] at h
  cases h
  obtain ⟨hg,hk⟩:=Bt2 ho
  have hy:D42 f g.2=some (Bpk f g.2 (Bat (stE (gmB g.2.1) (gmO g.2.1)) 0 (nBx g.2.1) (gmM g.2.1))):=D3z hg hg.ms
  unfold T_mv mvF
  rw [hy]
  show (Ckc f (some (Bpk f g.2 (Bat (stE (gmB g.2.1) (gmO g.2.1)) 0 (nBx g.2.1) (gmM g.2.1))))).run=some (Bw1 (L:=FL_g f) (E:=FE_u f) (fun g=>Ckd f g.2) (pnU f) g (match Bat (stE (gmB g.2.1) (gmO g.2.1)) 0 (nBx g.2.1) (gmM g.2.1) with
   | .inl ms=>Bat (lvE (gmL g.2.1) (gmT g.2.1) (gmS g.2.1)) 0 (nBx g.2.1) (ms,gmO g.2.1,gk g.2)
   | .inr e=>.inr e))
  cases h1:Bat (stE (gmB g.2.1) (gmO g.2.1)) 0 (nBx g.2.1) (gmM g.2.1) with
  | inr e =>
   have h1:isP 49 .i64 (some (Bpk f g.2 (.inr e)))=true:=Blg
   have h2:panO 49 .i64 (some (Bpk f g.2 (.inr e)))=⟨e,((),())⟩:=Bhb
   unfold Ckc
   rw [h1,h2]
   rfl
  | inl ms =>
   have hms:ms.length=nBx g.2.1:=Bax (n:=nBx g.2.1) (Inv:=fun _ (s:Baj)=>s.length=nBx g.2.1) C6m (nBx g.2.1) 0 _ _ (by omega) hg.ms h1
   have hz:Cyz f (gb (gmU g.2.1 ms (gmO g.2.1)) (gk g.2))=some (C6o f (gb (gmU g.2.1 ms (gmO g.2.1)) (gk g.2)) (Bat (lvE (gmL g.2.1) (gmT g.2.1) (gmS g.2.1)) 0 (nBx g.2.1) (ms,gmO g.2.1,gk g.2))) :=
    D41 (n:=nBx g.2.1) (x:=gb (gmU g.2.1 ms (gmO g.2.1)) (gk g.2)) (s:=(ms,gmO g.2.1,gk g.2)) (k:=(gk g.2).length) hg.n hk ⟨hms,hg.os,by simp⟩
   show (Cw7 f (Cyz f (gb (gmU g.2.1 ms (gmO g.2.1)) (gk g.2)))).run=some (Bw1 (L:=FL_g f) (E:=FE_u f) (fun g=>Ckd f g.2) (pnU f) g (Bat (lvE (gmL g.2.1) (gmT g.2.1) (gmS g.2.1)) 0 (nBx g.2.1) (ms,gmO g.2.1,gk g.2)))
   rw [hz]
   obtain ⟨s',hs'⟩:=Bpl (Ca2 (l:=gmL g.2.1) (t:=gmT g.2.1) (st:=gmS g.2.1)) (nBx g.2.1) 0 (ms,gmO g.2.1,gk g.2)
   rw [hs']
   rfl
theorem Cre:Bbn Tryz.prog 102 (sp_mv 53):=Bpj (Crd Ber Bes Cyx Cyy) 6 Blj _ _ _ _ (fun g=>T_mv 53 g.2) (fun g=>by kernel_rfl) fun _ _ _ h=>Cz0 h
end St
end V
end Go.Proofs.YtcfanlgpkefogaaGreat
namespace Go.Proofs.YtcfanlgpkefogaaGreat
open Go.RowKit
namespace V
def Bpm (n:Nat) (p:TCT Bfk):Prop:=0≤p.1∧p.1<p.2.1∧p.2.1<(n:Int)
theorem Cke {l:List (TCT Fq)} {re dr:Int} {i k n:Nat} {s s':SS} (h:Bdp l re dr i k s=some s') (hik:i<k) (hk:k<n) (hs:∀ p ∈ s.2,Bpm n p):∀ p ∈ s'.2,Bpm n p:=by
 unfold Bdp at h
 cases h1:(Bbm (bAt l s.1 i) (bAt l s.1 k) re dr).2.2.1==0 with
 | true =>
  rw [h1] at h
  simp only [cond_true,Option.some.injEq] at h
  subst h
  intro p hp
  rcases List.mem_append.1 hp with hp | hp
  ·exact hs p hp
  ·rw [List.mem_singleton] at hp
   subst hp
   exact ⟨Int.natCast_nonneg i,Int.ofNat_lt.2 hik,Int.ofNat_lt.2 hk⟩
 | false =>
  rw [h1,cond_false] at h
  cases h2:(Bbm (bAt l s.1 i) (bAt l s.1 k) re dr).2.2.1==4 with
  | true=>rw [h2] at h;simp at h
  | false=>rw [h2] at h;simp only [cond_false,Option.some.injEq] at h;subst h;exact hs
theorem Ckf {l:List (TCT Fq)} {re dr:Int} {i n:Nat}:∀ (f k:Nat) (s s':SS),inR l re dr i f k s=some s'→i<k→k+f≤n→(∀ p ∈ s.2,Bpm n p)→∀ p ∈ s'.2,Bpm n p
 | 0,k,s,s',h,_,_,hs=>by rw [inR,Option.some.injEq] at h;subst h;exact hs
 | f+1,k,s,s',h,hik,hk,hs=>by
  rw [inR] at h
  cases h1:Bdp l re dr i k s with
  | none=>rw [h1] at h;simp at h
  | some s1 =>
   rw [h1,Option.bind_some] at h
   exact Ckf f (k+1) s1 s' h (by omega) (by omega) (Cke h1 hik (by omega) hs)
theorem Ca3 {l:List (TCT Fq)} {re dr:Int}:∀ (f i:Nat) (s s':SS),Bfr l re dr f i s=some s'→i+f=l.length→(∀ p ∈ s.2,Bpm l.length p)→(∀ p ∈ s'.2,Bpm l.length p)∧s'.1.length=s.1.length∧s'.2.length≤s.2.length+f*l.length
 | 0,i,s,s',h,_,hs=>by rw [Biz,Option.some.injEq] at h;subst h;exact ⟨hs,rfl,by omega⟩
 | f+1,i,s,s',h,hi,hs=>by
  rw [Bh5] at h
  cases h1:inR l re dr i (l.length-(i+1)) (i+1) s with
  | none=>rw [h1] at h;simp at h
  | some s1 =>
   rw [h1,Option.bind_some] at h
   have a:=Cb5 _ _ _ _ h1
   have b:=Ca3 f (i+1) s1 s' h (by omega) (Ckf _ _ _ _ h1 (by omega) (by omega) hs)
   refine ⟨b.1,b.2.1.trans a.1,?_⟩
   have e:(f+1)*l.length=f*l.length+l.length:=Nat.succ_mul f l.length
   omega
theorem Cdf {l:List (TCT Fq)} {s:List (TCT Baq)} {re dr:Int} (h:(Bbr l s re dr).2.2.1=0) (hl:l.length≤8):(Bbr l s re dr).1.length=s.length∧(Bbr l s re dr).2.1.length≤64∧∀ p ∈ (Bbr l s re dr).2.1,Bpm l.length p:=by
 unfold Bbr at h ⊢
 cases h1:Bjh l s != 0 with
 | true=>rw [h1,cond_true] at h;exact absurd h (bne_iff_ne.1 h1)
 | false =>
  rw [h1,cond_false] at h
  simp only [cond_false]
  cases h2:!Bfj re dr with
  | true=>rw [h2] at h;cases h
  | false =>
   rw [h2,cond_false] at h
   simp only [cond_false]
   cases h3:Bfr l re dr l.length 0 (s,[]) with
   | none=>rw [h3] at h;cases h
   | some s' =>
    have a:=Ca3 _ _ _ _ h3 (by omega) (fun p hp=>nomatch hp)
    refine ⟨a.2.1,?_,a.1⟩
    have b:s'.2.length≤0+l.length*l.length:=a.2.2
    have c:l.length*l.length≤8*8:=Nat.mul_le_mul hl hl
    show s'.2.length≤64
    omega
end V
end Go.Proofs.YtcfanlgpkefogaaGreat
namespace Go.Proofs.YtcfanlgpkefogaaGreat
open Go.RowKit
namespace V
def unE {S:Type}:S⊕Empty→S
 | .inl s=>s
 | .inr e=>nomatch e
theorem Bgl {S:Type} (x:S⊕Empty):x=.inl (unE x):=by
 cases x with
 | inl s=>rfl
 | inr e=>exact nomatch e
namespace St
abbrev kI:SK:=.o 3 cI
abbrev kBa:SK:=.o 70 Fq
abbrev kMo:SK:=.o 60 Baq
noncomputable def Ca4:Code:=(Bal (bodyOf Tryz.f50)).getD 0 .skip
noncomputable def Ca5:Code:=(Bal (bodyOf Tryz.f50)).getD 1 .skip
noncomputable def Ca6:Code:=(Bal (bodyOf Tryz.f50)).getD 2 .skip
def Cdg (f:Nat):Lay:={ keys:=[0,2,3,4,18,19,20],ks:=[.p 0 0 0 0,kI,kBa,kMo,.d (.sl Fq),.d cI,.d cI],bs:=bsG f,n:=113,nx:=2000,marks:=[] }
def D7n (f:Nat):Lay:={ keys:=[0,2,3,4],ks:=[.p 0 0 0 0,kI,kBa,kMo],bs:=bsG f,n:=113,nx:=2000,marks:=[] }
def C6p (f:Nat):XE→Lay:=fun _=>D7n f
abbrev GA:Type:=List Int×List (TCT Fq)×Baj
def Bo1 (f:Nat) (x:GB) (bl:List (TCT Fq)) (n i:Int) (s:GA):(Cdg f).T:=(((),s.1,s.2.1,s.2.2,bl,n,i,()),x)
def C29 (f:Nat) (x:GB) (s:GA):V1 (C6p f):=⟨.exit 0,(((),s.1,s.2.1,s.2.2,()),x)⟩
abbrev TS1 (f:Nat):=Tree ((Cdg f).T⊕V1 (C6p f))
def ap8 {β:Type} (w:List Int) (i:Int) (k:Tree β):Tree β:=bif Bd8 w [i] 8 then k else .fail
def Crf {β:Type} (w:List (TCT Fq)) (i:TCT Fq) (k:Tree β):Tree β:=bif Bd8 w [i] 16 then k else .fail
def Crg {β:Type} (w:Baj) (i:TCT Baq) (k:Tree β):Tree β:=bif Bd8 w [i] 48 then k else .fail
theorem Cz1 {β:Type} {w:List Int} {i:Int} {k:Tree β} (h:w.length≤1000):ap8 w i k=k:=by unfold ap8;rw [Bko (by simp;omega) (by decide)];rfl
theorem Crh {β:Type} {w:List (TCT Fq)} {i:TCT Fq} {k:Tree β} (h:w.length≤1000):Crf w i k=k:=by unfold Crf;rw [Bko (by simp;omega) (by decide)];rfl
theorem Cri {β:Type} {w:Baj} {i:TCT Baq} {k:Tree β} (h:w.length≤1000):Crg w i k=k:=by unfold Crg;rw [Bko (by simp;omega) (by decide)];rfl
def ga1 (i:Int) (b:TCT Fq) (m:TCT Baq) (s:GA):GA:=(s.1++[i],s.2.1++[b],s.2.2++[m])
def C6q (f:Nat) (x:GB) (bl:List (TCT Fq)) (n i:Int) (s:GA):TS1 f:=bif decide (i<n) then inN bl.length i (inO (gmO x.1).length i (
 bif !Bav (gmO x.1) (Int.toNat i) (Bas .b) then bif !Bck (gmW x.1) (gmF x.1) i then inO (gmM x.1).length i (ap8 s.1 i (Crf s.2.1 (Bc1 bl (Int.toNat i)) (Crg s.2.2 (V2 (gmM x.1) (Int.toNat i))
  (.leaf (.inl (Bo1 f x bl n (W64 (i+1)) (ga1 i (Bc1 bl (Int.toNat i)) (V2 (gmM x.1) (Int.toNat i)) s)))))))
 else .leaf (.inl (Bo1 f x bl n (W64 (i+1)) s)) else .leaf (.inl (Bo1 f x bl n (W64 (i+1)) s)))) else .leaf (.inr (C29 f x s))
def Ckg (f:Nat) (g:(Cdg f).T):TS1 f:=C6q f g.2 g.1.2.2.2.2.1 g.1.2.2.2.2.2.1 g.1.2.2.2.2.2.2.1 (g.1.2.1,g.1.2.2.1,g.1.2.2.2.1)
def fu_s1 (f:Nat) (g:(Cdg f).T):Nat:=Int.toNat g.1.2.2.2.2.2.1+1
def sm_s1 (f:Nat):St→Tree (XE×St):=Baw (Cdg f) (C6p f) (Bd4 [.exit 0] (Ckg f) (fu_s1 f))
theorem Ca7 {f:Nat} (e:XE):(Cdg f).nx≤(C6p f e).nx:=Nat.le_refl _
def gaE (bl:List (TCT Fq)) (ms:Baj) (os:List Bool) (w fl:Int) (i:Nat) (s:GA):GA⊕Empty:=.inl (bif !Bav os i (Bas .b)&&!Bck w fl i then ga1 i (Bc1 bl i) (V2 ms i) s else s)
def gaV (bl:List (TCT Fq)) (w fl:Int) (n:Nat) (ms:Baj) (os:List Bool):GA:=unE (Bat (gaE bl ms os w fl) 0 n ([],[],[]))
structure InvG (n i:Nat) (s:GA):Prop where
 b:s.2.1.length=s.1.length
 m:s.2.2.length=s.1.length
 k:s.1.length≤i
 r:∀ w ∈ s.1,0≤w∧w<(n:Int)
theorem C6r {bl:List (TCT Fq)} {ms:Baj} {os:List Bool} {w fl:Int} {n:Nat} (i:Nat) (s s':GA) (hi:i<n) (h:InvG n i s) (h2:gaE bl ms os w fl i s=.inl s'):InvG n (i+1) s':=by
 unfold gaE at h2
 have hb:=h.b
 have hm:=h.m
 have hk:=h.k
 cases hc:!Bav os i (Bas .b)&&!Bck w fl i with
 | false =>
  rw [hc] at h2
  simp only [cond_false,Sum.inl.injEq] at h2
  subst h2
  exact ⟨hb,hm,by omega,h.r⟩
 | true =>
  rw [hc] at h2
  simp only [cond_true,Sum.inl.injEq] at h2
  subst h2
  refine ⟨by simp [ga1,hb],by simp [ga1,hm],by simp [ga1];omega,fun v hv=>?_⟩
  rcases List.mem_append.1 hv with hv | hv
  ·exact h.r v hv
  ·rw [List.mem_singleton] at hv;subst hv;omega
theorem Ca8 {bl:List (TCT Fq)} {w fl:Int} {n:Nat} {ms:Baj} {os:List Bool}:InvG n n (gaV bl w fl n ms os) :=
 Bax (n:=n) (Inv:=InvG n) C6r n 0 _ _ (by omega) ⟨rfl,rfl,Nat.le_refl _,fun _ h=>absurd h List.not_mem_nil⟩ (Bgl (Bat (gaE bl ms os w fl) 0 n ([],[],[])))
def Cz2 (f:Nat) (x:GB) (r:GA⊕Empty):V1 (C6p f):=C29 f x (unE r)
theorem D43 {f:Nat} {x:GB} (hx:OkGM x.1):iter (Ckg f) (nBx x.1+1) (Bo1 f x (gmB x.1) (nBx x.1) 0 ([],[],[]))=some (C29 f x (gaV (gmB x.1) (gmW x.1) (gmF x.1) (nBx x.1) (gmM x.1) (gmO x.1))):=by
 have hn8:=hx.n
 have hos:=hx.os
 have hms:=hx.ms
 have hn:(nBx x.1:Int)≤Bb2 .i64:=by show (nBx x.1:Int)≤9223372036854775807;omega
 refine Bfq (nBx x.1) (fun i s=>Bo1 f x (gmB x.1) (nBx x.1) i s) (gaE (gmB x.1) (gmM x.1) (gmO x.1) (gmW x.1) (gmF x.1)) (Cz2 f x) (InvG (nBx x.1)) (fun i s hi hl=>?_) C6r (fun s hl=>?_) (nBx x.1) 0 ([],[],[]) (by omega) ⟨rfl,rfl,Nat.le_refl _,fun _ h=>absurd h List.not_mem_nil⟩
 ·show Tree.run (bif decide ((i:Int)<(nBx x.1:Int)) then inN (nBx x.1) i (inO (gmO x.1).length i (
   bif !Bav (gmO x.1) i (Bas .b) then bif !Bck (gmW x.1) (gmF x.1) i then inO (gmM x.1).length i (ap8 s.1 i (Crf s.2.1 (Bc1 (gmB x.1) i) (Crg s.2.2 (V2 (gmM x.1) i)
    (.leaf (.inl (Bo1 f x (gmB x.1) (nBx x.1) (W64 (i+1)) (ga1 i (Bc1 (gmB x.1) i) (V2 (gmM x.1) i) s)))))))
   else .leaf (.inl (Bo1 f x (gmB x.1) (nBx x.1) (W64 (i+1)) s)) else .leaf (.inl (Bo1 f x (gmB x.1) (nBx x.1) (W64 (i+1)) s)))) else .leaf (.inr (C29 f x s)):TS1 f)=_
  have h1:=hl.b
  have h2:=hl.m
  have h3:=hl.k
  rw [decide_eq_true (show (i:Int)<(nBx x.1:Int) by omega),Bde (by omega),Bfb (by omega),Bfb (by omega),Cz1 (by omega),Crh (by omega),Cri (by omega),Bdc hi hn]
  unfold gaE
  cases Bav (gmO x.1) i (Bas .b) with
  | true=>rfl
  | false=>cases Bck (gmW x.1) (gmF x.1) i <;> rfl
 ·show (C6q f x (gmB x.1) (nBx x.1) (nBx x.1) s).run=_
  unfold C6q
  rw [decide_eq_false (show ¬ (nBx x.1:Int)<(nBx x.1:Int) by omega)]
  rfl
def Cdh (f:Nat):Lay:={ keys:=[0,2,4,7,75,76,77],ks:=[.p 0 0 0 0,.d (.sl cI),.d (.sl Baq),.d (.sl Bfk),.d (.sl cI),.d cI,.d cI],bs:=bsG f,n:=113,nx:=3000,marks:=[] }
def D7o (f:Nat):Lay:={ keys:=[0,2,7],ks:=[.p 0 0 0 0,.d (.sl cI),.d (.sl Bfk)],bs:=bsG f,n:=113,nx:=3000,marks:=[] }
def C6s (f:Nat):XE→Lay:=fun _=>D7o f
abbrev Prs:Type:=List (TCT Bfk)
def Ca9 (f:Nat) (x:GB) (W:List Int) (M:Baj) (P:Prs) (W2:List Int) (n i:Int) (ms:Baj):(Cdh f).T:=(((),W,M,P,W2,n,i,()),gb (gmU x.1 ms (gmO x.1)) (gk x))
def Ckh (f:Nat) (x:GB) (W:List Int) (P:Prs) (ms:Baj):V1 (C6s f):=⟨.exit 2,(((),W,P,()),gb (gmU x.1 ms (gmO x.1)) (gk x))⟩
abbrev TS2 (f:Nat):=Tree ((Cdh f).T⊕V1 (C6s f))
def Bt3 (f:Nat) (x:GB) (W:List Int) (M:Baj) (P:Prs) (W2:List Int) (n i:Int) (ms:Baj):TS2 f:=bif decide (i<n) then inN W2.length i (inN M.length i (inO ms.length (Bav W2 (Int.toNat i) (Bas cI)) (
 .leaf (.inl (Ca9 f x W M P W2 n (W64 (i+1)) (Bb7 ms (Int.toNat (Bav W2 (Int.toNat i) (Bas cI))) (V2 M (Int.toNat i)))))))) else .leaf (.inr (Ckh f x W P ms))
def Cki (f:Nat) (g:(Cdh f).T):TS2 f:=Bt3 f g.2 g.1.2.1 g.1.2.2.1 g.1.2.2.2.1 g.1.2.2.2.2.1 g.1.2.2.2.2.2.1 g.1.2.2.2.2.2.2.1 (gmM g.2.1)
def fu_s2 (f:Nat) (g:(Cdh f).T):Nat:=Int.toNat g.1.2.2.2.2.2.1+1
def sm_s2 (f:Nat):St→Tree (XE×St):=Baw (Cdh f) (C6s f) (Bd4 [.exit 2] (Cki f) (fu_s2 f))
theorem Caa {f:Nat} (e:XE):(Cdh f).nx≤(C6s f e).nx:=Nat.le_refl _
def scE (W:List Int) (M:Baj) (i:Nat) (ms:Baj):Baj⊕Empty:=.inl (Bb7 ms (Int.toNat (Bav W i (Bas cI))) (V2 M i))
def scV (W:List Int) (M ms:Baj):Baj:=unE (Bat (scE W M) 0 W.length ms)
theorem Ckj {W:List Int} {M:Baj} {n k:Nat} (i:Nat) (s s':Baj) (_:i<n) (h:s.length=k) (h2:scE W M i s=.inl s'):s'.length=k:=by
 cases h2
 rw [Bba];exact h
theorem Cab {W:List Int} {M ms:Baj}:(scV W M ms).length=ms.length :=
 Bax (n:=W.length) (Inv:=fun _ (s:Baj)=>s.length=ms.length) Ckj W.length 0 ms _ (by omega) rfl (Bgl (Bat (scE W M) 0 W.length ms))
def Cz3 (f:Nat) (x:GB) (W:List Int) (P:Prs) (r:Baj⊕Empty):V1 (C6s f):=Ckh f x W P (unE r)
theorem D44 {f:Nat} {x:GB} {W:List Int} {M:Baj} {P:Prs} {ms:Baj} {n:Nat} (hW:∀ w ∈ W,0≤w∧w<(n:Int)) (hM:M.length=W.length) (hms:ms.length=n) (hl:W.length≤1000) :
  iter (Cki f) (W.length+1) (Ca9 f x W M P W W.length 0 ms)=some (Ckh f x W P (scV W M ms)):=by
 have hn:(W.length:Int)≤Bb2 .i64:=by show (W.length:Int)≤9223372036854775807;omega
 refine Bfq W.length (fun i s=>Ca9 f x W M P W W.length i s) (scE W M) (Cz3 f x W P) (fun _ s=>s.length=n) (fun i s hi hs=>?_) Ckj (fun s hs=>?_) W.length 0 ms (by omega) hms
 ·show (Bt3 f (gb (gmU x.1 s (gmO x.1)) (gk x)) W M P W W.length i s).run=_
  have hw:=hW (Bav W i (Bas cI)) (by rw [Bdb hi];exact List.getElem_mem hi)
  unfold Bt3
  rw [decide_eq_true (show (i:Int)<(W.length:Int) by omega),Bde (by omega),Bde (by omega),show Int.toNat (i:Int)=i from rfl,Bfb (by omega),Bdc hi hn]
  rfl
 ·show (Bt3 f (gb (gmU x.1 s (gmO x.1)) (gk x)) W M P W W.length W.length s).run=_
  unfold Bt3
  rw [decide_eq_false (show ¬ (W.length:Int)<(W.length:Int) by omega)]
  rfl
def Cdi (f:Nat):Lay:={ keys:=[0,2,94,95,96],ks:=[.p 0 0 0 0,.d (.sl cI),.d (.sl Bfk),.d cI,.d cI],bs:=bsG f,n:=113,nx:=4000,marks:=[] }
def D7p (f:Nat):Lay:={ keys:=[],ks:=[],bs:=bsG f,n:=113,nx:=4000,marks:=[] }
def C6t (f:Nat):XE→Lay:=fun _=>D7p f
def Cac (f:Nat) (x:GB) (W:List Int) (P:Prs) (n i:Int) (ks:Kns):(Cdi f).T:=(((),W,P,n,i,()),gb x.1 ks)
def Ckk (f:Nat) (x:GB) (ks:Kns):V1 (C6t f):=⟨.exit 4,((),gb x.1 ks)⟩
abbrev TS3 (f:Nat):=Tree ((Cdi f).T⊕V1 (C6t f))
def Biy (P:Prs) (i:Nat):TCT Bfk:=Bav P i (Bas Bfk)
def knP (t st:Int) (W:List Int) (p:TCT Bfk):TCT cKn:=kn t st 0 (Bav W (Int.toNat p.1) (Bas cI)) (Bav W (Int.toNat p.2.1) (Bas cI))
def Bt4 (f:Nat) (x:GB) (W:List Int) (P:Prs) (n i:Int) (ks:Kns):TS3 f:=bif decide (i<n) then inN P.length i (inN W.length (Biy P (Int.toNat i)).1 (inN W.length (Biy P (Int.toNat i)).2.1 (
 Cde ks (knP (gmT x.1) (gmS x.1) W (Biy P (Int.toNat i))) fun ks'=>.leaf (.inl (Cac f x W P n (W64 (i+1)) ks'))))) else .leaf (.inr (Ckk f x ks))
def Ckl (f:Nat) (g:(Cdi f).T):TS3 f:=Bt4 f g.2 g.1.2.1 g.1.2.2.1 g.1.2.2.2.1 g.1.2.2.2.2.1 (gk g.2)
def fu_s3 (f:Nat) (g:(Cdi f).T):Nat:=Int.toNat g.1.2.2.2.1+1
def sm_s3 (f:Nat):St→Tree (XE×St):=Baw (Cdi f) (C6t f) (Bd4 [.exit 4] (Ckl f) (fu_s3 f))
theorem Cad {f:Nat} (e:XE):(Cdi f).nx≤(C6t f e).nx:=Nat.le_refl _
def kpE (W:List Int) (P:Prs) (t st:Int) (i:Nat) (ks:Kns):Kns⊕Empty:=.inl (ks++[knP t st W (Biy P i)])
def kpV (W:List Int) (P:Prs) (t st:Int) (ks:Kns):Kns:=unE (Bat (kpE W P t st) 0 P.length ks)
theorem Ckm {W:List Int} {P:Prs} {t st:Int} {n k:Nat} (i:Nat) (s s':Kns) (_:i<n) (h:s.length=k+i) (h2:kpE W P t st i s=.inl s'):s'.length=k+(i+1):=by
 cases h2
 simp only [List.length_append,List.length_singleton]
 omega
theorem Bz1 {W:List Int} {P:Prs} {t st:Int} {ks:Kns}:(kpV W P t st ks).length=ks.length+P.length :=
 Bax (n:=P.length) (Inv:=fun i (s:Kns)=>s.length=ks.length+i) Ckm P.length 0 ks _ (by omega) rfl (Bgl (Bat (kpE W P t st) 0 P.length ks))
def Cz4 (f:Nat) (x:GB) (r:Kns⊕Empty):V1 (C6t f):=Ckk f x (unE r)
theorem D45 {f:Nat} {x:GB} {W:List Int} {P:Prs} {ks:Kns} (hP:∀ p ∈ P,Bpm W.length p) (hk:ks.length≤900000) (hl:P.length≤1000) :
  iter (Ckl f) (P.length+1) (Cac f x W P P.length 0 ks)=some (Ckk f x (kpV W P (gmT x.1) (gmS x.1) ks)):=by
 have hn:(P.length:Int)≤Bb2 .i64:=by show (P.length:Int)≤9223372036854775807;omega
 refine Bfq P.length (fun i s=>Cac f x W P P.length i s) (kpE W P (gmT x.1) (gmS x.1)) (Cz4 f x) (fun i s=>s.length=ks.length+i) (fun i s hi hs=>?_) Ckm (fun s hs=>?_) P.length 0 ks (by omega) rfl
 ·show (Bt4 f (gb x.1 s) W P P.length i s).run=_
  have hp:=hP (Biy P i) (by unfold Biy;rw [Bdb hi];exact List.getElem_mem hi)
  unfold Bt4 Cde
  rw [decide_eq_true (show (i:Int)<(P.length:Int) by omega),Bde (by omega),show Int.toNat (i:Int)=i from rfl,Bde ⟨hp.1,Int.lt_trans hp.2.1 hp.2.2⟩,Bde ⟨Int.le_trans hp.1 (Int.le_of_lt hp.2.1),hp.2.2⟩,Bko (by simp;omega) (by decide),Bdc hi hn]
  rfl
 ·show (Bt4 f (gb x.1 s) W P P.length P.length s).run=_
  unfold Bt4
  rw [decide_eq_false (show ¬ (P.length:Int)<(P.length:Int) by omega)]
  rfl
theorem Cz5:Bb0 Tryz.prog 50 Ca4 (sm_s1 53):=Bbi (Bg4 is_Tick1 Ber Bes) 7 _ _ _ Ca7 _ _ (fu_s1 53) (fun g=>by kernel_rfl)
theorem Cz6:Bb0 Tryz.prog 50 Ca5 (sm_s2 53):=Bbi (Bg4 is_Tick1 Ber Bes) 7 _ _ _ Caa _ _ (fu_s2 53) (fun g=>by kernel_rfl)
theorem Cz7:Bb0 Tryz.prog 50 Ca6 (sm_s3 53):=Bbi (Bg4 is_Tick1 Ber Bes) 7 _ _ _ Cad _ _ (fu_s3 53) (fun g=>by kernel_rfl)
theorem Cz8:Bb0 Tryz.prog 50 Ca4 (sm_s1 46):=Bbi (Bg4 is_Strike1 Bro Brp) 7 _ _ _ Ca7 _ _ (fu_s1 46) (fun g=>by kernel_rfl)
theorem Cz9:Bb0 Tryz.prog 50 Ca5 (sm_s2 46):=Bbi (Bg4 is_Strike1 Bro Brp) 7 _ _ _ Caa _ _ (fu_s2 46) (fun g=>by kernel_rfl)
theorem Cza:Bb0 Tryz.prog 50 Ca6 (sm_s3 46):=Bbi (Bg4 is_Strike1 Bro Brp) 7 _ _ _ Cad _ _ (fu_s3 46) (fun g=>by kernel_rfl)
end St
end V
end Go.Proofs.YtcfanlgpkefogaaGreat
namespace Go.Proofs.YtcfanlgpkefogaaGreat
open Go.RowKit
namespace V
namespace St
def gmC (m:GM):TCT Bbv:=(m.2.2.2.2.2.2.2.2.2.2.2.2.1,m.2.2.2.2.2.2.2.2.2.2.2.2.2.1,())
noncomputable def Bz2 (f:Nat):Ctx:=Bv7 Tryz.prog plGm [(50,Tryz.f50),(49,Tryz.f49)] [((50,4),sm_s1 f),((50,12),sm_s2 f),((50,17),sm_s3 f)] (spG f)
theorem Cae {f:Nat} (h1:Bbn Tryz.prog 137 (sp_ro f)) (h2:Bbn Tryz.prog 98 (sp_fl f)) (l1:Bb0 Tryz.prog 50 Ca4 (sm_s1 f)) (l2:Bb0 Tryz.prog 50 Ca5 (sm_s2 f)) (l3:Bb0 Tryz.prog 50 Ca6 (sm_s3 f)):CtxOk (Bz2 f) :=
 Bg9 Bao puGm (fns_cons is_gsettle (fns_cons is_must No)) (Be2 (Bo0 (ds:=[Ca4,Ca5,Ca6]) (by kernel_rfl) ⟨Bhz (k:=4) (by kernel_rfl) rfl l1,Bhz (k:=12) (by kernel_rfl) rfl l2,Bhz (k:=17) (by kernel_rfl) rfl l3,trivial⟩) (Be2 (Bt0 (by kernel_rfl)) Bix)) (Biv is_rolls.plain h1 is_flies.plain h2)
def seG (bl:List (TCT Fq)) (w fl:Int) (n:Nat) (s:S2):GA:=gaV bl w fl n s.1 s.2.1
def seS (bl:List (TCT Fq)) (bc:TCT Bbv) (w fl:Int) (n:Nat) (s:S2):Cto:=Bbr (seG bl w fl n s).2.1 (seG bl w fl n s).2.2 bc.1 bc.2.1
def seF (bl:List (TCT Fq)) (bc:TCT Bbv) (t st w fl:Int) (n:Nat) (s:S2):(Baj×Kns)⊕Int :=
 bif (seS bl bc w fl n s).2.2.1 != 0 then .inr (seS bl bc w fl n s).2.2.1 else .inl (scV (seG bl w fl n s).1 (seS bl bc w fl n s).1 s.1,kpV (seG bl w fl n s).1 (seS bl bc w fl n s).2.1 t st s.2.2)
def Cw8 (f:Nat) (y:Option (V1 (C6t f))):TU f:=bif isE (.exit 4) y then .leaf ⟨true,((),(Bca (.exit 4) y).2)⟩ else .fail
def Czb (f:Nat) (x:GB) (W:List Int) (P:Prs):Option (V1 (C6t f)):=iter (Ckl f) (P.length+1) (Cac f x W P P.length 0 (gk x))
def D46 (f:Nat) (y:Option (V1 (C6s f))):TU f:=bif isE (.exit 2) y then Cw8 f (Czb f (Bca (.exit 2) y).2 (Bca (.exit 2) y).1.2.1 (Bca (.exit 2) y).1.2.2.1) else .fail
def D47 (f:Nat) (x:GB) (W:List Int) (M:Baj) (P:Prs):Option (V1 (C6s f)):=iter (Cki f) (W.length+1) (Ca9 f x W M P W W.length 0 (gmM x.1))
def C6u (f:Nat) (x:GB) (W:List Int) (r:Cto):TU f:=bif r.2.2.1 != 0 then .leaf ⟨false,pnU f r.2.2.1⟩ else D46 f (D47 f x W r.1 r.2.1)
def D48 (f:Nat) (y:Option (V1 (C6p f))):TU f:=bif isE (.exit 0) y then C6u f (Bca (.exit 0) y).2 (Bca (.exit 0) y).1.2.1 (Bbr (Bca (.exit 0) y).1.2.2.1 (Bca (.exit 0) y).1.2.2.2.1 (gmC (Bca (.exit 0) y).2.1).1 (gmC (Bca (.exit 0) y).2.1).2.1) else .fail
def D49 (f:Nat) (x:GB):Option (V1 (C6p f)):=iter (Ckg f) (nBx x.1+1) (Bo1 f x (gmB x.1) (nBx x.1) 0 ([],[],[]))
def T_se (f:Nat) (x:GB):TU f:=D48 f (D49 f x)
def Bmv (x:GB):Option ((Baj×Kns)⊕Int):=bif Bmu x then some (seF (gmB x.1) (gmC x.1) (gmT x.1) (gmS x.1) (gmW x.1) (gmF x.1) (nBx x.1) (gs x)) else none
def C2a (f:Nat) (x:GB) (s:Baj×Kns):(FE_u f true).T:=mkU f (gb (gmU x.1 s.1 (gmO x.1)) s.2)
abbrev sp_se (f:Nat):Bak→Nat→List AV→Tree (Out×Bak×Nat):=Bia Bij (FL_g f) (FE_u f) (Bsv (fun g:(FL_g f).T=>Bmv g.2) (fun g=>C2a f g.2) (pnU f) ([],[]))
theorem Bpn {bl:List (TCT Fq)} {bc:TCT Bbv} {w fl:Int} {n:Nat} {s:S2} (hn:n≤8) (h:(seS bl bc w fl n s).2.2.1=0):(seS bl bc w fl n s).1.length=(seG bl w fl n s).1.length∧(seS bl bc w fl n s).2.1.length≤64∧∀ p ∈ (seS bl bc w fl n s).2.1,Bpm (seG bl w fl n s).1.length p:=by
 have hg:InvG n n (seG bl w fl n s):=Ca8
 have a:=Cdf (l:=(seG bl w fl n s).2.1) (s:=(seG bl w fl n s).2.2) (re:=bc.1) (dr:=bc.2.1) h (by rw [hg.b];have:=hg.k;omega)
 rw [hg.b] at a
 exact ⟨a.1.trans hg.m,a.2.1,a.2.2⟩
theorem Ckn {f:Nat} {g:(FL_g f).T} {z:(Baj×Kns)⊕Int} (h:Bmv g.2=some z):(T_se f g.2).run=some (Bw1 (L:=FL_g f) (E:=FE_u f) (fun g=>C2a f g.2) (pnU f) g z):=by
 unfold Bmv at h
 cases ho:Bmu g.2 with
 | false=>rw [ho] at h;cases h
 | true =>
  rw [ho] at h
  cases h
  obtain ⟨hg,hk⟩:=Bt2 ho
  unfold T_se
  rw [show D49 f g.2=some (C29 f g.2 (seG (gmB g.2.1) (gmW g.2.1) (gmF g.2.1) (nBx g.2.1) (gs g.2))) from D43 hg]
  show (C6u f g.2 (seG (gmB g.2.1) (gmW g.2.1) (gmF g.2.1) (nBx g.2.1) (gs g.2)).1 (seS (gmB g.2.1) (gmC g.2.1) (gmW g.2.1) (gmF g.2.1) (nBx g.2.1) (gs g.2))).run=_
  unfold seF C6u
  have hn8:=hg.n
  cases he:(seS (gmB g.2.1) (gmC g.2.1) (gmW g.2.1) (gmF g.2.1) (nBx g.2.1) (gs g.2)).2.2.1 != 0 with
  | true=>rfl
  | false =>
   have hs:=Bpn hn8 (bne_eq_false_iff_eq.1 he)
   have hi:InvG (nBx g.2.1) (nBx g.2.1) (seG (gmB g.2.1) (gmW g.2.1) (gmF g.2.1) (nBx g.2.1) (gs g.2)):=Ca8
   have hik:=hi.k
   simp only [cond_false]
   rw [show D47 f g.2 (seG (gmB g.2.1) (gmW g.2.1) (gmF g.2.1) (nBx g.2.1) (gs g.2)).1 (seS (gmB g.2.1) (gmC g.2.1) (gmW g.2.1) (gmF g.2.1) (nBx g.2.1) (gs g.2)).1 (seS (gmB g.2.1) (gmC g.2.1) (gmW g.2.1) (gmF g.2.1) (nBx g.2.1) (gs g.2)).2.1=_ from D44 hi.r hs.1 hg.ms (by omega)]
   show (Cw8 f (Czb f (gb (gmU g.2.1 (scV (seG (gmB g.2.1) (gmW g.2.1) (gmF g.2.1) (nBx g.2.1) (gs g.2)).1 (seS (gmB g.2.1) (gmC g.2.1) (gmW g.2.1) (gmF g.2.1) (nBx g.2.1) (gs g.2)).1 (gmM g.2.1)) (gmO g.2.1)) (gk g.2)) (seG (gmB g.2.1) (gmW g.2.1) (gmF g.2.1) (nBx g.2.1) (gs g.2)).1 (seS (gmB g.2.1) (gmC g.2.1) (gmW g.2.1) (gmF g.2.1) (nBx g.2.1) (gs g.2)).2.1)).run=_
   have hs64:=hs.2.1
   rw [show Czb f (gb (gmU g.2.1 (scV (seG (gmB g.2.1) (gmW g.2.1) (gmF g.2.1) (nBx g.2.1) (gs g.2)).1 (seS (gmB g.2.1) (gmC g.2.1) (gmW g.2.1) (gmF g.2.1) (nBx g.2.1) (gs g.2)).1 (gmM g.2.1)) (gmO g.2.1)) (gk g.2)) (seG (gmB g.2.1) (gmW g.2.1) (gmF g.2.1) (nBx g.2.1) (gs g.2)).1 (seS (gmB g.2.1) (gmC g.2.1) (gmW g.2.1) (gmF g.2.1) (nBx g.2.1) (gs g.2)).2.1=_ from D45 (x:=gb (gmU g.2.1 (scV (seG (gmB g.2.1) (gmW g.2.1) (gmF g.2.1) (nBx g.2.1) (gs g.2)).1 (seS (gmB g.2.1) (gmC g.2.1) (gmW g.2.1) (gmF g.2.1) (nBx g.2.1) (gs g.2)).1 (gmM g.2.1)) (gmO g.2.1)) (gk g.2)) hs.2.2 hk (by omega)]
   rfl
theorem Crj:Bbn Tryz.prog 50 (sp_se 53):=Bpj (Cae Ber Bes Cz5 Cz6 Cz7) 6 Blj _ _ _ _ (fun g=>T_se 53 g.2) (fun g=>by kernel_rfl) fun _ _ _ h=>Ckn h
theorem Crk:Bbn Tryz.prog 50 (sp_se 46):=Bpj (Cae Bro Brp Cz8 Cz9 Cza) 6 Blj _ _ _ _ (fun g=>T_se 46 g.2) (fun g=>by kernel_rfl) fun _ _ _ h=>Ckn h
end St
end V
end Go.Proofs.YtcfanlgpkefogaaGreat
namespace Go.Proofs.YtcfanlgpkefogaaGreat
open Go.RowKit
namespace V
namespace St
noncomputable def C2b:Code:=(Bal (bodyOf Tryz.f103)).getD 0 .skip
noncomputable def Bx1:Code:=(Bal (bodyOf Tryz.f103)).getD 1 .skip
abbrev kBb:List SK:=[.d cI,.d cI]
def C6v (f:Nat):Lay:={ keys:=[0,2,3,13,14,15,24,25,26],ks:=[.p 0 0 0 0,.d cI,.p 2002 0 0 0,.d (.sl Fq),.d cI,.d cI,.d (.sl Bag),.d cI,.d cI],bs:=[(0,137,kGm f),(1,48,[.o 58 cKn]),(2002,70,kBb)],n:=81,nx:=3000,marks:=[] }
def D4a (f:Nat):Lay:={ keys:=[0,13,14,15],ks:=[.p 0 0 0 0,.d (.sl Fq),.d cI,.d cI],bs:=bsG f,n:=81,nx:=3000,marks:=[] }
def D4b:Lay:={ keys:=[],ks:=[],bs:=[],n:=81,nx:=4000,marks:=[] }
def C2c (f:Nat):XE→Lay:=fun e=>match e with | .panic _=>D4b | _=>D4a f
def C6w (f:Nat):Lay:={ keys:=[0,13,14,15],ks:=[.p 0 0 0 0,.d (.sl Fq),.d cI,.d cI],bs:=bsG f,n:=81,nx:=2000,marks:=[] }
def D7q (f:Nat):Lay:={ keys:=[],ks:=[],bs:=bsG f,n:=81,nx:=2000,marks:=[] }
def C6x (f:Nat):XE→Lay:=fun e=>match e with | .panic _=>D4b | _=>D7q f
theorem Crl {f:Nat} (e:XE):(C6v f).nx≤(C2c f e).nx:=by cases e <;> first | exact Nat.le_refl _ | exact (by decide:(3000:Nat)≤4000)
theorem Crm {f:Nat} (e:XE):(C6w f).nx≤(C6x f e).nx:=by cases e <;> first | exact Nat.le_refl _ | exact (by decide:(2000:Nat)≤4000)
abbrev Dss:Type:=List (TCT Bag)
abbrev MK:Type:=Baj×Kns
def Bdh (ps:Dss) (i:Nat):TCT Bag:=Bav ps i (Bas Bag)
def bmV (b:TCT Fq) (m:TCT Baq) (d:TCT Bag) (c:TCT Bbv):TCTs [Baq,cI]:=C3q (bm b m) d.1.1 d.1.2.1 d.2.1 c.1 c.2.1
structure Cb where
 i:Int
 b:TCT Fq
 bl:List (TCT Fq)
 n1:Int
 i1:Int
 ps:Dss
def gmb (m:GM) (k:Kns) (b:TCT Fq):GM×SKTs [.o 0 cKn]×SKTs kBb×Unit:=(m,(k,()),b,())
def C2d (f:Nat) (x:GB) (c:Cb) (n k:Int) (s:MK):(C6v f).T:=(((),c.i,(),c.bl,c.n1,c.i1,c.ps,n,k,()),gmb (gmU x.1 s.1 (gmO x.1)) s.2 c.b)
def Bt5 (f:Nat) (x:GB) (c:Cb) (s:MK):V1 (C2c f):=⟨.exit 2,(((),c.bl,c.n1,c.i1,()),gb (gmU x.1 s.1 (gmO x.1)) s.2)⟩
def C2e (f:Nat) (e:Int):V1 (C2c f):=⟨.panic (.ifc 49 (.int .i64 e)),((),())⟩
abbrev TB2 (f:Nat):=Tree ((C6v f).T⊕V1 (C2c f))
def C6y (f:Nat) (x:GB) (c:Cb) (n k:Int) (s:MK) (r:TCTs [Baq,cI]):TB2 f :=
 bif r.2.1==0 then inO s.1.length c.i (Cde s.2 (kn (gmT x.1) (gmS x.1) 1 c.i k) fun ks=>.leaf (.inl (C2d f x c n (W64 (k+1)) (Bb7 s.1 (Int.toNat c.i) r.1,ks))))
 else bif r.2.1==4 then .leaf (.inr (C2e f r.2.1)) else .leaf (.inl (C2d f x c n (W64 (k+1)) s))
def Bt6 (f:Nat) (x:GB) (c:Cb) (n k:Int) (s:MK):TB2 f:=bif decide (k<n) then inN c.ps.length k (bif Bw0 s.1 (gmO x.1) c.i then
 bif !Bbo s.1 (gmO x.1) (Int.toNat c.i) then .leaf (.inr (Bt5 f x c s)) else bif Bck (gmW x.1) (gmF x.1) c.i then .leaf (.inr (Bt5 f x c s)) else
 inO s.1.length c.i (C6y f x c n k s (bmV c.b (V2 s.1 (Int.toNat c.i)) (Bdh c.ps (Int.toNat k)) (gmC x.1))) else .fail) else .leaf (.inr (Bt5 f x c s))
def cb (f:Nat) (g:(C6v f).T):Cb:=⟨g.1.2.1,g.2.2.2.1,g.1.2.2.2.1,g.1.2.2.2.2.1,g.1.2.2.2.2.2.1,g.1.2.2.2.2.2.2.1⟩
def Cko (f:Nat) (g:(C6v f).T):TB2 f:=Bt6 f (gb g.2.1 g.2.2.1.1) (cb f g) g.1.2.2.2.2.2.2.2.1 g.1.2.2.2.2.2.2.2.2.1 (gmM g.2.1,g.2.2.1.1)
def fu_b2 (f:Nat) (g:(C6v f).T):Nat:=Int.toNat g.1.2.2.2.2.2.2.2.1+1
def sm_b2 (f:Nat):St→Tree (XE×St):=Baw (C6v f) (C2c f) (finP 49 .i64 [.exit 2] (Cko f) (fu_b2 f))
def bpE (b:TCT Fq) (c:TCT Bbv) (ps:Dss) (os:List Bool) (w fl t st:Int) (i:Nat) (k:Nat) (s:MK):MK⊕(MK⊕Int) :=
 bif !Bbo s.1 os i||Bck w fl i then .inr (.inl s) else
 bif (bmV b (V2 s.1 i) (Bdh ps k) c).2.1==0 then .inl (Bb7 s.1 i (bmV b (V2 s.1 i) (Bdh ps k) c).1,s.2++[kn t st 1 i k]) else
 bif (bmV b (V2 s.1 i) (Bdh ps k) c).2.1==4 then .inr (.inr (bmV b (V2 s.1 i) (Bdh ps k) c).2.1) else .inl s
def Bt7:MK⊕(MK⊕Int)→MK⊕Int
 | .inl s=>.inl s
 | .inr x=>x
def Bz3 (f:Nat) (x:GB) (c:Cb) (r:MK⊕(MK⊕Int)):V1 (C2c f):=match Bt7 r with
 | .inl s=>Bt5 f x c s
 | .inr e=>C2e f e
structure InvK (n k:Nat) (i:Nat) (s:MK):Prop where
 m:s.1.length=n
 k:s.2.length≤k+i
theorem Ckp {b:TCT Fq} {c:TCT Bbv} {ps:Dss} {os:List Bool} {w fl t st:Int} {i n k0 m:Nat} (k:Nat) (s s':MK) (_:k<m) (hi:InvK n k0 k s) (h:bpE b c ps os w fl t st i k s=.inl s'):InvK n k0 (k+1) s':=by
 unfold bpE at h
 have hk:=hi.k
 cases h1:!Bbo s.1 os i||Bck w fl i with
 | true=>rw [h1] at h;cases h
 | false =>
  rw [h1] at h
  cases h2:(bmV b (V2 s.1 i) (Bdh ps k) c).2.1==0 with
  | true=>rw [h2] at h;cases h;exact ⟨by rw [Bba];exact hi.m,by simp;omega⟩
  | false =>
   rw [h2] at h
   cases h3:(bmV b (V2 s.1 i) (Bdh ps k) c).2.1==4 with
   | true=>rw [h3] at h;cases h
   | false=>rw [h3] at h;cases h;exact ⟨hi.m,by omega⟩
theorem D4c {f:Nat} {x:GB} {c:Cb} {i n k0:Nat} {s:MK} (hci:c.i=(i:Int)) (hi:i<n) (hos:(gmO x.1).length=n) (hs:InvK n k0 0 s) (hk0:k0≤990000) (hps:c.ps.length≤1000) :
  iter (Cko f) (c.ps.length+1) (C2d f x c c.ps.length 0 s)=some (Bz3 f x c (Bat (bpE c.b (gmC x.1) c.ps (gmO x.1) (gmW x.1) (gmF x.1) (gmT x.1) (gmS x.1) i) 0 c.ps.length s)):=by
 have hn:(c.ps.length:Int)≤Bb2 .i64:=by show (c.ps.length:Int)≤9223372036854775807;omega
 refine Bfq c.ps.length (fun k s=>C2d f x c c.ps.length k s) (bpE c.b (gmC x.1) c.ps (gmO x.1) (gmW x.1) (gmF x.1) (gmT x.1) (gmS x.1) i) (Bz3 f x c) (InvK n k0) (fun k s hk hl=>?_) Ckp (fun s hl=>?_) c.ps.length 0 s (by omega) hs
 ·show (Bt6 f (gb (gmU x.1 s.1 (gmO x.1)) s.2) c c.ps.length k s).run=_
  have h1:=hl.m
  have h2:=hl.k
  unfold Bt6
  show Tree.run (bif decide ((k:Int)<(c.ps.length:Int)) then inN c.ps.length k (bif Bw0 s.1 (gmO x.1) c.i then
   bif !Bbo s.1 (gmO x.1) (Int.toNat c.i) then .leaf (.inr (Bt5 f x c s)) else bif Bck (gmW x.1) (gmF x.1) c.i then .leaf (.inr (Bt5 f x c s)) else
   inO s.1.length c.i (C6y f x c c.ps.length k s (bmV c.b (V2 s.1 (Int.toNat c.i)) (Bdh c.ps k) (gmC x.1))) else .fail) else .leaf (.inr (Bt5 f x c s)):TB2 f)=_
  rw [hci,decide_eq_true (show (k:Int)<(c.ps.length:Int) by omega),Bde (by omega),Bz0 hi h1 hos,Bfb (by omega),show Int.toNat (i:Int)=i from rfl]
  unfold C6y bpE Cde
  rw [hci,Bfb (by omega),Bko (by simp;omega) (by decide),Bdc hk hn,show Int.toNat (i:Int)=i from rfl]
  cases Bbo s.1 (gmO x.1) i with
  | false=>rfl
  | true =>
   cases Bck (gmW x.1) (gmF x.1) i with
   | true=>rfl
   | false =>
    simp only [Bool.not_true,Bool.or_self,cond_true,cond_false]
    cases (bmV c.b (V2 s.1 i) (Bdh c.ps k) (gmC x.1)).2.1==0 with
    | true=>rfl
    | false =>
     simp only [cond_false]
     cases (bmV c.b (V2 s.1 i) (Bdh c.ps k) (gmC x.1)).2.1==4 <;> rfl
 ·show (Bt6 f (gb (gmU x.1 s.1 (gmO x.1)) s.2) c c.ps.length c.ps.length s).run=_
  unfold Bt6
  rw [decide_eq_false (show ¬ (c.ps.length:Int)<(c.ps.length:Int) by omega)]
  rfl
def Ckq (f:Nat) (x:GB) (bl:List (TCT Fq)) (n i:Int) (s:MK):(C6w f).T:=(((),bl,n,i,()),gb (gmU x.1 s.1 (gmO x.1)) s.2)
def Cw9 (f:Nat) (x:GB) (s:MK):V1 (C6x f):=⟨.exit 0,((),gb (gmU x.1 s.1 (gmO x.1)) s.2)⟩
def Cwa (f:Nat) (e:Int):V1 (C6x f):=⟨.panic (.ifc 49 (.int .i64 e)),((),())⟩
abbrev TB1 (f:Nat):=Tree ((C6w f).T⊕V1 (C6x f))
def D4d (f:Nat) (r:(D4a f).T):(C6w f).T:=(((),r.1.2.1,r.1.2.2.1,W64 (r.1.2.2.2.1+1),()),r.2)
def Ckr (f:Nat) (y:Option (V1 (C2c f))):TB1 f:=bif isP 49 .i64 y then .leaf (.inr (Cwa f (panO 49 .i64 y).1)) else bif isE (.exit 2) y then .leaf (.inl (D4d f (Bca (.exit 2) y))) else .fail
def D4e (f:Nat) (x:GB) (c:Cb):Option (V1 (C2c f)):=iter (Cko f) (c.ps.length+1) (C2d f x c c.ps.length 0 (gmM x.1,gk x))
def cb1 (x:GB) (bl:List (TCT Fq)) (n i:Int):Cb:=⟨i,Bc1 bl (Int.toNat i),bl,n,i,gmP x.1⟩
def Bt8 (f:Nat) (x:GB) (bl:List (TCT Fq)) (n i:Int):TB1 f:=bif decide (i<n) then inN bl.length i (Ckr f (D4e f x (cb1 x bl n i))) else .leaf (.inr (Cw9 f x (gmM x.1,gk x)))
def Cks (f:Nat) (g:(C6w f).T):TB1 f:=Bt8 f g.2 g.1.2.1 g.1.2.2.1 g.1.2.2.2.1
def fu_b1 (f:Nat) (g:(C6w f).T):Nat:=Int.toNat g.1.2.2.1+1
def sm_b1 (f:Nat):St→Tree (XE×St):=Baw (C6w f) (C6x f) (finP 49 .i64 [.exit 0] (Cks f) (fu_b1 f))
def Lt_b1 (f:Nat):Bi3:=fun k=>bif Nat.beq k 4 then some (sm_b2 f) else none
theorem Ckt:Bal C2b=[Bx1]:=by kernel_rfl
theorem Czc:keyOf Bx1=4:=by kernel_rfl
theorem Cku {f:Nat} (h:Bb0 Tryz.prog 103 Bx1 (sm_b2 f)):∀ d ∈ Bal C2b,∀ g,Lt_b1 f (keyOf d)=some g→Bb0 Tryz.prog 103 d g:=fun d hd g hg=>by
 rw [Ckt,List.mem_singleton] at hd
 subst hd
 rw [Czc] at hg
 cases hg
 exact h
theorem Ckv:Bb0 Tryz.prog 103 Bx1 (sm_b2 53):=Bm6 (Bg4 is_Tick1 Ber Bes) 7 _ _ _ Crl _ _ _ _ (fu_b2 53) (fun g=>by kernel_rfl)
theorem Czd:Bb0 Tryz.prog 103 C2b (sm_b1 53):=C59 (Bg4 is_Tick1 Ber Bes) 7 _ (Lt_b1 53) (Cku Ckv) _ _ Crm _ _ _ _ (fu_b1 53) (fun g=>by kernel_rfl)
def boE (bl:List (TCT Fq)) (c:TCT Bbv) (ps:Dss) (os:List Bool) (w fl t st:Int) (i:Nat) (s:MK):MK⊕Int:=Bt7 (Bat (bpE (Bc1 bl i) c ps os w fl t st i) 0 ps.length s)
def Bt9 (f:Nat) (x:GB):MK⊕Int→V1 (C6x f)
 | .inl s=>Cw9 f x s
 | .inr e=>Cwa f e
theorem Ckw {b:TCT Fq} {c:TCT Bbv} {ps:Dss} {os:List Bool} {w fl t st:Int} {i n k0 m:Nat}:∀ (j k:Nat) (s s':MK),k+j=m→InvK n k0 k s→Bt7 (Bat (bpE b c ps os w fl t st i) k j s)=.inl s'→InvK n k0 m s'
 | 0,k,s,s',hj,hi,h=>by
  have e:k=m:=by omega
  subst e
  cases h
  exact hi
 | j+1,k,s,s',hj,hi,h=>by
  unfold Bat at h
  cases hf:bpE b c ps os w fl t st i k s with
  | inl t1=>rw [hf] at h;exact Ckw j (k+1) t1 s' (by omega) (Ckp (m:=m) k s t1 (by omega) hi hf) h
  | inr y =>
   rw [hf] at h
   unfold bpE at hf
   have hk:=hi.k
   cases h1:!Bbo s.1 os i||Bck w fl i with
   | true =>
    rw [h1] at hf
    cases hf
    cases h
    exact ⟨hi.m,by omega⟩
   | false =>
    rw [h1] at hf
    cases h2:(bmV b (V2 s.1 i) (Bdh ps k) c).2.1==0 with
    | true=>rw [h2] at hf;cases hf
    | false =>
     rw [h2] at hf
     cases h3:(bmV b (V2 s.1 i) (Bdh ps k) c).2.1==4 with
     | true=>rw [h3] at hf;cases hf;cases h
     | false=>rw [h3] at hf;cases hf
structure InvO (n k P:Nat) (i:Nat) (s:MK):Prop where
 m:s.1.length=n
 k:s.2.length≤k+i*P
theorem Ckx {bl:List (TCT Fq)} {c:TCT Bbv} {ps:Dss} {os:List Bool} {w fl t st:Int} {n k0 m:Nat} (i:Nat) (s s':MK) (_:i<m) (hi:InvO n k0 ps.length i s) (h:boE bl c ps os w fl t st i s=.inl s'):InvO n k0 ps.length (i+1) s':=by
 have a:=Ckw (n:=n) (k0:=k0+i*ps.length) (m:=ps.length) ps.length 0 s s' (by omega) ⟨hi.m,by have:=hi.k;omega⟩ h
 have e:(i+1)*ps.length=i*ps.length+ps.length:=Nat.succ_mul i ps.length
 exact ⟨a.m,by have:=a.k;omega⟩
theorem D4f {f:Nat} {x:GB} {s:MK} (hx:OkGM x.1) (hm:s.1.length=nBx x.1) (hk:s.2.length≤900000) (hps:(gmP x.1).length≤1000) :
  iter (Cks f) (nBx x.1+1) (Ckq f x (gmB x.1) (nBx x.1) 0 s)=some (Bt9 f x (Bat (boE (gmB x.1) (gmC x.1) (gmP x.1) (gmO x.1) (gmW x.1) (gmF x.1) (gmT x.1) (gmS x.1)) 0 (nBx x.1) s)):=by
 have hn8:=hx.n
 have hn:(nBx x.1:Int)≤Bb2 .i64:=by show (nBx x.1:Int)≤9223372036854775807;omega
 refine Bfq (nBx x.1) (fun i s=>Ckq f x (gmB x.1) (nBx x.1) i s) (boE (gmB x.1) (gmC x.1) (gmP x.1) (gmO x.1) (gmW x.1) (gmF x.1) (gmT x.1) (gmS x.1)) (Bt9 f x) (InvO (nBx x.1) s.2.length (gmP x.1).length) (fun i s1 hi hl=>?_) Ckx (fun s hl=>?_) (nBx x.1) 0 s (by omega) ⟨hm,by omega⟩
 ·show (Bt8 f (gb (gmU x.1 s1.1 (gmO x.1)) s1.2) (gmB x.1) (nBx x.1) i).run=_
  have h2:=hl.k
  have h3:i*(gmP x.1).length≤8*1000:=Nat.mul_le_mul (by omega) hps
  have hy:D4e f (gb (gmU x.1 s1.1 (gmO x.1)) s1.2) (cb1 (gb (gmU x.1 s1.1 (gmO x.1)) s1.2) (gmB x.1) (nBx x.1) i)=some (Bz3 f (gb (gmU x.1 s1.1 (gmO x.1)) s1.2) (cb1 (gb (gmU x.1 s1.1 (gmO x.1)) s1.2) (gmB x.1) (nBx x.1) i) (Bat (bpE (Bc1 (gmB x.1) i) (gmC x.1) (gmP x.1) (gmO x.1) (gmW x.1) (gmF x.1) (gmT x.1) (gmS x.1) i) 0 (gmP x.1).length s1)) :=
   D4c (f:=f) (x:=gb (gmU x.1 s1.1 (gmO x.1)) s1.2) (c:=cb1 (gb (gmU x.1 s1.1 (gmO x.1)) s1.2) (gmB x.1) (nBx x.1) i) (i:=i) (n:=nBx x.1) (k0:=s.2.length+i*(gmP x.1).length) (s:=s1) rfl hi hx.os ⟨hl.m,by omega⟩ (by omega) hps
  unfold Bt8
  rw [decide_eq_true (show (i:Int)<(nBx x.1:Int) by omega),Bde (n:=(gmB x.1).length) (by show 0≤(i:Int)∧(i:Int)<(nBx x.1:Int);omega),hy]
  unfold boE Bz3
  cases Bt7 (Bat (bpE (Bc1 (gmB x.1) i) (gmC x.1) (gmP x.1) (gmO x.1) (gmW x.1) (gmF x.1) (gmT x.1) (gmS x.1) i) 0 (gmP x.1).length s1) with
  | inl s2 =>
   show (Tree.leaf (.inl (((),gmB x.1,(nBx x.1:Int),W64 ((i:Int)+1),()),gb (gmU x.1 s2.1 (gmO x.1)) s2.2)):TB1 f).run=_
   rw [Bdc hi hn]
   rfl
  | inr e =>
   have h1:isP 49 .i64 (some (C2e f e))=true:=Blg
   have h2:panO 49 .i64 (some (C2e f e))=⟨e,((),())⟩:=Bhb
   show (Ckr f (some (C2e f e))).run=_
   unfold Ckr
   rw [h1,h2]
   rfl
 ·show (Bt8 f (gb (gmU x.1 s.1 (gmO x.1)) s.2) (gmB x.1) (nBx x.1) (nBx x.1)).run=_
  unfold Bt8
  rw [decide_eq_false (show ¬ (nBx x.1:Int)<(nBx x.1:Int) by omega)]
  rfl
end St
end V
end Go.Proofs.YtcfanlgpkefogaaGreat
namespace Go.Proofs.YtcfanlgpkefogaaGreat
open Go.RowKit
namespace V
namespace St
noncomputable def D7r (f:Nat):Ctx:=Bv7 Tryz.prog plGm [(103,Tryz.f103)] [((103,1),sm_b1 f),((103,4),sm_b2 f)] (spG f)
theorem Crn {f:Nat} (h1:Bbn Tryz.prog 137 (sp_ro f)) (h2:Bbn Tryz.prog 98 (sp_fl f)) (l1:Bb0 Tryz.prog 103 C2b (sm_b1 f)) (l2:Bb0 Tryz.prog 103 Bx1 (sm_b2 f)):CtxOk (D7r f) :=
 Bg9 Bao puGm (fns_cons is_gbump No) (Be2 (Bo0 (ds:=[C2b,Bx1]) (by kernel_rfl) ⟨Bhz (k:=1) (by kernel_rfl) rfl l1,Bhz (k:=4) (by kernel_rfl) rfl l2,trivial⟩) Bix) (Biv is_rolls.plain h1 is_flies.plain h2)
def Cky (f:Nat) (x:GB):Option (V1 (C6x f)):=iter (Cks f) (nBx x.1+1) (Ckq f x (gmB x.1) (nBx x.1) 0 (gmM x.1,gk x))
def T_bp (f:Nat) (x:GB):TU f:=bif isP 49 .i64 (Cky f x) then .leaf ⟨false,pnU f (panO 49 .i64 (Cky f x)).1⟩ else bif isE (.exit 0) (Cky f x) then .leaf ⟨true,((),(Bca (.exit 0) (Cky f x)).2)⟩ else .fail
def buF (bl:List (TCT Fq)) (c:TCT Bbv) (ps:Dss) (t st w fl:Int) (n:Nat) (s:S2):MK⊕Int:=Bat (boE bl c ps s.2.1 w fl t st) 0 n (s.1,s.2.2)
def C2f (x:GB):Bool:=Bmu x&&decide ((gmP x.1).length≤1000)
theorem C2g {x:GB} (h:C2f x=true):OkGM x.1∧(gk x).length≤900000∧(gmP x.1).length≤1000:=by
 unfold C2f at h
 simp only [Bool.and_eq_true,decide_eq_true_eq] at h
 have a:=Bt2 h.1
 exact ⟨a.1,a.2,h.2⟩
def C2h (x:GB):Option (MK⊕Int):=bif C2f x then some (buF (gmB x.1) (gmC x.1) (gmP x.1) (gmT x.1) (gmS x.1) (gmW x.1) (gmF x.1) (nBx x.1) (gs x)) else none
abbrev sp_bp (f:Nat):Bak→Nat→List AV→Tree (Out×Bak×Nat):=Bia Bij (FL_g f) (FE_u f) (Bsv (fun g:(FL_g f).T=>C2h g.2) (fun g=>C2a f g.2) (pnU f) ([],[]))
theorem Cze {f:Nat} {g:(FL_g f).T} {z:MK⊕Int} (h:C2h g.2=some z):(T_bp f g.2).run=some (Bw1 (L:=FL_g f) (E:=FE_u f) (fun g=>C2a f g.2) (pnU f) g z):=by
 unfold C2h at h
 cases ho:C2f g.2 with
 | false=>rw [ho] at h;cases h
 | true =>
  rw [ho] at h
  cases h
  obtain ⟨hg,hk,hp⟩:=C2g ho
  have hy:Cky f g.2=some (Bt9 f g.2 (buF (gmB g.2.1) (gmC g.2.1) (gmP g.2.1) (gmT g.2.1) (gmS g.2.1) (gmW g.2.1) (gmF g.2.1) (nBx g.2.1) (gs g.2))):=D4f hg hg.ms hk hp
  unfold T_bp
  rw [hy]
  cases buF (gmB g.2.1) (gmC g.2.1) (gmP g.2.1) (gmT g.2.1) (gmS g.2.1) (gmW g.2.1) (gmF g.2.1) (nBx g.2.1) (gs g.2) with
  | inl s=>rfl
  | inr e =>
   have h1:isP 49 .i64 (some (Bt9 f g.2 (.inr e)))=true:=Blg
   have h2:panO 49 .i64 (some (Bt9 f g.2 (.inr e)))=⟨e,((),())⟩:=Bhb
   rw [h1,h2]
   rfl
theorem Cro:Bbn Tryz.prog 103 (sp_bp 53):=Bpj (Crn Ber Bes Czd Ckv) 6 Blj _ _ _ _ (fun g=>T_bp 53 g.2) (fun g=>by kernel_rfl) fun _ _ _ h=>Cze h
end St
end V
end Go.Proofs.YtcfanlgpkefogaaGreat
namespace Go.Proofs.YtcfanlgpkefogaaGreat
open Go.RowKit
namespace V
def thY {A β:Type} (y:Option (A⊕Int)) (d:A) (pn:Int→Tree β) (k:A→Tree β):Tree β:=bif isL y then k (gL d y) else bif isR y then pn (gR 0 y) else .fail
theorem Bx2 {A β:Type} {y:Option (A⊕Int)} {d a:A} {pn:Int→Tree β} {k:A→Tree β} (h:y=some (.inl a)):thY y d pn k=k a:=by rw [h];rfl
theorem Bx3 {A β:Type} {y:Option (A⊕Int)} {d:A} {e:Int} {pn:Int→Tree β} {k:A→Tree β} (h:y=some (.inr e)):thY y d pn k=pn e:=by rw [h];rfl
namespace St
noncomputable def Ckz:Code:=(Bal (bodyOf Tryz.f54)).getD 0 .skip
def C6z (f:Nat):Lay:={ keys:=[0],ks:=[.p 0 0 0 0],bs:=bsG f,n:=52,nx:=4000,marks:=[] }
def D7s:Lay:={ keys:=[],ks:=[],bs:=[],n:=52,nx:=9000,marks:=[] }
def C2i (f:Nat):XE→Lay:=fun e=>match e with | .panic _=>D7s | _=>C6z f
theorem Crp {f:Nat} (e:XE):(C6z f).nx≤(C2i f e).nx:=by cases e <;> first | exact Nat.le_refl _ | exact (by decide:(4000:Nat)≤9000)
abbrev YS:Type:=GB→Option (Baj⊕Int)
abbrev Y2:Type:=GB→Option (S2⊕Int)
abbrev YK:Type:=GB→Option (MK⊕Int)
abbrev SPf:Type:=Bak→Nat→List AV→Tree (Out×Bak×Nat)
def D7t {β:Type} (m:GM) (ms:Baj) (os:List Bool) (k:GM→β):β:=match m with
 | (a0,a1,a2,a3,a4,a5,a6,a7,a8,a9,a10,a11,a12,a13,a14,_,_,a17,a18,a19,a20,a21,_)=>k (a0,a1,a2,a3,a4,a5,a6,a7,a8,a9,a10,a11,a12,a13,a14,ms,os,a17,a18,a19,a20,a21,())
def D4g {β:Type} (m:GM) (ms:Baj) (k:GM→β):β:=match m with
 | (a0,a1,a2,a3,a4,a5,a6,a7,a8,a9,a10,a11,a12,a13,a14,_,a16,a17,a18,a19,a20,a21,_)=>k (a0,a1,a2,a3,a4,a5,a6,a7,a8,a9,a10,a11,a12,a13,a14,ms,a16,a17,a18,a19,a20,a21,())
def gmA (m:GM) (ms:Baj) (os:List Bool) (fl tk st:Int):GM:=(m.1,m.2.1,m.2.2.1,m.2.2.2.1,m.2.2.2.2.1,m.2.2.2.2.2.1,m.2.2.2.2.2.2.1,m.2.2.2.2.2.2.2.1,m.2.2.2.2.2.2.2.2.1,m.2.2.2.2.2.2.2.2.2.1,m.2.2.2.2.2.2.2.2.2.2.1,m.2.2.2.2.2.2.2.2.2.2.2.1,m.2.2.2.2.2.2.2.2.2.2.2.2.1,m.2.2.2.2.2.2.2.2.2.2.2.2.2.1,m.2.2.2.2.2.2.2.2.2.2.2.2.2.2.1,ms,os,m.2.2.2.2.2.2.2.2.2.2.2.2.2.2.2.2.2.1,fl,tk,st,m.2.2.2.2.2.2.2.2.2.2.2.2.2.2.2.2.2.2.2.2.2.1,())
def Bql {L:FLay} {E:Bool→FLay} {A:Type} (Y:L.T→Option (A⊕Int)) (mk:L.T→A→((E true).T→Tree (Bcy E))→Tree (Bcy E)) (pn:Int→(E false).T) (d:A) (g:L.T):Tree (Bcy E) :=
 .br (isL (Y g)) (mk g (gL d (Y g)) fun y=>.leaf ⟨true,y⟩) (.br (isR (Y g)) (.leaf ⟨false,pn (gR 0 (Y g))⟩) .fail)
def D4h (f:Nat) (x:GB) (s:S2) (k:(FE_u f true).T→Tree (Bcy (FE_u f))):Tree (Bcy (FE_u f)):=D7t x.1 s.1 s.2.1 fun m=>k ((),(m,(s.2.2,()),()))
def D4i (f:Nat) (x:GB) (s:MK) (k:(FE_u f true).T→Tree (Bcy (FE_u f))):Tree (Bcy (FE_u f)):=D4g x.1 s.1 fun m=>k ((),(m,(s.2,()),()))
def D4j (f:Nat) (x:GB) (s:Baj) (k:(FE_u f true).T→Tree (Bcy (FE_u f))):Tree (Bcy (FE_u f)):=D4g x.1 s fun m=>k ((),(m,(x.2.1.1,()),()))
theorem Crq {f:Nat} (Y:Y2):(Bql (L:=FL_g f) (E:=FE_u f) (fun g=>Y g.2) (fun g=>D4h f g.2) (pnU f) ([],[],[]))=(Bsv (L:=FL_g f) (E:=FE_u f) (fun g=>Y g.2) (fun g=>Ckd f g.2) (pnU f) ([],[],[])):=rfl
theorem Bz4 {f:Nat} (Y:YK):(Bql (L:=FL_g f) (E:=FE_u f) (fun g=>Y g.2) (fun g=>D4i f g.2) (pnU f) ([],[]))=(Bsv (L:=FL_g f) (E:=FE_u f) (fun g=>Y g.2) (fun g=>C2a f g.2) (pnU f) ([],[])):=rfl
theorem Crr {f:Nat} (Y:YS):(Bql (L:=FL_g f) (E:=FE_u f) (fun g=>Y g.2) (fun g=>D4j f g.2) (pnU f) [])=(Bsv (L:=FL_g f) (E:=FE_u f) (fun g=>Y g.2) (fun g=>C6k f g.2) (pnU f) []):=rfl
abbrev D4k (f:Nat) (Y:YS):SPf:=Bia Bij (FL_g f) (FE_u f) (Bql (fun g:(FL_g f).T=>Y g.2) (fun g=>D4j f g.2) (pnU f) [])
abbrev D4l (f:Nat) (Y:Y2):SPf:=Bia Bij (FL_g f) (FE_u f) (Bql (fun g:(FL_g f).T=>Y g.2) (fun g=>D4h f g.2) (pnU f) ([],[],[]))
abbrev Cdj (f:Nat) (Y:YK):SPf:=Bia Bij (FL_g f) (FE_u f) (Bql (fun g:(FL_g f).T=>Y g.2) (fun g=>D4i f g.2) (pnU f) ([],[]))
structure TY where
 s:YS
 m:Y2
 e:YK
 b:YK
def spT (f:Nat) (Y:TY):List (Nat×SPf):=[(101,D4k f Y.s),(102,D4l f Y.m),(50,Cdj f Y.e),(103,Cdj f Y.b)]
def tyG:TY:=⟨Bsz,C28,Bmv,C2h⟩
theorem Czf {f:Nat} (h1:Bbn Tryz.prog 101 (sp_slw f)) (h2:Bbn Tryz.prog 102 (sp_mv f)) (h3:Bbn Tryz.prog 50 (sp_se f)) (h4:Bbn Tryz.prog 103 (sp_bp f)):∀ p ∈ spT f tyG,Plain Tryz.prog p.1∧Bbn Tryz.prog p.1 p.2:=fun p hp=>by
 unfold spT at hp
 simp only [List.mem_cons,List.not_mem_nil,or_false] at hp
 rcases hp with rfl | rfl | rfl | rfl
 ·exact ⟨is_gslow.plain,by rw [tyG,D4k,Crr];exact h1⟩
 ·exact ⟨is_gmove.plain,by rw [tyG,D4l,Crq];exact h2⟩
 ·exact ⟨is_gsettle.plain,by rw [tyG,Cdj,Bz4];exact h3⟩
 ·exact ⟨is_gbump.plain,by rw [tyG,Cdj,Bz4];exact h4⟩
theorem Cwb:∀ p ∈ spT 53 tyG,Plain Tryz.prog p.1∧Bbn Tryz.prog p.1 p.2:=Czf Ck3 Cre Crj Cro
noncomputable def D7u (f:Nat) (Y:TY):Ctx:=Bv7 Tryz.prog plGm [(49,Tryz.f49)] [] (spT f Y)
theorem Crs {f:Nat} {Y:TY} (h:∀ p ∈ spT f Y,Plain Tryz.prog p.1∧Bbn Tryz.prog p.1 p.2):CtxOk (D7u f Y):=Bg9 Bao puGm (fns_cons is_must No) Biw h
def x2 (x:GB) (s:S2):GB:=gb (gmU x.1 s.1 s.2.1) s.2.2
abbrev TTk (f:Nat):=Tree ((C6z f).T⊕V1 (C2i f))
def Cwc (f:Nat) (e:Int):V1 (C2i f):=⟨.panic (.ifc 49 (.int .i64 e)),((),())⟩
def Bx4 (f:Nat) (e:Int):TTk f:=.leaf (.inr (Cwc f e))
def z2:S2:=([],[],[])
def zM:MK:=([],[])
def xS (x:GB) (i:Int) (s:S2):GB:=(gmA x.1 s.1 s.2.1 (gmF x.1) (gmT x.1) i,(s.2.2,()),())
def Bta (f:Nat) (Y:TY) (x:GB) (i:Int) (s:S2):TTk f:=bif decide (i≤16) then thY (Y.m (xS x i s)) z2 (Bx4 f) fun s1=>thY (Y.e (xS x i s1)) zM (Bx4 f) fun s2=>thY (Y.b (xS x i (s2.1,s1.2.1,s2.2))) zM (Bx4 f) fun s3=>.leaf (.inl (((),()),xS x (W64 (i+1)) (s3.1,s1.2.1,s3.2)))
 else .leaf (.inr ⟨.exit 0,(((),()),xS x i s)⟩)
def Caf (f:Nat) (Y:TY) (g:(C6z f).T):TTk f:=Bta f Y g.2 (gmS g.2.1) (gs g.2)
def fu_tk (f:Nat) (_:(C6z f).T):Nat:=17
def sm_tk (f:Nat) (Y:TY):St→Tree (XE×St):=Baw (C6z f) (C2i f) (finP 49 .i64 [.exit 0] (Caf f Y) (fu_tk f))
theorem Czg {Y:TY} (h:∀ p ∈ spT 53 Y,Plain Tryz.prog p.1∧Bbn Tryz.prog p.1 p.2):Bb0 Tryz.prog 54 Ckz (sm_tk 53 Y):=Bm6 (Crs h) 7 _ _ _ Crp _ _ _ _ (fu_tk 53) (fun g=>by kernel_rfl)
structure CT where
 bl:List (TCT Fq)
 l:TCT Bam
 c:TCT Bbv
 ps:Dss
 w:Int
 fl:Int
 t:Int
def tkE (k:CT) (i:Nat) (s:S2):S2⊕Int:=match mvF k.bl k.l k.t ((i+1:Nat):Int) k.bl.length s with
 | .inr e=>.inr e
 | .inl s1=>match seF k.bl k.c k.t ((i+1:Nat):Int) k.w k.fl k.bl.length s1 with
  | .inr e=>.inr e
  | .inl s2=>match buF k.bl k.c k.ps k.t ((i+1:Nat):Int) k.w k.fl k.bl.length (s2.1,s1.2.1,s2.2) with
   | .inr e=>.inr e
   | .inl s3=>.inl (s3.1,s1.2.1,s3.2)
theorem Bz5 {bl:List (TCT Fq)} {l:TCT Bam} {t st:Int} {n k:Nat} {s s':S2} (hs:Inv2 n k 0 s) (h:mvF bl l t st n s=.inl s'):Inv2 n (k+n) 0 s':=by
 unfold mvF at h
 cases h1:Bat (stE bl s.2.1) 0 n s.1 with
 | inr e=>rw [h1] at h;cases h
 | inl ms =>
  rw [h1] at h
  change Bat (lvE l t st) 0 n (ms,s.2.1,s.2.2)=.inl s' at h
  have hm:ms.length=n:=Bax (n:=n) (Inv:=fun _ (s:Baj)=>s.length=n) C6m n 0 _ _ (by omega) hs.m h1
  have a:=Bax (n:=n) (Inv:=Inv2 n k) Ckb n 0 (ms,s.2.1,s.2.2) s' (by omega) ⟨hm,hs.o,hs.k⟩ h
  exact ⟨a.m,a.o,by have:=a.k;omega⟩
theorem Cag {bl:List (TCT Fq)} {c:TCT Bbv} {t st w fl:Int} {n k:Nat} {s:S2} {s':MK} (hn:n≤8) (hs:Inv2 n k 0 s) (h:seF bl c t st w fl n s=.inl s'):Inv2 n (k+64) 0 (s'.1,s.2.1,s'.2):=by
 unfold seF at h
 cases he:(seS bl c w fl n s).2.2.1 != 0 with
 | true=>rw [he] at h;cases h
 | false =>
  rw [he] at h
  cases h
  have a:=Bpn (bl:=bl) (bc:=c) (w:=w) (fl:=fl) (s:=s) hn (bne_eq_false_iff_eq.1 he)
  have hk:=hs.k
  refine ⟨?_,hs.o,?_⟩
  ·show (scV _ _ _).length=n
   rw [Cab];exact hs.m
  ·show (kpV _ _ _ _ _).length≤_
   rw [Bz1];have:=a.2.1;omega
theorem Crt {bl:List (TCT Fq)} {c:TCT Bbv} {ps:Dss} {t st w fl:Int} {n k:Nat} {s:S2} {s':MK} (hs:Inv2 n k 0 s) (h:buF bl c ps t st w fl n s=.inl s'):Inv2 n (k+n*ps.length) 0 (s'.1,s.2.1,s'.2):=by
 unfold buF at h
 have hk:=hs.k
 have a:=Bax (n:=n) (Inv:=InvO n s.2.2.length ps.length) Ckx n 0 _ _ (by omega) ⟨hs.m,by show s.2.2.length≤s.2.2.length+0*ps.length;omega⟩ h
 exact ⟨a.m,hs.o,by have:=a.k;show s'.2.length≤_;omega⟩
theorem Cah {k:CT} {k0 m:Nat} (hn:k.bl.length≤8) (hp:k.ps.length≤1000) (i:Nat) (s s':S2) (_:i<m) (hs:Inv2 k.bl.length (k0+i*8072) 0 s) (h:tkE k i s=.inl s'):Inv2 k.bl.length (k0+(i+1)*8072) 0 s':=by
 unfold tkE at h
 cases h1:mvF k.bl k.l k.t ((i+1:Nat):Int) k.bl.length s with
 | inr e=>rw [h1] at h;cases h
 | inl s1 =>
  rw [h1] at h
  have a:=Bz5 hs h1
  simp only at h
  cases h2:seF k.bl k.c k.t ((i+1:Nat):Int) k.w k.fl k.bl.length s1 with
  | inr e=>rw [h2] at h;cases h
  | inl s2 =>
   rw [h2] at h
   have b:=Cag hn a h2
   simp only at h
   cases h3:buF k.bl k.c k.ps k.t ((i+1:Nat):Int) k.w k.fl k.bl.length (s2.1,s1.2.1,s2.2) with
   | inr e=>rw [h3] at h;cases h
   | inl s3 =>
    rw [h3] at h
    cases h
    have c:=Crt b h3
    have d:k.bl.length*k.ps.length≤8*1000:=Nat.mul_le_mul hn hp
    exact ⟨c.m,c.o,by have:=c.k;simp only at this ⊢;omega⟩
def ctG (m:GM):CT:=⟨gmB m,gmL m,gmC m,gmP m,gmW m,gmF m,gmT m⟩
theorem Cru {x:GB} {i:Int} {s:S2} {k:Nat} (hsz:(x.1.1.size:Int)≤Bb2 .i64) (hn:nBx x.1≤8) (hs:Inv2 (nBx x.1) k 0 s) (hk:k≤900000):C28 (xS x i s)=some (mvF (gmB x.1) (gmL x.1) (gmT x.1) i (nBx x.1) s):=by
 have h:Bmu (xS x i s)=true:=by
  have:=hs.k
  unfold Bmu
  rw [Bool.and_eq_true,decide_eq_true_eq]
  exact ⟨Bfc.2 ⟨hsz,hs.m,hs.o,hn⟩,by show s.2.2.length≤900000;omega⟩
 unfold C28;rw [h];rfl
theorem Crv {x:GB} {i:Int} {s:S2} {k:Nat} (hsz:(x.1.1.size:Int)≤Bb2 .i64) (hn:nBx x.1≤8) (hs:Inv2 (nBx x.1) k 0 s) (hk:k≤900000):Bmv (xS x i s)=some (seF (gmB x.1) (gmC x.1) (gmT x.1) i (gmW x.1) (gmF x.1) (nBx x.1) s):=by
 have h:Bmu (xS x i s)=true:=by
  have:=hs.k
  unfold Bmu
  rw [Bool.and_eq_true,decide_eq_true_eq]
  exact ⟨Bfc.2 ⟨hsz,hs.m,hs.o,hn⟩,by show s.2.2.length≤900000;omega⟩
 unfold Bmv;rw [h];rfl
theorem Crw {x:GB} {i:Int} {s:S2} {k:Nat} (hsz:(x.1.1.size:Int)≤Bb2 .i64) (hn:nBx x.1≤8) (hp:(gmP x.1).length≤1000) (hs:Inv2 (nBx x.1) k 0 s) (hk:k≤900000):C2h (xS x i s)=some (buF (gmB x.1) (gmC x.1) (gmP x.1) (gmT x.1) i (gmW x.1) (gmF x.1) (nBx x.1) s):=by
 have h:C2f (xS x i s)=true:=by
  have:=hs.k
  unfold C2f Bmu
  rw [Bool.and_eq_true,Bool.and_eq_true,decide_eq_true_eq,decide_eq_true_eq]
  exact ⟨⟨Bfc.2 ⟨hsz,hs.m,hs.o,hn⟩,by show s.2.2.length≤900000;omega⟩,hp⟩
 unfold C2h;rw [h];rfl
def Cl0 (f:Nat) (x:GB) (i:Nat) (s:S2):(C6z f).T:=(((),()),xS x ((i+1:Nat):Int) s)
def D4m (f:Nat) (x:GB) (s:S2):V1 (C2i f):=⟨.exit 0,(((),()),xS x 17 s)⟩
def Btb (f:Nat) (x:GB):S2⊕Int→V1 (C2i f)
 | .inl s=>D4m f x s
 | .inr e=>Cwc f e
theorem D4n (x:GB) (i j:Int) (s t:S2):xS (xS x i s) j t=xS x j t:=by
 unfold xS gmA
 rfl
theorem C2j {f:Nat} {x:GB} {i:Nat} {s:S2}:Caf f tyG (Cl0 f x i s)=Bta f tyG x ((i+1:Nat):Int) s:=by
 show Bta f tyG (xS x ((i+1:Nat):Int) s) ((i+1:Nat):Int) s=_
 unfold Bta
 simp only [D4n]
theorem D4o {f:Nat} {x:GB} {s:S2} {k0:Nat} (hsz:(x.1.1.size:Int)≤Bb2 .i64) (hn:nBx x.1≤8) (hp:(gmP x.1).length≤1000) (hs:Inv2 (nBx x.1) k0 0 s) (hk0:k0≤700000) :
  iter (Caf f tyG) 17 (Cl0 f x 0 s)=some (Btb f x (Bat (tkE (ctG x.1)) 0 16 s)):=by
 refine Bfq 16 (fun i s=>Cl0 f x i s) (tkE (ctG x.1)) (Btb f x) (fun i s=>Inv2 (nBx x.1) (k0+i*8072) 0 s) (fun i s hi hl=>?_) (fun i s s' hi hl h=>Cah (k:=ctG x.1) (k0:=k0) (m:=16) hn hp i s s' hi hl h) (fun s hl=>?_) 16 0 s (by omega) ⟨hs.m,hs.o,by have:=hs.k;omega⟩
 ·rw [C2j]
  have e1:=Cru (i:=((i+1:Nat):Int)) hsz hn (s:=s) hl (by omega)
  unfold Bta
  rw [decide_eq_true (show ((i+1:Nat):Int)≤16 by omega),cond_true]
  show (thY (C28 (xS x ((i+1:Nat):Int) s)) z2 (Bx4 f) fun s1=>thY (Bmv (xS x ((i+1:Nat):Int) s1)) zM (Bx4 f) fun s2=>thY (C2h (xS x ((i+1:Nat):Int) (s2.1,s1.2.1,s2.2))) zM (Bx4 f) fun s3 =>
   .leaf (.inl (((),()),xS x (W64 (((i+1:Nat):Int)+1)) (s3.1,s1.2.1,s3.2)))).run=_
  unfold tkE
  change C28 (xS x ((i+1:Nat):Int) s)=some (mvF (ctG x.1).bl (ctG x.1).l (ctG x.1).t ((i+1:Nat):Int) (ctG x.1).bl.length s) at e1
  cases h1:mvF (ctG x.1).bl (ctG x.1).l (ctG x.1).t ((i+1:Nat):Int) (ctG x.1).bl.length s with
  | inr e=>rw [h1] at e1;rw [Bx3 e1];rfl
  | inl s1 =>
   rw [h1] at e1
   rw [Bx2 e1]
   have a:Inv2 (nBx x.1) (k0+i*8072+nBx x.1) 0 s1:=Bz5 hl h1
   have e2:=Crv (i:=((i+1:Nat):Int)) hsz hn (s:=s1) a (by omega)
   change Bmv (xS x ((i+1:Nat):Int) s1)=some (seF (ctG x.1).bl (ctG x.1).c (ctG x.1).t ((i+1:Nat):Int) (ctG x.1).w (ctG x.1).fl (ctG x.1).bl.length s1) at e2
   simp only
   cases h2:seF (ctG x.1).bl (ctG x.1).c (ctG x.1).t ((i+1:Nat):Int) (ctG x.1).w (ctG x.1).fl (ctG x.1).bl.length s1 with
   | inr e=>rw [h2] at e2;rw [Bx3 e2];rfl
   | inl s2 =>
    rw [h2] at e2
    rw [Bx2 e2]
    have b:Inv2 (nBx x.1) (k0+i*8072+nBx x.1+64) 0 (s2.1,s1.2.1,s2.2):=Cag hn a h2
    have e3:=Crw (i:=((i+1:Nat):Int)) hsz hn hp (s:=(s2.1,s1.2.1,s2.2)) b (by omega)
    change C2h (xS x ((i+1:Nat):Int) (s2.1,s1.2.1,s2.2))=some (buF (ctG x.1).bl (ctG x.1).c (ctG x.1).ps (ctG x.1).t ((i+1:Nat):Int) (ctG x.1).w (ctG x.1).fl (ctG x.1).bl.length (s2.1,s1.2.1,s2.2)) at e3
    simp only
    cases h3:buF (ctG x.1).bl (ctG x.1).c (ctG x.1).ps (ctG x.1).t ((i+1:Nat):Int) (ctG x.1).w (ctG x.1).fl (ctG x.1).bl.length (s2.1,s1.2.1,s2.2) with
    | inr e=>rw [h3] at e3;rw [Bx3 e3];rfl
    | inl s3 =>
     rw [h3] at e3
     rw [Bx2 e3,Bbb (by omega) (by omega)]
     rfl
 ·rw [C2j]
  rfl
end St
end V
end Go.Proofs.YtcfanlgpkefogaaGreat
namespace Go.Proofs.YtcfanlgpkefogaaGreat
open Go.RowKit
namespace V
namespace St
noncomputable def X_ti (f:Nat) (Y:TY):Ctx:=Bv7 Tryz.prog plGm [(54,Tryz.f54),(49,Tryz.f49)] [((54,4),sm_tk f Y)] (spT f Y)
theorem Crx {f:Nat} {Y:TY} (h:∀ p ∈ spT f Y,Plain Tryz.prog p.1∧Bbn Tryz.prog p.1 p.2) (hl:Bb0 Tryz.prog 54 Ckz (sm_tk f Y)):CtxOk (X_ti f Y) :=
 Bg9 Bao puGm (fns_cons is_gtick (fns_cons is_must No)) (Be2 (Bo0 (ds:=[Ckz]) (by kernel_rfl) ⟨Bhz (k:=4) (by kernel_rfl) rfl hl,trivial⟩) (Be2 (Bt0 (by kernel_rfl)) Bix)) h
def C2k (f:Nat) (e:Int):TU f:=.leaf ⟨false,pnU f e⟩
def D4p (v:GB):GB:=(gmA v.1 (gmM v.1) (gmO v.1) (max 0 (W64 (gmF v.1-1))) (W64 (gmT v.1+1)) (gmS v.1),(gk v,()),())
def Czh (f:Nat) (y:Option (V1 (C2i f))):TU f:=bif isP 49 .i64 y then C2k f (panO 49 .i64 y).1 else bif isE (.exit 0) y then .leaf ⟨true,((),D4p (Bca (.exit 0) y).2)⟩ else .fail
def Czi (f:Nat) (Y:TY) (x:GB) (ms:Baj):Option (V1 (C2i f)):=iter (Caf f Y) 17 (((),()),xS x 1 (ms,gmO x.1,gk x))
def T_ti (f:Nat) (Y:TY) (x:GB):TU f:=bif gmT x.1==4000 then C2k f 3 else thY (Y.s x) [] (C2k f) fun ms=>Czh f (Czi f Y x ms)
def slE (l:TCT Bam) (os:List Bool) (w fl:Int) (i:Nat) (ms:Baj):Baj⊕Int :=
 bif !Bbo ms os i||Bck w fl i then .inl ms else bif Bdr l (V2 ms i).1 != 0 then .inr (Bdr l (V2 ms i).1) else
 bif (Bhq l (V2 ms i)).2.1 != 0 then .inr 4 else .inl (Bb7 ms i (Bsw l (V2 ms i)))
def tkF (k:CT) (s:S2):S2⊕Int:=bif k.t==4000 then .inr 3 else match Bat (slE k.l s.2.1 k.w k.fl) 0 k.bl.length s.1 with
 | .inr e=>.inr e
 | .inl ms=>Bat (tkE k) 0 16 (ms,s.2.1,s.2.2)
def Cdk (x:GB):Bool:=C2f x&&decide ((gk x).length≤700000)
theorem Cl1 {x:GB} (h:Cdk x=true):OkGM x.1∧(gk x).length≤700000∧(gmP x.1).length≤1000:=by
 unfold Cdk at h
 simp only [Bool.and_eq_true,decide_eq_true_eq] at h
 have a:=C2g h.1
 exact ⟨a.1,h.2,a.2.2⟩
def Bz6 (x:GB):Option (S2⊕Int):=bif Cdk x then some (tkF (ctG x.1) (gs x)) else none
def xT (x:GB) (s:S2):GB:=(gmA x.1 s.1 s.2.1 (max 0 (W64 (gmF x.1-1))) (W64 (gmT x.1+1)) 17,(s.2.2,()),())
def D7v {β:Type} (m:GM) (ms:Baj) (os:List Bool) (k:GM→β):β:=match m with
 | (a0,a1,a2,a3,a4,a5,a6,a7,a8,a9,a10,a11,a12,a13,a14,_,_,a17,a18,a19,_,a21,_)=>k (a0,a1,a2,a3,a4,a5,a6,a7,a8,a9,a10,a11,a12,a13,a14,ms,os,a17,max 0 (W64 (a18-1)),W64 (a19+1),17,a21,())
def D4q (f:Nat) (x:GB) (s:S2) (k:(FE_u f true).T→Tree (Bcy (FE_u f))):Tree (Bcy (FE_u f)):=D7v x.1 s.1 s.2.1 fun m=>k ((),(m,(s.2.2,()),()))
def Czj (f:Nat) (x:GB) (s:S2):(FE_u f true).T:=((),xT x s)
theorem Cry {f:Nat} (Y:Y2):(Bql (L:=FL_g f) (E:=FE_u f) (fun g=>Y g.2) (fun g=>D4q f g.2) (pnU f) ([],[],[]))=(Bsv (L:=FL_g f) (E:=FE_u f) (fun g=>Y g.2) (fun g=>Czj f g.2) (pnU f) ([],[],[])):=rfl
abbrev spYT (f:Nat) (Y:Y2):SPf:=Bia Bij (FL_g f) (FE_u f) (Bql (fun g:(FL_g f).T=>Y g.2) (fun g=>D4q f g.2) (pnU f) ([],[],[]))
theorem Czk {f:Nat} {g:(FL_g f).T} {z:S2⊕Int} (h:Bz6 g.2=some z):(T_ti f tyG g.2).run=some (Bw1 (L:=FL_g f) (E:=FE_u f) (fun g=>Czj f g.2) (pnU f) g z):=by
 unfold Bz6 at h
 cases ho:Cdk g.2 with
 | false=>rw [ho] at h;cases h
 | true =>
  rw [ho] at h
  cases h
  obtain ⟨hg,hk,hp⟩:=Cl1 ho
  unfold T_ti tkF
  show Tree.run (bif gmT g.2.1==4000 then C2k f 3 else thY (Bsz g.2) [] (C2k f) fun ms=>Czh f (Czi f tyG g.2 ms))=some (Bw1 (L:=FL_g f) (E:=FE_u f) (fun g=>Czj f g.2) (pnU f) g (bif gmT g.2.1==4000 then .inr 3 else match Bat (slE (gmL g.2.1) (gmO g.2.1) (gmW g.2.1) (gmF g.2.1)) 0 (nBx g.2.1) (gmM g.2.1) with
   | .inr e=>.inr e
   | .inl ms=>Bat (tkE (ctG g.2.1)) 0 16 (ms,gmO g.2.1,gk g.2)))
  cases gmT g.2.1==4000 with
  | true=>rfl
  | false =>
   simp only [cond_false]
   have e1:Bsz g.2=some (Bat (slE (gmL g.2.1) (gmO g.2.1) (gmW g.2.1) (gmF g.2.1)) 0 (nBx g.2.1) (gmM g.2.1)):=by
    unfold Bsz
    rw [Bfc.2 hg]
    rfl
   cases h1:Bat (slE (gmL g.2.1) (gmO g.2.1) (gmW g.2.1) (gmF g.2.1)) 0 (nBx g.2.1) (gmM g.2.1) with
   | inr e=>rw [h1] at e1;rw [Bx3 e1];rfl
   | inl ms =>
    rw [h1] at e1
    rw [Bx2 e1]
    have hms:ms.length=nBx g.2.1:=Bax (n:=nBx g.2.1) (Inv:=fun _ (s:Baj)=>s.length=nBx g.2.1) (fun i s s' hi hl h=>Ck1 (m:=g.2.1) i s s' hi hl h) (nBx g.2.1) 0 _ _ (by omega) hg.ms h1
    have hy:Czi f tyG g.2 ms=some (Btb f g.2 (Bat (tkE (ctG g.2.1)) 0 16 (ms,gmO g.2.1,gk g.2))):=D4o (x:=g.2) (s:=(ms,gmO g.2.1,gk g.2)) (k0:=(gk g.2).length) hg.sz hg.n hp ⟨hms,hg.os,by show (gk g.2).length≤(gk g.2).length+0;omega⟩ hk
    rw [hy]
    simp only
    cases Bat (tkE (ctG g.2.1)) 0 16 (ms,gmO g.2.1,gk g.2) with
    | inl s=>rfl
    | inr e =>
     have h1:isP 49 .i64 (some (Btb f g.2 (.inr e)))=true:=Blg
     have h2:panO 49 .i64 (some (Btb f g.2 (.inr e)))=⟨e,((),())⟩:=Bhb
     unfold Czh
     rw [h1,h2]
     rfl
theorem Czl (Y:TY) (g:(FL_g 53).T):Bn6 (X_ti 53 Y) (Bcx (X_ti 53 Y) 6) 54 (ofKs (FL_g 53).ks g.1 (FL_g 53).nx) ((FL_g 53).lay.hp g) ((FL_g 53).lay.of g).nx (Bv4 (FE_u 53))=T_ti 53 Y g.2:=by kernel_rfl
theorem Crz:Bbn Tryz.prog 54 (spYT 53 Bz6):=by
 rw [spYT,Cry]
 exact Bpj (Crx Cwb (Czg Cwb)) 6 Blj _ _ _ _ (fun g=>T_ti 53 tyG g.2) (Czl tyG) fun _ _ _ h=>Czk h
end St
end V
end Go.Proofs.YtcfanlgpkefogaaGreat
namespace Go.Proofs.YtcfanlgpkefogaaGreat
open Go.RowKit
namespace V
theorem Bdt {S B:Type} {f:Nat→S→S⊕B}:∀ (k i:Nat) (s:S) (b:B),Bat f i k s=.inr b→∃ j t,f j t=.inr b
 | 0,_,_,_,h=>by cases h
 | k+1,i,s,b,h=>by
  unfold Bat at h
  cases hf:f i s with
  | inl t=>rw [hf] at h;exact Bdt k (i+1) t b h
  | inr c=>rw [hf] at h;cases h;exact ⟨i,s,hf⟩
namespace St
theorem is_sTick:FnIs Tryz.prog (14,Tryz.f14):=⟨Tryz.func14,by kernel_rfl,by kernel_rfl⟩
theorem is_newGame:FnIs Tryz.prog (45,Tryz.f45):=⟨Tryz.func45,by kernel_rfl,by kernel_rfl⟩
theorem is_sTry:FnIs Tryz.prog (47,Tryz.f47):=⟨Tryz.func47,by kernel_rfl,by kernel_rfl⟩
theorem is_sTry1:FnIs Tryz.prog (97,Tryz.f97):=⟨Tryz.func97,by kernel_rfl,by kernel_rfl⟩
theorem is_clMot:FnIs Tryz.prog (95,Tryz.f95):=⟨Tryz.func95,by kernel_rfl,by kernel_rfl⟩
theorem is_clBool:FnIs Tryz.prog (96,Tryz.f96):=⟨Tryz.func96,by kernel_rfl,by kernel_rfl⟩
theorem Czm {l:TCT Bam} {os:List Bool} {w fl:Int} {i:Nat} {ms:Baj} {e:Int} (h:slE l os w fl i ms=.inr e):e≠0:=by
 unfold slE at h
 cases h1:!Bbo ms os i||Bck w fl i with
 | true=>rw [h1] at h;cases h
 | false =>
  rw [h1] at h
  cases h2:Bdr l (V2 ms i).1 != 0 with
  | true=>rw [h2] at h;cases h;exact bne_iff_ne.1 h2
  | false =>
   rw [h2] at h
   cases h3:(Bhq l (V2 ms i)).2.1 != 0 with
   | true=>rw [h3] at h;cases h;decide
   | false=>rw [h3] at h;cases h
theorem Czn {bl:List (TCT Fq)} {os:List Bool} {i:Nat} {ms:Baj} {e:Int} (h:stE bl os i ms=.inr e):e≠0:=by
 unfold stE at h
 cases h1:!Bbo ms os i with
 | true=>rw [h1] at h;cases h
 | false =>
  rw [h1] at h
  cases h3:(Bhr (Bc1 bl i) (V2 ms i)).2.1 != 0 with
  | true=>rw [h3] at h;cases h;exact bne_iff_ne.1 h3
  | false=>rw [h3] at h;cases h
theorem Czo {bl:List (TCT Fq)} {l:TCT Bam} {t st:Int} {n:Nat} {s:S2} {e:Int} (h:mvF bl l t st n s=.inr e):e≠0:=by
 unfold mvF at h
 cases h1:Bat (stE bl s.2.1) 0 n s.1 with
 | inr e' =>
  rw [h1] at h
  cases h
  obtain ⟨j,t,hj⟩:=Bdt _ _ _ _ h1
  exact Czn hj
 | inl ms =>
  rw [h1] at h
  obtain ⟨s',hs'⟩:=Bpl (Ca2 (l:=l) (t:=t) (st:=st)) n 0 (ms,s.2.1,s.2.2)
  change Bat (lvE l t st) 0 n (ms,s.2.1,s.2.2)=.inr e at h
  rw [hs'] at h
  cases h
theorem Bz7 {bl:List (TCT Fq)} {c:TCT Bbv} {t st w fl:Int} {n:Nat} {s:S2} {e:Int} (h:seF bl c t st w fl n s=.inr e):e≠0:=by
 unfold seF at h
 cases he:(seS bl c w fl n s).2.2.1 != 0 with
 | true=>rw [he] at h;cases h;exact bne_iff_ne.1 he
 | false=>rw [he] at h;cases h
theorem Czp {b:TCT Fq} {c:TCT Bbv} {ps:Dss} {os:List Bool} {w fl t st:Int} {i k:Nat} {s:MK} {e:Int} (h:bpE b c ps os w fl t st i k s=.inr (.inr e)):e≠0:=by
 unfold bpE at h
 cases h1:!Bbo s.1 os i||Bck w fl i with
 | true=>rw [h1] at h;cases h
 | false =>
  rw [h1] at h
  cases h2:(bmV b (V2 s.1 i) (Bdh ps k) c).2.1==0 with
  | true=>rw [h2] at h;cases h
  | false =>
   rw [h2] at h
   cases h3:(bmV b (V2 s.1 i) (Bdh ps k) c).2.1==4 with
   | true =>
    rw [h3] at h
    cases h
    exact beq_eq_false_iff_ne.1 h2
   | false=>rw [h3] at h;cases h
theorem Czq {bl:List (TCT Fq)} {c:TCT Bbv} {ps:Dss} {t st w fl:Int} {n:Nat} {s:S2} {e:Int} (h:buF bl c ps t st w fl n s=.inr e):e≠0:=by
 unfold buF at h
 obtain ⟨j,u,hj⟩:=Bdt _ _ _ _ h
 unfold boE at hj
 cases hf:Bat (bpE (Bc1 bl j) c ps s.2.1 w fl t st j) 0 ps.length u with
 | inl a=>rw [hf] at hj;cases hj
 | inr y =>
  rw [hf] at hj
  obtain ⟨k,v,hk⟩:=Bdt _ _ _ _ hf
  have:y=.inr e:=hj
  subst this
  exact Czp hk
theorem Czr {k:CT} {i:Nat} {s:S2} {e:Int} (h:tkE k i s=.inr e):e≠0:=by
 unfold tkE at h
 cases h1:mvF k.bl k.l k.t ((i+1:Nat):Int) k.bl.length s with
 | inr e'=>rw [h1] at h;cases h;exact Czo h1
 | inl s1 =>
  rw [h1] at h
  simp only at h
  cases h2:seF k.bl k.c k.t ((i+1:Nat):Int) k.w k.fl k.bl.length s1 with
  | inr e'=>rw [h2] at h;cases h;exact Bz7 h2
  | inl s2 =>
   rw [h2] at h
   simp only at h
   cases h3:buF k.bl k.c k.ps k.t ((i+1:Nat):Int) k.w k.fl k.bl.length (s2.1,s1.2.1,s2.2) with
   | inr e'=>rw [h3] at h;cases h;exact Czq h3
   | inl s3=>rw [h3] at h;cases h
theorem Czs {k:CT} {s:S2} {e:Int} (h:tkF k s=.inr e):e≠0:=by
 unfold tkF at h
 cases h0:k.t==4000 with
 | true=>rw [h0] at h;cases h;decide
 | false =>
  rw [h0] at h
  simp only [cond_false] at h
  cases h1:Bat (slE k.l s.2.1 k.w k.fl) 0 k.bl.length s.1 with
  | inr e' =>
   rw [h1] at h
   cases h
   obtain ⟨j,t,hj⟩:=Bdt _ _ _ _ h1
   exact Czm hj
  | inl ms =>
   rw [h1] at h
   obtain ⟨j,t,hj⟩:=Bdt _ _ _ _ h
   exact Czr hj
def ctS (g:TCT cGr) (s:TCT cSt):CT:=⟨Fp g,g.1,g.2.2.1,Bgk g.1,s.2.2.1,s.2.2.2.1,s.2.2.2.2.1⟩
abbrev TkR:Type:=TCTs [cSt,.sl cKn,cI]
def Bjf (e:Int):TkR:=(zS,[],e,())
def tkR (s:TCT cSt):S2⊕Int→TkR
 | .inl r=>((r.1,r.2.1,s.2.2.1,max 0 (W64 (s.2.2.2.1-1)),W64 (s.2.2.2.2.1+1),()),r.2.2,0,())
 | .inr e=>Bjf e
def tkV (g:TCT cGr) (s:TCT cSt):TkR:=tkR s (tkF (ctS g s) (msT s,osT s,[]))
def TickV (g:TCT cGr) (s:TCT cSt):TkR:=bif Bih g s != 0 then Bjf (Bih g s) else tkV g s
def C2l (r:TkR):TkR:=(etaS r.1,r.2.1,r.2.2.1,())
abbrev Cs0:PureT:=Bbc [cGr,cSt] [cSt,.sl cKn,cI] (fun x=>decide ((x.1.1.1.size:Int)≤Bb2 .i64)) (fun x=>C2l (TickV x.1 x.2.1))
abbrev TTR:=Tree TkR
def gT (g:TCT cGr) (s:TCT cSt):GB:=((g.1.1,g.1.2.1,g.1.2.2.1,g.1.2.2.2.1,g.1.2.2.2.2.1,g.1.2.2.2.2.2.1.1.1,g.1.2.2.2.2.2.1.1.2.1,g.1.2.2.2.2.2.1.2.1,g.1.2.2.2.2.2.2.1,g.1.2.2.2.2.2.2.2.1,g.1.2.2.2.2.2.2.2.2.1,g.2.1,g.2.2.1.1,g.2.2.1.2.1,Bgk g.1,([]++s.1),([]++s.2.1),s.2.2.1,s.2.2.2.1,s.2.2.2.2.1,0,((),(),()),()),([],()),())
def neT {β:Type} {c:Type} (l:List c) (k:Tree β):Tree β:=bif !List.isEmpty l then k else .fail
theorem Bz8 {β:Type} {c:Type} {l:List c} {k:Tree β} (h:1≤l.length):neT l k=k:=by
 cases l with
 | nil=>simp at h
 | cons _ _=>rfl
def acT {β:Type} {c:Type} (l:List c) (b:Nat) (k:Tree β):Tree β:=bif Bd8 [] l b then k else .fail
theorem Bz9 {β:Type} {c:Type} {l:List c} {b:Nat} {k:Tree β} (h:l.length≤1000) (hb:b≤48):acT l b k=k:=by
 unfold acT
 rw [Bko (by simp;omega) hb];rfl
def Cs1 (Y:Y2) (g:TCT cGr) (s:TCT cSt):TTR:=szT g.1 (bif Bih g s != 0 then .leaf (Bjf (Bih g s)) else szT g.1 (neT (msT s) (acT (msT s) 48 (neT (osT s) (acT (osT s) 1 (
 thY (Y (gT g s)) z2 (fun e=>bif e != 0 then .leaf (Bjf e) else .fail) fun r=>.leaf (tkR s (.inl r))))))))
abbrev plTk:List (Nat×PureT):=(25,Byt)::plGm
theorem puTk:Bc5 Tryz.prog plTk:=puOk_cons is_Posts.plain C9n puGm
noncomputable def D7w:List (Nat×Func):=[(14,Tryz.f14),(45,Tryz.f45),(47,Tryz.f47),(97,Tryz.f97),(95,Tryz.f95),(96,Tryz.f96)]
noncomputable def D4r (Y:Y2):Ctx:=Bv7 Tryz.prog plTk D7w [] [(54,spYT 53 Y)]
theorem Cs2 (Y:Y2) (x:TCTs [cGr,cSt]):Bcx (D4r Y) 8 (.fn 14) (Bdi [cGr,cSt] x) Bbx 0 (Bgq Tryz.prog [cSt,.sl cKn,cI])=Cs1 Y x.1 x.2.1:=by kernel_rfl
theorem Cs3:CtxOk (D4r Bz6):=Bg9 Bao puTk (fns_cons is_sTick (fns_cons is_newGame (fns_cons is_sTry (fns_cons is_sTry1 (fns_cons is_clMot (fns_cons is_clBool No)))))) Biw (fun p hp=>by
 rw [List.mem_singleton] at hp;subst hp;exact ⟨is_gtick.plain,Crz⟩)
theorem Btc {l:TCT Bam}:(Bgk l).length≤25:=by
 unfold Bgk
 cases h:Bc3 l==0 with
 | false=>show (0:Nat)≤25;omega
 | true =>
  have k:Bc3 l=0:=beq_iff_eq.1 h
  have hh:(Baz l).length≤12:=by
   unfold Bc3 Bk4 at k
   cases h1:decide (((Baz l).length:Int)<1)||(decide (((Baz l).length:Int)>12)||decide (((Bcd l).length:Int)>256)) with
   | true=>rw [h1] at k;cases k
   | false =>
    simp only [Bool.or_eq_false_iff,decide_eq_false_iff_not] at h1
    omega
  show (Bbk l).length≤25
  rw [Bww]
  omega
structure StaOk (g:TCT cGr) (s:TCT cSt):Prop where
 gr:groE g=0
 n1:1≤(Fp g).length
 n8:(Fp g).length≤8
 m:(msT s).length=(Fp g).length
 o:(osT s).length=(Fp g).length
 ok:Bfp (okS g (osT s)) 0 (msT s)=true
 num:Bvx (Fp g).length s=false
theorem C70 {g:TCT cGr} {s:TCT cSt} (h:Bih g s=0):StaOk g s:=by
 unfold Bih at h
 cases h1:groE g != 0 with
 | true=>rw [h1,cond_true] at h;exact absurd h (bne_iff_ne.1 h1)
 | false =>
  have hg:groE g=0:=bne_eq_false_iff_eq.1 h1
  rw [h1,cond_false] at h
  unfold vaE at h
  cases h2:Bvy g s with
  | false=>rw [h2] at h;cases h
  | true =>
   rw [h2,cond_true] at h
   cases h3:Bfp (okS g (osT s)) 0 (msT s) with
   | false=>rw [h3] at h;cases h
   | true =>
    rw [h3,cond_true] at h
    cases h4:Bvx (Fp g).length s with
    | true=>rw [h4] at h;cases h
    | false =>
     have a:=C9z hg
     have b:=Bsr h2
     exact ⟨hg,a.1,a.2,b.1,b.2,h3,h4⟩
theorem Cs4 {g:TCT cGr} {s:TCT cSt} (hs:(g.1.1.size:Int)≤Bb2 .i64) (h:StaOk g s):Cdk (gT g s)=true:=by
 unfold Cdk C2f Bmu
 simp only [Bool.and_eq_true,decide_eq_true_eq]
 refine ⟨⟨⟨Bfc.2 ⟨hs,?_,?_,h.n8⟩,by show (0:Nat)≤900000;omega⟩,?_⟩,by show (0:Nat)≤700000;omega⟩
 ·show ([]++s.1:Baj).length=(Fp g).length
  rw [List.nil_append];exact h.m
 ·show ([]++s.2.1:List Bool).length=(Fp g).length
  rw [List.nil_append];exact h.o
 ·have:=Btc (l:=g.1)
  show (Bgk g.1).length≤1000
  omega
theorem Cs5 {g:TCT cGr} {s:TCT cSt} (hs:(g.1.1.size:Int)≤Bb2 .i64) (h:StaOk g s):Bz6 (gT g s)=some (tkF (ctS g s) (msT s,osT s,[])):=by
 unfold Bz6
 rw [Cs4 hs h]
 rfl
theorem Cs6 {g:TCT cGr} {s:TCT cSt} (hs:(g.1.1.size:Int)≤Bb2 .i64):(Cs1 Bz6 g s).sat (fun y=>y=C2l (TickV g s)):=by
 unfold Cs1 TickV
 rw [Bdd hs,Bdd hs]
 cases h1:Bih g s != 0 with
 | true=>exact rfl
 | false =>
  have h:=C70 (bne_eq_false_iff_eq.1 h1)
  have hn1:=h.n1
  have hn8:=h.n8
  have hm:=h.m
  have ho:=h.o
  simp only [cond_false]
  rw [Bz8 (by omega),Bz9 (by omega) (by decide),Bz8 (by omega),Bz9 (by omega) (by decide)]
  have hy:=Cs5 hs h
  unfold tkV
  cases hf:tkF (ctS g s) (msT s,osT s,[]) with
  | inl r=>rw [hf] at hy;rw [Bx2 hy];exact rfl
  | inr e =>
   rw [hf] at hy
   rw [Bx3 hy,show (e != 0)=true from bne_iff_ne.2 (Czs hf)]
   exact rfl
theorem Cs7:Bai Tryz.prog 14 Cs0:=Bbd Cs3 8 (fun x=>Cs1 Bz6 x.1 x.2.1) (Cs2 Bz6) fun x hok _=>Cs6 (of_decide_eq_true hok)
end St
end V
end Go.Proofs.YtcfanlgpkefogaaGreat
namespace Go.Proofs.YtcfanlgpkefogaaGreat
open Go.RowKit
namespace V
namespace St
theorem is_sStrike:FnIs Tryz.prog (11,Tryz.f11):=⟨Tryz.func11,by kernel_rfl,by kernel_rfl⟩
def ex2:Baj:=[((50000,60106,()),(0,190000,()),(0,-12800,()),()),((80000,60000,()),(0,0,()),(0,0,()),())]
end St
end V
end Go.Proofs.YtcfanlgpkefogaaGreat
namespace Go.Proofs.YtcfanlgpkefogaaGreat
open Go.RowKit
namespace V
namespace St
def Ccp (a b:TCT Baq):Bool:=(a.1.1==b.1.1&&(a.1.2.1==b.1.2.1&&true))&&((a.2.1.1==b.2.1.1&&(a.2.1.2.1==b.2.1.2.1&&true))&&((a.2.2.1.1==b.2.2.1.1&&(a.2.2.1.2.1==b.2.2.1.2.1&&true))&&true))
end St
end V
end Go.Proofs.YtcfanlgpkefogaaGreat
