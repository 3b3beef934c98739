import Derived.Test.YtcfanlgpkefogaaGreatBA
namespace Go.Proofs.YtcfanlgpkefogaaGreat
open Go.RowKit
namespace V
namespace St
noncomputable def Dag:Code:=(Bak (bodyOf Tryz.f13)).getD 0 .skip
abbrev kPt:List SK:=[.d cI,.d cI]
def C4m:Lay:={ keys:=[4,17,18,19],ks:=[.p 2 0 0 0,.d (.sl Bat),.d cI,.d cI],bs:=[(2,31,kPt)],n:=39,nx:=1000,marks:=[] }
def Def:Lay:={ keys:=[4],ks:=[.p 2 0 0 0],bs:=[(2,31,kPt)],n:=39,nx:=1000,marks:=[] }
def C16:XE→Lay:=fun _=>Def
def Co2 (m:List (TCT Bat)) (n i:Int) (p:SKTs kPt):C4m.T:=(((),m,n,i,()),(p,()))
def Co3 (p:SKTs kPt):Fq C16:=⟨.exit 0,(((),()),(p,()))⟩
def Co4 (p:SKTs kPt) (m:TCT Bat):SKTs kPt:=(W64 (p.1+m.2.1.1),W64 (p.2.1+m.2.1.2.1),())
def Buc (m:List (TCT Bat)) (n i:Int) (p:SKTs kPt):Tree (C4m.T⊕Fq C16):=bif decide (i<n) then inN m.length i (.leaf (.inl (Co2 m n (W64 (i+1)) (Co4 p (Bam m (Int.toNat i) (Baj Bat)))))) else .leaf (.inr (Co3 p))
def Cdf (g:C4m.T):Tree (C4m.T⊕Fq C16):=Buc g.1.2.1 g.1.2.2.1 g.1.2.2.2.1 g.2.1
def Co5 (g:C4m.T):Nat:=(g.1.2.1:List (TCT Bat)).length+1
theorem Deg:Baw Tryz.prog 13 Dag (Bav C4m C16 (Bcm [.exit 0] Cdf Co5)):=Bb9 (Bas Bar puS1 V1) 7 _ C4m C16 (fun e=>by cases e <;> exact Nat.le_refl _) [.exit 0] Cdf Co5 (fun g=>by kernel_rfl)
def C9h (m:List (TCT Bat)) (i:Nat) (p:SKTs kPt):SKTs kPt⊕Unit:=.inl (Co4 p (Bam m i (Baj Bat)))
def p0:SKTs kPt:=(0,0,())
def gP:SKTs kPt⊕Unit→SKTs kPt
 | .inl p=>p
 | .inr _=>p0
def D4q (r:SKTs kPt⊕Unit):Fq C16:=Co3 (gP r)
def Bud (m:List (TCT Bat)):SKTs kPt:=gP (Bap (C9h m) 0 m.length p0)
def Dah (s:TCT cSt):Option (Fq C16):=iter Cdf ((msT s).length+1) (Co2 s.1 (msT s).length 0 p0)
theorem Cwc {s:TCT cSt} (hm:((msT s).length:Int)≤Bb2 .i64):Dah s=some (Co3 (Bud (msT s))):=by
 refine Bfx (msT s).length (fun i p=>Co2 s.1 (msT s).length i p) (C9h (msT s)) D4q (fun _ _=>True) (fun i p hi _=>?_) (fun _ _ _ _ _ _=>trivial) (fun p _=>?_) (msT s).length 0 p0 (by omega) trivial
 ·show (Buc (msT s) (msT s).length (i:Int) p).run=_
  unfold Buc C9h
  rw [decide_eq_true (show (i:Int)<((msT s).length:Int) by omega),Bd0 (by omega),show Int.toNat (i:Int)=i from rfl,Bd9 hi hm]
  rfl
 ·show (Buc (msT s) (msT s).length ((msT s).length:Int) p).run=_
  unfold Buc
  rw [decide_eq_false (show ¬ ((msT s).length:Int)<((msT s).length:Int) by omega)]
  rfl
abbrev TPe:=Tree (TCTs [cPt,cI])
def lfP (p:SKTs kPt) (e:Int):TPe:=.leaf ((p.1,p.2.1,()),e,())
def Deh (y:Option (Fq C16)):TPe:=bif isE (.exit 0) y then lfP (Bc2 (.exit 0) y).2.1 0 else .fail
def totR (g:TCT cGr) (s:TCT cSt):SKTs kPt:=bif Be0 g s != 0 then p0 else Bud (msT s)
abbrev Dai:PureT:=Bbh [cGr,cSt] [cPt,cI] (fun x=>decide ((x.1.1.1.size:Int)≤Bb2 .i64)) (fun x=>(((totR x.1 x.2.1).1,(totR x.1 x.2.1).2.1,()),Be0 x.1 x.2.1,()))
theorem Cwd {g:TCT cGr} {s:TCT cSt} {k:TPe} (h:k=lfP (Bud (msT s)) 0):(bif Be0 g s != 0 then lfP p0 (Be0 g s) else k).sat (fun y=>y=(((totR g s).1,(totR g s).2.1,()),Be0 g s,())):=by
 unfold totR
 cases hs:Be0 g s != 0 with
 | true=>exact rfl
 | false =>
  have:=bne_eq_false_iff_eq.1 hs
  simp only [cond_false]
  rw [this,h]
  exact rfl
noncomputable def Dei:Ctx:=Bh4 Tryz.prog plS4 [(13,Tryz.f13)] [((13,5),Bav C4m C16 (Bcm [.exit 0] Cdf Co5))]
theorem Cwe:CtxOk Dei:=Bca Bar puS4 (fns_cons is_sTotal V1) (Bc0 (by kernel_rfl) (by kernel_rfl) Deg)
theorem C4n:Bai Tryz.prog 13 Dai:=Bbj Cwe 7 (fun x=>szT x.1.1 (bif Be0 x.1 x.2.1 != 0 then lfP p0 (Be0 x.1 x.2.1) else Deh (Dah x.2.1))) (fun x=>by kernel_rfl) fun x hok hw=>by
 rw [Bce (of_decide_eq_true hok)]
 refine Cwd ?_
 rw [Cwc (Bez hw.2.1.1)]
 rfl
end St
end V
end Go.Proofs.YtcfanlgpkefogaaGreat
namespace Go.Proofs.YtcfanlgpkefogaaGreat
open Go.RowKit
namespace V
def isL {A B:Type}:Option (A⊕B)→Bool
 | some (.inl _)=>true
 | _=>false
def isR {A B:Type}:Option (A⊕B)→Bool
 | some (.inr _)=>true
 | _=>false
def gL {A B:Type} (d:A):Option (A⊕B)→A
 | some (.inl a)=>a
 | _=>d
def gR {A B:Type} (d:B):Option (A⊕B)→B
 | some (.inr b)=>b
 | _=>d
def FLay.dfl (F:FLay):F.T:=(dflKs F.ks,D80 F.bs)
theorem Bue {α:Type} {t:Tree α} {R S:α→Prop} (h:t.sat R) (k:∀ x,R x→S x):t.sat S:=by
 induction t with
 | leaf a=>exact k a h
 | need p t ih=>exact ⟨h.1,ih h.2⟩
 | br c t e i1 i2=>exact ⟨fun x=>i1 (h.1 x),fun x=>i2 (h.2 x)⟩
 | fail=>exact h
def D4r {L:FLay} {E:Bool→FLay} (c:L.T→Bool) (r:L.T→(E true).T) (g:L.T):Tree (Bde E):=.br (c g) (.leaf ⟨true,r g⟩) .fail
theorem Bqn {X:Ctx} (hX:CtxOk X) {f:FuncId} (m:Nat) {probe:Bao→List AV→Option (List Nat)} {L:FLay} {E:Bool→FLay} (hE:∀ b,L.nx≤(E b).nx) (c:L.T→Bool) (r:L.T→(E true).T) (T:L.T→Tree (Bde E))
  (he:∀ g,Blu X (Bcr X m) f (ofKs L.ks g.1 L.nx) (L.lay.hp g) (L.lay.of g).nx (Bsh E)=T g)
  (h:∀ g,L.lay.WF g→c g=true→(T g).run=some ⟨true,r g⟩):Bbe X.P f (Bj2 probe L E (D4r c r)) :=
 C7b hX m hE fun g R hw hf=>by
  rw [he]
  cases hc:c g with
  | false=>exact (hf.2 hc).elim
  | true=>exact Bue (Tree.sat_run (h g hw hc) (hf.1 hc)) fun x hx _=>hx
namespace St
theorem is_rolls:FnIs Tryz.prog (137,Tryz.f137):=⟨Tryz.func137,by kernel_rfl,by kernel_rfl⟩
theorem is_flies:FnIs Tryz.prog (98,Tryz.f98):=⟨Tryz.func98,by kernel_rfl,by kernel_rfl⟩
theorem is_knock:FnIs Tryz.prog (100,Tryz.f100):=⟨Tryz.func100,by kernel_rfl,by kernel_rfl⟩
theorem is_must:FnIs Tryz.prog (49,Tryz.f49):=⟨Tryz.func49,by kernel_rfl,by kernel_rfl⟩
theorem is_gslow:FnIs Tryz.prog (101,Tryz.f101):=⟨Tryz.func101,by kernel_rfl,by kernel_rfl⟩
theorem is_gmove:FnIs Tryz.prog (102,Tryz.f102):=⟨Tryz.func102,by kernel_rfl,by kernel_rfl⟩
theorem is_gsettle:FnIs Tryz.prog (50,Tryz.f50):=⟨Tryz.func50,by kernel_rfl,by kernel_rfl⟩
theorem is_gbump:FnIs Tryz.prog (103,Tryz.f103):=⟨Tryz.func103,by kernel_rfl,by kernel_rfl⟩
theorem is_gtick:FnIs Tryz.prog (54,Tryz.f54):=⟨Tryz.func54,by kernel_rfl,by kernel_rfl⟩
theorem is_Tick1:FnIs Tryz.prog (53,Tryz.f53):=⟨Tryz.func53,by kernel_rfl,by kernel_rfl⟩
theorem is_Strike1:FnIs Tryz.prog (46,Tryz.f46):=⟨Tryz.func46,by kernel_rfl,by kernel_rfl⟩
theorem is_run1:FnIs Tryz.prog (107,Tryz.f107):=⟨Tryz.func107,by kernel_rfl,by kernel_rfl⟩
abbrev kGm (f:Nat):List SK:=[.d .s,.d cI,.d cI,.d cI,.d (.sl Bbq),.d cI,.d cI,.d cI,.d cI,.d cI,.d (.sl Bc5),.d (.sl No),.d cI,.d cI,.d (.sl Baf),.w 2 60 Bat,.o 4 .b,.d cI,.d cI,.d cI,.d cI,.f f [] [.p 1 0 0 0]]
abbrev bsG (f:Nat):List BK:=[(0,137,kGm f),(1,48,[.o 58 cKn])]
abbrev GM:Type:=SKTs (kGm 0)
abbrev Kns:Type:=List (TCT cKn)
abbrev Bal:Type:=List (TCT Bat)
def gmX (m:GM):SKTs kGr:=(m.1,m.2.1,m.2.2.1,m.2.2.2.1,m.2.2.2.2.1,m.2.2.2.2.2.1,m.2.2.2.2.2.2.1,m.2.2.2.2.2.2.2.1,m.2.2.2.2.2.2.2.2.1,m.2.2.2.2.2.2.2.2.2.1,m.2.2.2.2.2.2.2.2.2.2.1,m.2.2.2.2.2.2.2.2.2.2.2.1,m.2.2.2.2.2.2.2.2.2.2.2.2.1,m.2.2.2.2.2.2.2.2.2.2.2.2.2.1,())
def gmP (m:GM):List (TCT Baf):=m.2.2.2.2.2.2.2.2.2.2.2.2.2.2.1
def gmM (m:GM):Bal:=m.2.2.2.2.2.2.2.2.2.2.2.2.2.2.2.1
def gmO (m:GM):List Bool:=m.2.2.2.2.2.2.2.2.2.2.2.2.2.2.2.2.1
def gmW (m:GM):Int:=m.2.2.2.2.2.2.2.2.2.2.2.2.2.2.2.2.2.1
def gmF (m:GM):Int:=m.2.2.2.2.2.2.2.2.2.2.2.2.2.2.2.2.2.2.1
def gmT (m:GM):Int:=m.2.2.2.2.2.2.2.2.2.2.2.2.2.2.2.2.2.2.2.1
def gmS (m:GM):Int:=m.2.2.2.2.2.2.2.2.2.2.2.2.2.2.2.2.2.2.2.2.1
def gmU (m:GM) (ms:Bal) (os:List Bool):GM:=(m.1,m.2.1,m.2.2.1,m.2.2.2.1,m.2.2.2.2.1,m.2.2.2.2.2.1,m.2.2.2.2.2.2.1,m.2.2.2.2.2.2.2.1,m.2.2.2.2.2.2.2.2.1,m.2.2.2.2.2.2.2.2.2.1,m.2.2.2.2.2.2.2.2.2.2.1,m.2.2.2.2.2.2.2.2.2.2.2.1,m.2.2.2.2.2.2.2.2.2.2.2.2.1,m.2.2.2.2.2.2.2.2.2.2.2.2.2.1,m.2.2.2.2.2.2.2.2.2.2.2.2.2.2.1,ms,os,m.2.2.2.2.2.2.2.2.2.2.2.2.2.2.2.2.2.1,m.2.2.2.2.2.2.2.2.2.2.2.2.2.2.2.2.2.2.1,m.2.2.2.2.2.2.2.2.2.2.2.2.2.2.2.2.2.2.2.1,m.2.2.2.2.2.2.2.2.2.2.2.2.2.2.2.2.2.2.2.2.1,m.2.2.2.2.2.2.2.2.2.2.2.2.2.2.2.2.2.2.2.2.2.1,())
def gmB (m:GM):List (TCT No):=blX (gmX m)
def gmL (m:GM):TCT Ban:=lwG (gmX m)
abbrev GB:Type:=GM×SKTs [.o 0 cKn]×Unit
def gb (m:GM) (k:Kns):GB:=(m,(k,()),())
def plGm:List (Nat×PureT):=(79,C4g)::(18,C4e)::(19,Cs9)::(39,Cs4)::(138,Cs8)::(99,C63)::plS4
def Cwf:List AV→List Nat
 | []=>[]
 | .own i::l=>i::Cwf l
 | _::l=>Cwf l
def Bj9 (hp:Bao) (args:List AV):Option (List Nat):=match args with
 | .ptr id _ _ _::_=>match hp id with
  | some (.blk b)=>match nth b.cs 21 with
   | some (.fn _ _ [.ptr k _ _ _])=>match hp k with
    | some (.blk c)=>some (id::k::(Cwf b.cs++Cwf c.cs))
    | _=>none
   | _=>none
  | _=>none
 | _=>none
def C4o (f:Nat):FLay:={ ks:=[.p 0 0 0 0,.d cI],bs:=bsG f,nx:=1000 }
def Dej (f:Nat):FLay:={ ks:=[.d .b],bs:=bsG f,nx:=1000 }
def FN:FLay:={ ks:=[.i 49 .i64],bs:=[],nx:=1000 }
def Bxr (f:Nat) (b:Bool):FLay:=bif b then Dej f else FN
def inO {β:Type} (n:Nat) (i:Int) (k:Tree β):Tree β:=inN n i (bif decide (Int.toNat i<n) then k else .fail)
theorem Be6 {β:Type} {n:Nat} {i:Int} {k:Tree β} (h:0≤i∧i<(n:Int)):inO n i k=k:=by
 unfold inO
 rw [Bd0 h,decide_eq_true (by omega)];rfl
def Bbu (ms:Bal) (os:List Bool) (i:Nat):Bool:=!Bam os i (Baj .b)&&Bil (Bam ms i (Baj Bat))
def Bdb (w fl i:Int):Bool:=(i==w)&&decide (fl>0)
def Bxs (ms:Bal) (os:List Bool) (i:Int):Bool:=decide (0≤i∧i<(os.length:Int)∧i<(ms.length:Int))
def lfB (f:Nat) (b:Bool) (x:GB):Tree (Bde (Bxr f)):=.leaf ⟨true,((b,()),x)⟩
def T_ro (f:Nat) (i:Int) (m:GM) (x:GB):Tree (Bde (Bxr f)):=inO (gmO m).length i (bif !Bam (gmO m) (Int.toNat i) (Baj .b) then inO (gmM m).length i (lfB f (Bil (Bam (gmM m) (Int.toNat i) (Baj Bat))) x) else lfB f false x)
abbrev C_ro (f:Nat) (g:(C4o f).T):Bool:=Bxs g.2.1.2.2.2.2.2.2.2.2.2.2.2.2.2.2.2.1 g.2.1.2.2.2.2.2.2.2.2.2.2.2.2.2.2.2.2.1 g.1.2.1
def V_ro (f:Nat) (g:(C4o f).T):(Bxr f true).T:=((Bbu g.2.1.2.2.2.2.2.2.2.2.2.2.2.2.2.2.2.1 g.2.1.2.2.2.2.2.2.2.2.2.2.2.2.2.2.2.2.1 (Int.toNat g.1.2.1),()),g.2)
def C_fl (f:Nat) (_:(C4o f).T):Bool:=true
def V_fl (f:Nat) (g:(C4o f).T):(Bxr f true).T:=((Bdb g.2.1.2.2.2.2.2.2.2.2.2.2.2.2.2.2.2.2.2.1 g.2.1.2.2.2.2.2.2.2.2.2.2.2.2.2.2.2.2.2.2.1 g.1.2.1,()),g.2)
def T_fl (f:Nat) (i:Int) (m:GM) (x:GB):Tree (Bde (Bxr f)):=bif i==gmW m then lfB f (decide (gmF m>0)) x else lfB f false x
theorem Bmj {f:Nat} (b:Bool):1000≤(Bxr f b).nx:=by cases b <;> exact Nat.le_refl _
theorem C9i {f:Nat} {g:(C4o f).T} (h:C_ro f g=true):(T_ro f g.1.2.1 g.2.1 g.2).run=some ⟨true,V_ro f g⟩:=by
 have hd:0≤g.1.2.1∧g.1.2.1<((gmO g.2.1).length:Int)∧g.1.2.1<((gmM g.2.1).length:Int):=of_decide_eq_true h
 unfold V_ro
 show (T_ro f g.1.2.1 g.2.1 g.2).run=some (⟨true,((Bbu (gmM g.2.1) (gmO g.2.1) (Int.toNat g.1.2.1),()),g.2)⟩:Bde (Bxr f))
 unfold T_ro Bbu
 rw [Be6 ⟨hd.1,hd.2.1⟩,Be6 ⟨hd.1,hd.2.2⟩]
 cases Bam (gmO g.2.1) (Int.toNat g.1.2.1) (Baj .b) <;> rfl
theorem C9j {f:Nat} {g:(C4o f).T}:(T_fl f g.1.2.1 g.2.1 g.2).run=some ⟨true,V_fl f g⟩:=by
 unfold V_fl
 show (T_fl f g.1.2.1 g.2.1 g.2).run=some (⟨true,((Bdb (gmW g.2.1) (gmF g.2.1) g.1.2.1,()),g.2)⟩:Bde (Bxr f))
 unfold T_fl Bdb
 cases g.1.2.1==gmW g.2.1 <;> rfl
abbrev sp_ro (f:Nat):Bao→Nat→List AV→Tree (Out×Bao×Nat):=Bj2 Bj9 (C4o f) (Bxr f) (D4r (fun g=>Bxs g.2.1.2.2.2.2.2.2.2.2.2.2.2.2.2.2.2.1 g.2.1.2.2.2.2.2.2.2.2.2.2.2.2.2.2.2.2.1 g.1.2.1) (V_ro f))
abbrev sp_fl (f:Nat):Bao→Nat→List AV→Tree (Out×Bao×Nat):=Bj2 Bj9 (C4o f) (Bxr f) (D4r (fun _=>true) (V_fl f))
theorem puGm:Bcd Tryz.prog plGm:=puOk_cons is_sOn.plain D1v (puOk_cons is_CellAt.plain Cnd (puOk_cons is_Slow.plain D7m (puOk_cons is_Step.plain D7k (puOk_cons is_Bump.plain D7l (puOk_cons is_Settle.plain Crd puS4)))))
noncomputable def Dek:Ctx:=ctx Tryz.prog plGm [(137,Tryz.f137),(98,Tryz.f98)]
theorem Bmk:CtxOk Dek:=Bas Bar puGm (fns_cons is_rolls (fns_cons is_flies V1))
theorem Bfe:Bbe Tryz.prog 137 (sp_ro 53):=Bqn Bmk 6 Bmj (C_ro 53) (V_ro 53) (fun g=>T_ro 53 g.1.2.1 g.2.1 g.2) (fun g=>by kernel_rfl) fun _ _ h=>C9i h
theorem Bff:Bbe Tryz.prog 98 (sp_fl 53):=Bqn Bmk 6 Bmj (C_fl 53) (V_fl 53) (fun g=>T_fl 53 g.1.2.1 g.2.1 g.2) (fun g=>by kernel_rfl) fun _ _ _=>C9j
theorem Bt2:Bbe Tryz.prog 137 (sp_ro 46):=Bqn Bmk 6 Bmj (C_ro 46) (V_ro 46) (fun g=>T_ro 46 g.1.2.1 g.2.1 g.2) (fun g=>by kernel_rfl) fun _ _ h=>C9i h
theorem Bt3:Bbe Tryz.prog 98 (sp_fl 46):=Bqn Bmk 6 Bmj (C_fl 46) (V_fl 46) (fun g=>T_fl 46 g.1.2.1 g.2.1 g.2) (fun g=>by kernel_rfl) fun _ _ _=>C9j
theorem Bfg:Bbe Tryz.prog 137 (sp_ro 107):=Bqn Bmk 6 Bmj (C_ro 107) (V_ro 107) (fun g=>T_ro 107 g.1.2.1 g.2.1 g.2) (fun g=>by kernel_rfl) fun _ _ h=>C9i h
theorem Bfh:Bbe Tryz.prog 98 (sp_fl 107):=Bqn Bmk 6 Bmj (C_fl 107) (V_fl 107) (fun g=>T_fl 107 g.1.2.1 g.2.1 g.2) (fun g=>by kernel_rfl) fun _ _ _=>C9j
end St
end V
end Go.Proofs.YtcfanlgpkefogaaGreat
namespace Go.Proofs.YtcfanlgpkefogaaGreat
open Go.RowKit
namespace V
def Bug {L:FLay} {E:Bool→FLay} {A:Type} (Y:L.T→Option (A⊕Int)) (mk:L.T→A→(E true).T) (pn:Int→(E false).T) (d:A) (g:L.T):Tree (Bde E) :=
 .br (isL (Y g)) (.leaf ⟨true,mk g (gL d (Y g))⟩) (.br (isR (Y g)) (.leaf ⟨false,pn (gR 0 (Y g))⟩) .fail)
def Bxt {L:FLay} {E:Bool→FLay} {A:Type} (mk:L.T→A→(E true).T) (pn:Int→(E false).T) (g:L.T):A⊕Int→Bde E
 | .inl a=>⟨true,mk g a⟩
 | .inr e=>⟨false,pn e⟩
theorem Co6 {L:FLay} {E:Bool→FLay} {A:Type} {Y:L.T→Option (A⊕Int)} {mk:L.T→A→(E true).T} {pn:Int→(E false).T} {d:A} {g:L.T} {R:Bde E→Prop} (h:(Bug Y mk pn d g).sat R):∃ z,Y g=some z∧R (Bxt mk pn g z):=by
 unfold Bug at h
 obtain ⟨h1,h2⟩:=h
 cases hF:Y g with
 | none =>
  rw [hF] at h2
  exact ((h2 rfl).2 rfl).elim
 | some z =>
  cases z with
  | inl a=>rw [hF] at h1;exact ⟨_,rfl,h1 rfl⟩
  | inr b=>rw [hF] at h2;exact ⟨_,rfl,(h2 rfl).1 rfl⟩
theorem Bi8 {X:Ctx} (hX:CtxOk X) {f:FuncId} (m:Nat) {probe:Bao→List AV→Option (List Nat)} {L:FLay} {E:Bool→FLay} (hE:∀ b,L.nx≤(E b).nx) {A:Type} (Y:L.T→Option (A⊕Int)) (mk:L.T→A→(E true).T) (pn:Int→(E false).T) (d:A) (T:L.T→Tree (Bde E))
  (he:∀ g,Blu X (Bcr X m) f (ofKs L.ks g.1 L.nx) (L.lay.hp g) (L.lay.of g).nx (Bsh E)=T g)
  (h:∀ g z,L.lay.WF g→Y g=some z→(T g).run=some (Bxt mk pn g z)):Bbe X.P f (Bj2 probe L E (Bug Y mk pn d)) :=
 C7b hX m hE fun g R hw hf=>by
  rw [he]
  obtain ⟨z,hz,hr⟩:=Co6 hf
  exact Bue (Tree.sat_run (h g z hw hz) hr) fun x hx _=>hx
namespace St
def nBx (m:GM):Nat:=(gmB m).length
def Cha (m:GM):Bool:=decide ((m.1.size:Int)≤Bb2 .i64)&&(decide ((gmM m).length=nBx m)&&(decide ((gmO m).length=nBx m)&&decide (nBx m≤8)))
structure OkGM (m:GM):Prop where
 sz:(m.1.size:Int)≤Bb2 .i64
 ms:(gmM m).length=nBx m
 os:(gmO m).length=nBx m
 n:nBx m≤8
theorem Bdo {m:GM}:Cha m=true ↔ OkGM m:=by
 unfold Cha
 simp only [Bool.and_eq_true,decide_eq_true_eq]
 exact ⟨fun h=>⟨h.1,h.2.1,h.2.2.1,h.2.2.2⟩,fun h=>⟨h.sz,h.ms,h.os,h.n⟩⟩
def FL_g (f:Nat):FLay:={ ks:=[.p 0 0 0 0],bs:=bsG f,nx:=1000 }
def Del (f:Nat):FLay:={ ks:=[],bs:=bsG f,nx:=1000 }
def FE_u (f:Nat) (b:Bool):FLay:=bif b then Del f else FN
theorem Bfy {f:Nat} (b:Bool):1000≤(FE_u f b).nx:=by cases b <;> exact Nat.le_refl _
def pnU (f:Nat) (e:Int):(FE_u f false).T:=((e,()),())
def mkU (f:Nat) (x:GB):(FE_u f true).T:=((),x)
def spG (f:Nat):List (Nat×(Bao→Nat→List AV→Tree (Out×Bao×Nat))):=[(137,sp_ro f),(98,sp_fl f)]
theorem Bjl {P:Program} {f g:Nat} {sp sq:Bao→Nat→List AV→Tree (Out×Bao×Nat)} (h:Plain P f) (k:Bbe P f sp) (h2:Plain P g) (k2:Bbe P g sq):∀ p ∈ [(f,sp),(g,sq)],Plain P p.1∧Bbe P p.1 p.2:=fun p hp=>by
 simp only [List.mem_cons,List.not_mem_nil,or_false] at hp
 rcases hp with rfl | rfl
 ·exact ⟨h,k⟩
 ·exact ⟨h2,k2⟩
theorem Bhs {P:Program} {fns:List (Nat×Func)}:∀ p ∈ fns,∀ d ∈ Bak (bodyOf p.2),∀ g,Bc4 ([]:List ((Nat×Nat)×(St→Tree (XE×St)))) p.1 (keyOf d)=some g→Baw P p.1 d g:=fun _ _ _ _ _ h=>by simp [Bc4] at h
noncomputable def Dem (f:Nat):Ctx:=Brf Tryz.prog plGm [(49,Tryz.f49)] [] (spG f)
theorem Cdg {f:Nat} (h1:Bbe Tryz.prog 137 (sp_ro f)) (h2:Bbe Tryz.prog 98 (sp_fl f)):CtxOk (Dem f):=Bfj Bar puGm (fns_cons is_must V1) Bhs (Bjl is_rolls.plain h1 is_flies.plain h2)
noncomputable def Co7:Code:=(Bak (bodyOf Tryz.f101)).getD 0 .skip
def Chb (f:Nat):Lay:={ keys:=[0,13,14],ks:=[.p 0 0 0 0,.d cI,.d cI],bs:=bsG f,n:=80,nx:=2000,marks:=[] }
def Den (f:Nat):Lay:={ keys:=[],ks:=[],bs:=bsG f,n:=80,nx:=2000,marks:=[] }
def Deo:Lay:={ keys:=[],ks:=[],bs:=[],n:=80,nx:=2000,marks:=[] }
def C9k (f:Nat):XE→Lay:=fun e=>match e with | .panic _=>Deo | _=>Den f
def Bi9 (l:TCT Ban) (m:TCT Bat):TCTs [cPt,cI]:=Bhf (W64 (m.2.1.1+(Bga l m.1).2.1)) (W64 (m.2.1.2.1+(Bga l m.1).2.2.1)) (Bga l m.1).1
def C4p (l:TCT Ban) (m:TCT Bat):TCT Bat:=(m.1,((Bi9 l m).1.1,(Bi9 l m).1.2.1,()),m.2.2.1,())
def Bag (ms:Bal) (i:Nat):TCT Bat:=Bam ms i (Baj Bat)
def gk (x:GB):Kns:=x.2.1.1
def Bnc (f:Nat) (x:GB) (n i:Int) (ms:Bal):(Chb f).T:=(((),n,i,()),(gb (gmU x.1 ms (gmO x.1)) (gk x)))
def Co8 (f:Nat) (x:GB) (ms:Bal):Fq (C9k f):=⟨.exit 0,((),(gb (gmU x.1 ms (gmO x.1)) (gk x)))⟩
def Co9 (f:Nat) (e:Int):Fq (C9k f):=⟨.panic (.ifc 49 (.int .i64 e)),((),())⟩
abbrev TSw (f:Nat):=Tree ((Chb f).T⊕Fq (C9k f))
def inT {β:Type} (n:Nat) (i:Int) (k:Tree β):Tree β:=bif decide (Int.toNat i<n) then k else .fail
theorem C9l {β:Type} {n:Nat} {i:Int} {k:Tree β} (h:0≤i∧i<(n:Int)):inT n i k=k:=by unfold inT;rw [decide_eq_true (by omega)];rfl
def Coa (f:Nat) (x:GB) (n i:Int) (ms:Bal):TSw f :=
 bif Be9 (gmL x.1) (Bag ms (Int.toNat i)).1 != 0 then .leaf (.inr (Co9 f (Be9 (gmL x.1) (Bag ms (Int.toNat i)).1))) else inT ms.length i (inT ms.length i (
  bif (Bi9 (gmL x.1) (Bag ms (Int.toNat i))).2.1 != 0 then .leaf (.inr (Co9 f 4)) else inT ms.length i (.leaf (.inl (Bnc f x n (W64 (i+1)) (Bba ms (Int.toNat i) (C4p (gmL x.1) (Bag ms (Int.toNat i)))))))))
def szG {β:Type} (m:GM) (k:Tree β):Tree β:=bif decide ((m.1.size:Int)≤Bb2 .i64) then k else .fail
def Buh (f:Nat) (x:GB) (n i:Int) (ms:Bal):TSw f:=bif decide (i<n) then bif Bxs ms (gmO x.1) i then
 bif !Bbu ms (gmO x.1) (Int.toNat i) then .leaf (.inl (Bnc f x n (W64 (i+1)) ms)) else bif Bdb (gmW x.1) (gmF x.1) i then .leaf (.inl (Bnc f x n (W64 (i+1)) ms)) else
 inO ms.length i (szG x.1 (Coa f x n i ms)) else .fail else .leaf (.inr (Co8 f x ms))
def Cob (f:Nat) (g:(Chb f).T):TSw f:=Buh f g.2 g.1.2.1 g.1.2.2.1 (gmM g.2.1)
def fu_sw (f:Nat) (g:(Chb f).T):Nat:=Int.toNat g.1.2.1+1
def sm_sw (f:Nat):St→Tree (XE×St):=Bav (Chb f) (C9k f) (finP 49 .i64 [.exit 0] (Cob f) (fu_sw f))
theorem Cdh {f:Nat} (e:XE):(Chb f).nx≤(C9k f e).nx:=by cases e <;> exact Nat.le_refl _
theorem D4s:Baw Tryz.prog 101 Co7 (sm_sw 53):=Bft (Cdg Bfe Bff) 7 _ _ _ Cdh _ _ _ _ (fu_sw 53) (fun g=>by kernel_rfl)
theorem D4t:Baw Tryz.prog 101 Co7 (sm_sw 107):=Bft (Cdg Bfg Bfh) 7 _ _ _ Cdh _ _ _ _ (fu_sw 107) (fun g=>by kernel_rfl)
def C4q (m:GM) (i:Nat) (ms:Bal):Bal⊕Int :=
 bif !Bbu ms (gmO m) i||Bdb (gmW m) (gmF m) i then .inl ms else bif Be9 (gmL m) (Bag ms i).1 != 0 then .inr (Be9 (gmL m) (Bag ms i).1) else
 bif (Bi9 (gmL m) (Bag ms i)).2.1 != 0 then .inr 4 else .inl (Bba ms i (C4p (gmL m) (Bag ms i)))
def Bui (f:Nat) (x:GB):Bal⊕Int→Fq (C9k f)
 | .inl ms=>Co8 f x ms
 | .inr e=>Co9 f e
theorem Bbd {α:Type}:∀ (l:List α) (i:Nat) (x:α),(Bba l i x).length=l.length
 | [],_,_=>rfl
 | _::_,0,_=>rfl
 | _::l,i+1,x=>by simp only [Bba,List.length_cons,Bbd l i x]
theorem Coc {m:GM} {n:Nat} (i:Nat) (s s':Bal) (_:i<n) (hi:s.length=n) (h:C4q m i s=.inl s'):s'.length=n:=by
 unfold C4q at h
 cases h1:!Bbu s (gmO m) i||Bdb (gmW m) (gmF m) i with
 | true=>rw [h1] at h;cases h;exact hi
 | false =>
  rw [h1] at h
  cases h2:Be9 (gmL m) (Bag s i).1 != 0 with
  | true=>rw [h2] at h;cases h
  | false =>
   rw [h2] at h
   cases h3:(Bi9 (gmL m) (Bag s i)).2.1 != 0 with
   | true=>rw [h3] at h;cases h
   | false=>rw [h3] at h;cases h;rw [Bbd];exact hi
theorem C17 {ms:Bal} {os:List Bool} {i n:Nat} (h:i<n) (h1:ms.length=n) (h2:os.length=n):Bxs ms os (i:Int)=true:=by
 unfold Bxs
 exact decide_eq_true (by omega)
theorem Daj {f:Nat} {x:GB} {ms:Bal} (hx:OkGM x.1) (hm:ms.length=nBx x.1):iter (Cob f) (nBx x.1+1) (Bnc f x (nBx x.1) 0 ms)=some (Bui f x (Bap (C4q x.1) 0 (nBx x.1) ms)):=by
 have hn:(nBx x.1:Int)≤Bb2 .i64:=by have:=hx.n;show (nBx x.1:Int)≤9223372036854775807;omega
 refine Bfx (nBx x.1) (fun i ms=>Bnc f x (nBx x.1) i ms) (C4q x.1) (Bui f x) (fun _ ms=>ms.length=nBx x.1) (fun i ms hi hl=>?_) Coc (fun ms hl=>?_) (nBx x.1) 0 ms (by omega) hm
 ·show (Buh f (gb (gmU x.1 ms (gmO x.1)) (gk x)) (nBx x.1) (i:Int) ms).run=_
  have e:∀ y z,Bnc f (gb (gmU x.1 ms (gmO x.1)) (gk x)) (nBx x.1) y z=Bnc f x (nBx x.1) y z:=fun _ _=>rfl
  unfold Buh
  have hin:=C17 hi hl hx.os
  show Tree.run (bif decide ((i:Int)<(nBx x.1:Int)) then bif Bxs ms (gmO x.1) (i:Int) then bif !Bbu ms (gmO x.1) i then .leaf (.inl (Bnc f x (nBx x.1) (W64 ((i:Int)+1)) ms)) else bif Bdb (gmW x.1) (gmF x.1) i then .leaf (.inl (Bnc f x (nBx x.1) (W64 ((i:Int)+1)) ms)) else
   inO ms.length i (szG x.1 (Coa f x (nBx x.1) i ms)) else .fail else .leaf (.inr (Co8 f x ms)):TSw f)=_
  have hsz:∀ k:TSw f,szG x.1 k=k:=fun k=>by unfold szG;rw [decide_eq_true hx.sz];rfl
  rw [decide_eq_true (show (i:Int)<(nBx x.1:Int) by omega),hin,Be6 (by omega),hsz,Bd9 hi hn]
  unfold C4q Coa
  rw [C9l (by omega),C9l (by omega),C9l (by omega),show Int.toNat (i:Int)=i from rfl,Bd9 hi hn]
  cases Bbu ms (gmO x.1) i with
  | false=>rfl
  | true =>
   cases Bdb (gmW x.1) (gmF x.1) i with
   | true=>rfl
   | false =>
    simp only [Bool.not_true,Bool.or_self,cond_true,cond_false]
    cases Be9 (gmL x.1) (Bag ms i).1 != 0 with
    | true=>rfl
    | false =>
     simp only [cond_false]
     cases (Bi9 (gmL x.1) (Bag ms i)).2.1 != 0 <;> rfl
 ·show (Buh f (gb (gmU x.1 ms (gmO x.1)) (gk x)) (nBx x.1) (nBx x.1) ms).run=_
  unfold Buh
  rw [decide_eq_false (show ¬ (nBx x.1:Int)<(nBx x.1:Int) by omega)]
  rfl
end St
end V
end Go.Proofs.YtcfanlgpkefogaaGreat
namespace Go.Proofs.YtcfanlgpkefogaaGreat
open Go.RowKit
namespace V
namespace St
noncomputable def Dep (f:Nat):Ctx:=Brf Tryz.prog plGm [(101,Tryz.f101)] [((101,1),sm_sw f)] (spG f)
theorem Cdi {f:Nat} (h1:Bbe Tryz.prog 137 (sp_ro f)) (h2:Bbe Tryz.prog 98 (sp_fl f)) (hl:Baw Tryz.prog 101 Co7 (sm_sw f)):CtxOk (Dep f) :=
 Bfj Bar puGm (fns_cons is_gslow V1) (Bc0 (by kernel_rfl) (by kernel_rfl) hl) (Bjl is_rolls.plain h1 is_flies.plain h2)
def Cod (f:Nat) (x:GB):Option (Fq (C9k f)):=iter (Cob f) (nBx x.1+1) (Bnc f x (nBx x.1) 0 (gmM x.1))
def T_slw (f:Nat) (x:GB):Tree (Bde (FE_u f)):=bif isP 49 .i64 (Cod f x) then .leaf ⟨false,pnU f (panO 49 .i64 (Cod f x)).1⟩ else bif isE (.exit 0) (Cod f x) then .leaf ⟨true,((),(Bc2 (.exit 0) (Cod f x)).2)⟩ else .fail
def Buj (x:GB):Option (Bal⊕Int):=bif Cha x.1 then some (Bap (C4q x.1) 0 (nBx x.1) (gmM x.1)) else none
def C9m (f:Nat) (x:GB) (ms:Bal):(FE_u f true).T:=mkU f (gb (gmU x.1 ms (gmO x.1)) (gk x))
abbrev sp_slw (f:Nat):Bao→Nat→List AV→Tree (Out×Bao×Nat):=Bj2 Bj9 (FL_g f) (FE_u f) (Bug (fun g:(FL_g f).T=>Buj g.2) (fun g=>C9m f g.2) (pnU f) [])
theorem Cdj {f:Nat} {g:(FL_g f).T} {z:Bal⊕Int} (h:Buj g.2=some z):(T_slw f g.2).run=some (Bxt (L:=FL_g f) (E:=FE_u f) (fun g=>C9m f g.2) (pnU f) g z):=by
 unfold Buj at h
 cases ho:Cha g.2.1 with
 | false=>rw [ho] at h;cases h
 | true =>
  rw [ho] at h
  cases h
  have hy:Cod f g.2=some (Bui f g.2 (Bap (C4q g.2.1) 0 (nBx g.2.1) (gmM g.2.1))):=Daj (Bdo.1 ho) (Bdo.1 ho).ms
  unfold T_slw
  rw [hy]
  cases Bap (C4q g.2.1) 0 (nBx g.2.1) (gmM g.2.1) with
  | inl ms=>rfl
  | inr e =>
   have h1:isP 49 .i64 (some (Bui f g.2 (.inr e)))=true:=Bme
   have h2:panO 49 .i64 (some (Bui f g.2 (.inr e)))=⟨e,((),())⟩:=Bi0
   rw [h1,h2]
   rfl
theorem Coe:Bbe Tryz.prog 101 (sp_slw 53):=Bi8 (Cdi Bfe Bff D4s) 6 Bfy _ _ _ _ (fun g=>T_slw 53 g.2) (fun g=>by kernel_rfl) fun _ _ _ h=>Cdj h
theorem Cof:Bbe Tryz.prog 101 (sp_slw 107):=Bi8 (Cdi Bfg Bfh D4t) 6 Bfy _ _ _ _ (fun g=>T_slw 107 g.2) (fun g=>by kernel_rfl) fun _ _ _ h=>Cdj h
end St
end V
end Go.Proofs.YtcfanlgpkefogaaGreat
namespace Go.Proofs.YtcfanlgpkefogaaGreat
open Go.RowKit
namespace V
theorem Bc8 {P:Program} {f:Nat} {fn:Func} {loops:List ((Nat×Nat)×(St→Tree (XE×St)))} (h:Bak (bodyOf fn)=[]):∀ d ∈ Bak (bodyOf fn),∀ g,Bc4 loops f (keyOf d)=some g→Baw P f d g:=by
 intro d hd
 rw [h] at hd
 cases hd
theorem Bgg {P:Program} {loops:List ((Nat×Nat)×(St→Tree (XE×St)))}:∀ q ∈ ([]:List (Nat×Func)),∀ d ∈ Bak (bodyOf q.2),∀ g,Bc4 loops q.1 (keyOf d)=some g→Baw P q.1 d g:=fun _ h=>nomatch h
theorem Bbg {P:Program} {f:Nat} {fn:Func} {rest:List (Nat×Func)} {loops:List ((Nat×Nat)×(St→Tree (XE×St)))} (h:∀ d ∈ Bak (bodyOf fn),∀ g,Bc4 loops f (keyOf d)=some g→Baw P f d g)
  (hr:∀ q ∈ rest,∀ d ∈ Bak (bodyOf q.2),∀ g,Bc4 loops q.1 (keyOf d)=some g→Baw P q.1 d g):∀ q ∈ (f,fn)::rest,∀ d ∈ Bak (bodyOf q.2),∀ g,Bc4 loops q.1 (keyOf d)=some g→Baw P q.1 d g:=by
 intro q hq
 rcases List.mem_cons.1 hq with rfl | hq
 ·exact h
 ·exact hr q hq
def D20 (P:Program) (f:Nat) (loops:List ((Nat×Nat)×(St→Tree (XE×St)))):List Code→Prop
 | []=>True
 | d::l=>(∀ g,Bc4 loops f (keyOf d)=some g→Baw P f d g)∧D20 P f loops l
theorem Blf {P:Program} {f:Nat} {fn:Func} {loops:List ((Nat×Nat)×(St→Tree (XE×St)))} {ds:List Code} (h:Bak (bodyOf fn)=ds) (ha:D20 P f loops ds):∀ d ∈ Bak (bodyOf fn),∀ g,Bc4 loops f (keyOf d)=some g→Baw P f d g:=by
 rw [h]
 clear h
 induction ds with
 | nil=>intro d hd;cases hd
 | cons a l ih =>
  intro d hd
  rcases List.mem_cons.1 hd with rfl | hd
  ·exact ha.1
  ·exact ih ha.2 d hd
theorem Bhm {P:Program} {f:Nat} {d:Code} {loops:List ((Nat×Nat)×(St→Tree (XE×St)))} {k:Nat} {s:St→Tree (XE×St)} (hk:keyOf d=k) (ha:Bc4 loops f k=some s) (h:Baw P f d s):∀ g,Bc4 loops f (keyOf d)=some g→Baw P f d g:=by
 intro g hg
 rw [hk,ha] at hg
 cases hg
 exact h
namespace St
noncomputable def Cdk:Code:=(Bak (bodyOf Tryz.f102)).getD 0 .skip
def Chc (f:Nat):Lay:={ keys:=[0,12,13,14],ks:=[.p 0 0 0 0,.d (.sl No),.d cI,.d cI],bs:=bsG f,n:=104,nx:=2000,marks:=[] }
def Deq (f:Nat):Lay:={ keys:=[0],ks:=[.p 0 0 0 0],bs:=bsG f,n:=104,nx:=2000,marks:=[] }
def Dak:Lay:={ keys:=[],ks:=[],bs:=[],n:=104,nx:=3000,marks:=[] }
def C4r (f:Nat):XE→Lay:=fun e=>match e with | .panic _=>Dak | _=>Deq f
def Bja (b:TCT No) (m:TCT Bat):TCTs [Bat,cI]:=Bhe (bm b m)
def Bch (bl:List (TCT No)) (i:Nat):TCT No:=Bam bl i (Baj No)
def Byt (f:Nat) (x:GB) (bl:List (TCT No)) (n i:Int) (ms:Bal):(Chc f).T:=(((),bl,n,i,()),(gb (gmU x.1 ms (gmO x.1)) (gk x)))
def Cog (f:Nat) (x:GB) (ms:Bal):Fq (C4r f):=⟨.exit 0,(((),()),(gb (gmU x.1 ms (gmO x.1)) (gk x)))⟩
def D21 (f:Nat) (e:Int):Fq (C4r f):=⟨.panic (.ifc 49 (.int .i64 e)),((),())⟩
abbrev TM1 (f:Nat):=Tree ((Chc f).T⊕Fq (C4r f))
def Coh (f:Nat) (x:GB) (bl:List (TCT No)) (n i:Int) (ms:Bal):TM1 f:=inO ms.length i (bif (Bja (Bch bl (Int.toNat i)) (Bag ms (Int.toNat i))).2.1 != 0 then .leaf (.inr (D21 f (Bja (Bch bl (Int.toNat i)) (Bag ms (Int.toNat i))).2.1)) else
 inO ms.length i (.leaf (.inl (Byt f x bl n (W64 (i+1)) (Bba ms (Int.toNat i) (Bja (Bch bl (Int.toNat i)) (Bag ms (Int.toNat i))).1)))))
def C9n (f:Nat) (x:GB) (bl:List (TCT No)) (n i:Int) (ms:Bal):TM1 f:=bif decide (i<n) then inN bl.length i (bif Bxs ms (gmO x.1) i then bif Bbu ms (gmO x.1) (Int.toNat i) then Coh f x bl n i ms else .leaf (.inl (Byt f x bl n (W64 (i+1)) ms)) else .fail) else .leaf (.inr (Cog f x ms))
def Coi (f:Nat) (g:(Chc f).T):TM1 f:=C9n f g.2 g.1.2.1 g.1.2.2.1 g.1.2.2.2.1 (gmM g.2.1)
def fu_m1 (f:Nat) (g:(Chc f).T):Nat:=Int.toNat g.1.2.2.1+1
def sm_m1 (f:Nat):St→Tree (XE×St):=Bav (Chc f) (C4r f) (finP 49 .i64 [.exit 0] (Coi f) (fu_m1 f))
theorem Cdl {f:Nat} (e:XE):(Chc f).nx≤(C4r f e).nx:=by cases e <;> first | exact Nat.le_refl _ | exact (by decide:(2000:Nat)≤3000)
def stE (bl:List (TCT No)) (os:List Bool) (i:Nat) (ms:Bal):Bal⊕Int:=bif !Bbu ms os i then .inl ms else bif (Bja (Bch bl i) (Bag ms i)).2.1 != 0 then .inr (Bja (Bch bl i) (Bag ms i)).2.1 else .inl (Bba ms i (Bja (Bch bl i) (Bag ms i)).1)
def Bqo (f:Nat) (x:GB):Bal⊕Int→Fq (C4r f)
 | .inl ms=>Cog f x ms
 | .inr e=>D21 f e
theorem C9o {bl:List (TCT No)} {os:List Bool} {n:Nat} (i:Nat) (s s':Bal) (_:i<n) (hi:s.length=n) (h:stE bl os i s=.inl s'):s'.length=n:=by
 unfold stE at h
 cases h1:!Bbu s os i with
 | true=>rw [h1] at h;cases h;exact hi
 | false =>
  rw [h1] at h
  cases h3:(Bja (Bch bl i) (Bag s i)).2.1 != 0 with
  | true=>rw [h3] at h;cases h
  | false=>rw [h3] at h;cases h;rw [Bbd];exact hi
theorem Dal {f:Nat} {x:GB} {ms:Bal} (hx:OkGM x.1) (hm:ms.length=nBx x.1):iter (Coi f) (nBx x.1+1) (Byt f x (gmB x.1) (nBx x.1) 0 ms)=some (Bqo f x (Bap (stE (gmB x.1) (gmO x.1)) 0 (nBx x.1) ms)):=by
 have hn:(nBx x.1:Int)≤Bb2 .i64:=by have:=hx.n;show (nBx x.1:Int)≤9223372036854775807;omega
 refine Bfx (nBx x.1) (fun i ms=>Byt f x (gmB x.1) (nBx x.1) i ms) (stE (gmB x.1) (gmO x.1)) (Bqo f x) (fun _ ms=>ms.length=nBx x.1) (fun i ms hi hl=>?_) C9o (fun ms hl=>?_) (nBx x.1) 0 ms (by omega) hm
 ·show Tree.run (bif decide ((i:Int)<(nBx x.1:Int)) then inN (nBx x.1) i (bif Bxs ms (gmO x.1) i then bif Bbu ms (gmO x.1) i then Coh f x (gmB x.1) (nBx x.1) i ms else .leaf (.inl (Byt f x (gmB x.1) (nBx x.1) (W64 ((i:Int)+1)) ms)) else .fail) else .leaf (.inr (Cog f x ms)):TM1 f)=_
  rw [decide_eq_true (show (i:Int)<(nBx x.1:Int) by omega),Bd0 (by omega),C17 hi hl hx.os,Bd9 hi hn]
  unfold stE Coh
  rw [Be6 (by omega),Be6 (by omega),show Int.toNat (i:Int)=i from rfl,Bd9 hi hn]
  cases Bbu ms (gmO x.1) i with
  | false=>rfl
  | true =>
   simp only [Bool.not_true,cond_true,cond_false]
   cases (Bja (Bch (gmB x.1) i) (Bag ms i)).2.1 != 0 <;> rfl
 ·show (C9n f (gb (gmU x.1 ms (gmO x.1)) (gk x)) (gmB x.1) (nBx x.1) (nBx x.1) ms).run=_
  unfold C9n
  rw [decide_eq_false (show ¬ (nBx x.1:Int)<(nBx x.1:Int) by omega)]
  rfl
noncomputable def Cdm:Code:=(Bak (bodyOf Tryz.f102)).getD 1 .skip
def Chd (f:Nat):Lay:={ keys:=[0,52,53],ks:=[.p 0 0 0 0,.d cI,.d cI],bs:=bsG f,n:=104,nx:=3000,marks:=[] }
def Der (f:Nat):Lay:={ keys:=[],ks:=[],bs:=bsG f,n:=104,nx:=3000,marks:=[] }
def C9p (f:Nat):XE→Lay:=fun e=>match e with | .panic _=>Dak | _=>Der f
abbrev S2:Type:=Bal×List Bool×Kns
def kn (t s k b o:Int):TCT cKn:=(t,s,k,b,o,())
def Cwg (m:TCT Bat):TCT Bat:=(m.1,(0,0,()),m.2.2.1,())
def Byu (f:Nat) (x:GB) (n i:Int) (s:S2):(Chd f).T:=(((),n,i,()),(gb (gmU x.1 s.1 s.2.1) s.2.2))
def Coj (f:Nat) (x:GB) (s:S2):Fq (C9p f):=⟨.exit 2,((),(gb (gmU x.1 s.1 s.2.1) s.2.2))⟩
abbrev TM2 (f:Nat):=Tree ((Chd f).T⊕Fq (C9p f))
def Che {β:Type} (ks:Kns) (k:TCT cKn) (t:Kns→Tree β):Tree β:=bif Bcs ks [k] 40 then t (ks++[k]) else .fail
def Buk (f:Nat) (x:GB) (n i:Int) (ms:Bal) (os:List Bool) (ks:Kns):TM2 f:=bif decide (i<n) then inO os.length i (bif !Bam os (Int.toNat i) (Baj .b) then inO ms.length i (
 bif !onB (gmL x.1) (Bag ms (Int.toNat i)).1 then inO os.length i (inO ms.length i (Che ks (kn (gmT x.1) (gmS x.1) 2 i 0) fun ks'=>.leaf (.inl (Byu f x n (W64 (i+1)) (Bba ms (Int.toNat i) (Cwg (Bag ms (Int.toNat i))),Bba os (Int.toNat i) true,ks')))))
 else .leaf (.inl (Byu f x n (W64 (i+1)) (ms,os,ks)))) else .leaf (.inl (Byu f x n (W64 (i+1)) (ms,os,ks)))) else .leaf (.inr (Coj f x (ms,os,ks)))
def Cok (f:Nat) (g:(Chd f).T):TM2 f:=Buk f g.2 g.1.2.1 g.1.2.2.1 (gmM g.2.1) (gmO g.2.1) (gk g.2)
def fu_m2 (f:Nat) (g:(Chd f).T):Nat:=Int.toNat g.1.2.1+1
def sm_m2 (f:Nat):St→Tree (XE×St):=Bav (Chd f) (C9p f) (Bcm [.exit 2] (Cok f) (fu_m2 f))
theorem Cdn {f:Nat} (e:XE):(Chd f).nx≤(C9p f e).nx:=by cases e <;> exact Nat.le_refl _
noncomputable def Des (f:Nat) (c:Nat×Func):Ctx:=Brf Tryz.prog plGm [(49,Tryz.f49),(100,Tryz.f100),c] [] (spG f)
theorem Bdp {f:Nat} {c:Nat×Func} (hc:FnIs Tryz.prog c) (h1:Bbe Tryz.prog 137 (sp_ro f)) (h2:Bbe Tryz.prog 98 (sp_fl f)):CtxOk (Des f c):=Bfj Bar puGm (fns_cons is_must (fns_cons is_knock (fns_cons hc V1))) Bhs (Bjl is_rolls.plain h1 is_flies.plain h2)
theorem D4u:Baw Tryz.prog 102 Cdk (sm_m1 53):=Bft (Bdp is_Tick1 Bfe Bff) 7 _ _ _ Cdl _ _ _ _ (fu_m1 53) (fun g=>by kernel_rfl)
theorem D4v:Baw Tryz.prog 102 Cdk (sm_m1 107):=Bft (Bdp is_run1 Bfg Bfh) 7 _ _ _ Cdl _ _ _ _ (fu_m1 107) (fun g=>by kernel_rfl)
theorem D4w:Baw Tryz.prog 102 Cdm (sm_m2 53):=Bb9 (Bdp is_Tick1 Bfe Bff) 7 _ _ _ Cdn _ _ (fu_m2 53) (fun g=>by kernel_rfl)
theorem D4x:Baw Tryz.prog 102 Cdm (sm_m2 107):=Bb9 (Bdp is_run1 Bfg Bfh) 7 _ _ _ Cdn _ _ (fu_m2 107) (fun g=>by kernel_rfl)
def lvE (l:TCT Ban) (t st:Int) (i:Nat) (s:S2):S2⊕Int:=bif !Bam s.2.1 i (Baj .b) then bif !onB l (Bag s.1 i).1 then .inl (Bba s.1 i (Cwg (Bag s.1 i)),Bba s.2.1 i true,s.2.2++[kn t st 2 i 0]) else .inl s else .inl s
def C9q (f:Nat) (x:GB):S2⊕Int→Fq (C9p f)
 | .inl s=>Coj f x s
 | .inr _=>Coj f x ([],[],[])
structure Inv2 (n k:Nat) (i:Nat) (s:S2):Prop where
 m:s.1.length=n
 o:s.2.1.length=n
 k:s.2.2.length≤k+i
theorem Col {l:TCT Ban} {t st:Int} {n k:Nat} (i:Nat) (s s':S2) (_:i<n) (hi:Inv2 n k i s) (h:lvE l t st i s=.inl s'):Inv2 n k (i+1) s':=by
 unfold lvE at h
 have hk:=hi.k
 cases h1:!Bam s.2.1 i (Baj .b) with
 | false=>rw [h1] at h;cases h;exact ⟨hi.m,hi.o,by omega⟩
 | true =>
  rw [h1] at h
  cases h3:!onB l (Bag s.1 i).1 with
  | false=>rw [h3] at h;cases h;exact ⟨hi.m,hi.o,by omega⟩
  | true=>rw [h3] at h;cases h;exact ⟨by rw [Bbd];exact hi.m,by rw [Bbd];exact hi.o,by simp;omega⟩
theorem Dam {f:Nat} {x:GB} {s:S2} {n k:Nat} (hn8:n≤8) (hk:k≤900000) (hs:Inv2 n k 0 s):iter (Cok f) (n+1) (Byu f x n 0 s)=some (C9q f x (Bap (lvE (gmL x.1) (gmT x.1) (gmS x.1)) 0 n s)):=by
 have hn:(n:Int)≤Bb2 .i64:=by show (n:Int)≤9223372036854775807;omega
 refine Bfx n (fun i s=>Byu f x n i s) (lvE (gmL x.1) (gmT x.1) (gmS x.1)) (C9q f x) (Inv2 n k) (fun i s hi hl=>?_) Col (fun s hl=>?_) n 0 s (by omega) hs
 ·show (Buk f (gb (gmU x.1 s.1 s.2.1) s.2.2) n i s.1 s.2.1 s.2.2).run=_
  unfold Buk lvE Che
  have h1:=hl.m
  have h2:=hl.o
  have h3:=hl.k
  rw [decide_eq_true (show (i:Int)<(n:Int) by omega),Be6 (by omega),Be6 (by omega),Be6 (by omega),Be6 (by omega),show Int.toNat (i:Int)=i from rfl,Bd9 hi hn,Bi7 (by simp;omega) (by decide)]
  cases Bam s.2.1 i (Baj .b) with
  | true=>rfl
  | false =>
   show (bif !onB (gmL x.1) (Bag s.1 i).1 then _ else _:TM2 f).run=_
   simp only [Bool.not_false,cond_true]
   cases onB (gmL x.1) (Bag s.1 i).1 <;> rfl
 ·show (Buk f (gb (gmU x.1 s.1 s.2.1) s.2.2) n n s.1 s.2.1 s.2.2).run=_
  unfold Buk
  rw [decide_eq_false (show ¬ (n:Int)<(n:Int) by omega)]
  rfl
end St
end V
end Go.Proofs.YtcfanlgpkefogaaGreat
namespace Go.Proofs.YtcfanlgpkefogaaGreat
open Go.RowKit
namespace V
theorem Bqp {S B:Type} {f:Nat→S→S⊕B} (h:∀ i s,∃ s',f i s=.inl s'):∀ (k i:Nat) (s:S),∃ s',Bap f i k s=.inl s'
 | 0,_,s=>⟨s,rfl⟩
 | k+1,i,s=>by
  obtain ⟨s',hs⟩:=h i s
  unfold Bap
  rw [hs]
  exact Bqp h k (i+1) s'
namespace St
theorem Cdo {l:TCT Ban} {t st:Int} (i:Nat) (s:S2):∃ s',lvE l t st i s=.inl s':=by
 unfold lvE
 cases !Bam s.2.1 i (Baj .b) with
 | false=>exact ⟨_,rfl⟩
 | true=>cases !onB l (Bag s.1 i).1 <;> exact ⟨_,rfl⟩
noncomputable def Det (f:Nat):Ctx:=Brf Tryz.prog plGm [(102,Tryz.f102)] [((102,1),sm_m1 f),((102,9),sm_m2 f)] (spG f)
theorem Cdp {f:Nat} (h1:Bbe Tryz.prog 137 (sp_ro f)) (h2:Bbe Tryz.prog 98 (sp_fl f)) (hl:Baw Tryz.prog 102 Cdk (sm_m1 f)) (hm:Baw Tryz.prog 102 Cdm (sm_m2 f)):CtxOk (Det f) :=
 Bfj Bar puGm (fns_cons is_gmove V1) (Bbg (Blf (ds:=[Cdk,Cdm]) (by kernel_rfl) ⟨Bhm (k:=1) (by kernel_rfl) rfl hl,Bhm (k:=9) (by kernel_rfl) rfl hm,trivial⟩) Bgg) (Bjl is_rolls.plain h1 is_flies.plain h2)
def mvF (bl:List (TCT No)) (l:TCT Ban) (t st:Int) (n:Nat) (s:S2):S2⊕Int:=match Bap (stE bl s.2.1) 0 n s.1 with
 | .inl ms=>Bap (lvE l t st) 0 n (ms,s.2.1,s.2.2)
 | .inr e=>.inr e
def gs (x:GB):S2:=(gmM x.1,gmO x.1,gk x)
def Dan (f:Nat) (x:GB):Option (Fq (C4r f)):=iter (Coi f) (nBx x.1+1) (Byt f x (gmB x.1) (nBx x.1) 0 (gmM x.1))
def D4y (f:Nat) (x:GB):Option (Fq (C9p f)):=iter (Cok f) (nBx x.1+1) (Byu f x (nBx x.1) 0 (gs x))
abbrev TU (f:Nat):=Tree (Bde (FE_u f))
def D22 (f:Nat) (y:Option (Fq (C9p f))):TU f:=bif isE (.exit 2) y then .leaf ⟨true,((),(Bc2 (.exit 2) y).2)⟩ else .fail
def Con (f:Nat) (y:Option (Fq (C4r f))):TU f:=bif isP 49 .i64 y then .leaf ⟨false,pnU f (panO 49 .i64 y).1⟩ else bif isE (.exit 0) y then D22 f (D4y f (Bc2 (.exit 0) y).2) else .fail
def T_mv (f:Nat) (x:GB):TU f:=Con f (Dan f x)
def Bn8 (x:GB):Bool:=Cha x.1&&decide ((gk x).length≤900000)
def C4s (x:GB):Option (S2⊕Int):=bif Bn8 x then some (mvF (gmB x.1) (gmL x.1) (gmT x.1) (gmS x.1) (nBx x.1) (gs x)) else none
def Coo (f:Nat) (x:GB) (s:S2):(FE_u f true).T:=mkU f (gb (gmU x.1 s.1 s.2.1) s.2.2)
abbrev sp_mv (f:Nat):Bao→Nat→List AV→Tree (Out×Bao×Nat):=Bj2 Bj9 (FL_g f) (FE_u f) (Bug (fun g:(FL_g f).T=>C4s g.2) (fun g=>Coo f g.2) (pnU f) ([],[],[]))
theorem Bul {x:GB} (h:Bn8 x=true):OkGM x.1∧(gk x).length≤900000:=by
 unfold Bn8 at h
 simp only [Bool.and_eq_true,decide_eq_true_eq] at h
 exact ⟨Bdo.1 h.1,h.2⟩
theorem Cop {f:Nat} {g:(FL_g f).T} {z:S2⊕Int} (h:C4s g.2=some z):(T_mv f g.2).run=some (Bxt (L:=FL_g f) (E:=FE_u f) (fun g=>Coo f g.2) (pnU f) g z):=by
 unfold C4s at h
 cases ho:Bn8 g.2 with
 | false=>rw [ho] at h;cases h
 | true =>
  rw [ho] at h
  cases h
  obtain ⟨hg,hk⟩:=Bul ho
  have hy:Dan f g.2=some (Bqo f g.2 (Bap (stE (gmB g.2.1) (gmO g.2.1)) 0 (nBx g.2.1) (gmM g.2.1))):=Dal hg hg.ms
  unfold T_mv mvF
  rw [hy]
  show (Con f (some (Bqo f g.2 (Bap (stE (gmB g.2.1) (gmO g.2.1)) 0 (nBx g.2.1) (gmM g.2.1))))).run=some (Bxt (L:=FL_g f) (E:=FE_u f) (fun g=>Coo f g.2) (pnU f) g (match Bap (stE (gmB g.2.1) (gmO g.2.1)) 0 (nBx g.2.1) (gmM g.2.1) with
   | .inl ms=>Bap (lvE (gmL g.2.1) (gmT g.2.1) (gmS g.2.1)) 0 (nBx g.2.1) (ms,gmO g.2.1,gk g.2)
   | .inr e=>.inr e))
  cases h1:Bap (stE (gmB g.2.1) (gmO g.2.1)) 0 (nBx g.2.1) (gmM g.2.1) with
  | inr e =>
   have h1:isP 49 .i64 (some (Bqo f g.2 (.inr e)))=true:=Bme
   have h2:panO 49 .i64 (some (Bqo f g.2 (.inr e)))=⟨e,((),())⟩:=Bi0
   unfold Con
   rw [h1,h2]
   rfl
  | inl ms =>
   have hms:ms.length=nBx g.2.1:=Bay (n:=nBx g.2.1) (Inv:=fun _ (s:Bal)=>s.length=nBx g.2.1) C9o (nBx g.2.1) 0 _ _ (by omega) hg.ms h1
   have hz:D4y f (gb (gmU g.2.1 ms (gmO g.2.1)) (gk g.2))=some (C9q f (gb (gmU g.2.1 ms (gmO g.2.1)) (gk g.2)) (Bap (lvE (gmL g.2.1) (gmT g.2.1) (gmS g.2.1)) 0 (nBx g.2.1) (ms,gmO g.2.1,gk g.2))) :=
    Dam (n:=nBx g.2.1) (x:=gb (gmU g.2.1 ms (gmO g.2.1)) (gk g.2)) (s:=(ms,gmO g.2.1,gk g.2)) (k:=(gk g.2).length) hg.n hk ⟨hms,hg.os,by simp⟩
   show (D22 f (D4y f (gb (gmU g.2.1 ms (gmO g.2.1)) (gk g.2)))).run=some (Bxt (L:=FL_g f) (E:=FE_u f) (fun g=>Coo f g.2) (pnU f) g (Bap (lvE (gmL g.2.1) (gmT g.2.1) (gmS g.2.1)) 0 (nBx g.2.1) (ms,gmO g.2.1,gk g.2)))
   rw [hz]
   obtain ⟨s',hs'⟩:=Bqp (Cdo (l:=gmL g.2.1) (t:=gmT g.2.1) (st:=gmS g.2.1)) (nBx g.2.1) 0 (ms,gmO g.2.1,gk g.2)
   rw [hs']
   rfl
theorem Cwh:Bbe Tryz.prog 102 (sp_mv 53):=Bi8 (Cdp Bfe Bff D4u D4w) 6 Bfy _ _ _ _ (fun g=>T_mv 53 g.2) (fun g=>by kernel_rfl) fun _ _ _ h=>Cop h
theorem Cwi:Bbe Tryz.prog 102 (sp_mv 107):=Bi8 (Cdp Bfg Bfh D4v D4x) 6 Bfy _ _ _ _ (fun g=>T_mv 107 g.2) (fun g=>by kernel_rfl) fun _ _ _ h=>Cop h
end St
end V
end Go.Proofs.YtcfanlgpkefogaaGreat
namespace Go.Proofs.YtcfanlgpkefogaaGreat
open Go.RowKit
namespace V
def Bqq (n:Nat) (p:TCT Bek):Prop:=0≤p.1∧p.1<p.2.1∧p.2.1<(n:Int)
theorem Coq {l:List (TCT No)} {re dr:Int} {i k n:Nat} {s s':SS} (h:Bds l re dr i k s=some s') (hik:i<k) (hk:k<n) (hs:∀ p ∈ s.2,Bqq n p):∀ p ∈ s'.2,Bqq n p:=by
 unfold Bds at h
 cases h1:(Bbi (bAt l s.1 i) (bAt l s.1 k) re dr).2.2.1==0 with
 | true =>
  rw [h1] at h
  simp only [cond_true,Option.some.injEq] at h
  subst h
  intro p hp
  rcases List.mem_append.1 hp with hp | hp
  ·exact hs p hp
  ·rw [List.mem_singleton] at hp
   subst hp
   exact ⟨Int.natCast_nonneg i,Int.ofNat_lt.2 hik,Int.ofNat_lt.2 hk⟩
 | false =>
  rw [h1,cond_false] at h
  cases h2:(Bbi (bAt l s.1 i) (bAt l s.1 k) re dr).2.2.1==4 with
  | true=>rw [h2] at h;simp at h
  | false=>rw [h2] at h;simp only [cond_false,Option.some.injEq] at h;subst h;exact hs
theorem Cor {l:List (TCT No)} {re dr:Int} {i n:Nat}:∀ (f k:Nat) (s s':SS),inR l re dr i f k s=some s'→i<k→k+f≤n→(∀ p ∈ s.2,Bqq n p)→∀ p ∈ s'.2,Bqq n p
 | 0,k,s,s',h,_,_,hs=>by rw [inR,Option.some.injEq] at h;subst h;exact hs
 | f+1,k,s,s',h,hik,hk,hs=>by
  rw [inR] at h
  cases h1:Bds l re dr i k s with
  | none=>rw [h1] at h;simp at h
  | some s1 =>
   rw [h1,Option.bind_some] at h
   exact Cor f (k+1) s1 s' h (by omega) (by omega) (Coq h1 hik (by omega) hs)
theorem Cdq {l:List (TCT No)} {re dr:Int}:∀ (f i:Nat) (s s':SS),Bfk l re dr f i s=some s'→i+f=l.length→(∀ p ∈ s.2,Bqq l.length p)→(∀ p ∈ s'.2,Bqq l.length p)∧s'.1.length=s.1.length∧s'.2.length≤s.2.length+f*l.length
 | 0,i,s,s',h,_,hs=>by rw [Bjp,Option.some.injEq] at h;subst h;exact ⟨hs,rfl,by omega⟩
 | f+1,i,s,s',h,hi,hs=>by
  rw [Bhu] at h
  cases h1:inR l re dr i (l.length-(i+1)) (i+1) s with
  | none=>rw [h1] at h;simp at h
  | some s1 =>
   rw [h1,Option.bind_some] at h
   have a:=Cfa _ _ _ _ h1
   have b:=Cdq f (i+1) s1 s' h (by omega) (Cor _ _ _ _ h1 (by omega) (by omega) hs)
   refine ⟨b.1,b.2.1.trans a.1,?_⟩
   have e:(f+1)*l.length=f*l.length+l.length:=Nat.succ_mul f l.length
   omega
theorem Chf {l:List (TCT No)} {s:List (TCT Bat)} {re dr:Int} (h:(Bbn l s re dr).2.2.1=0) (hl:l.length≤8):(Bbn l s re dr).1.length=s.length∧(Bbn l s re dr).2.1.length≤64∧∀ p ∈ (Bbn l s re dr).2.1,Bqq l.length p:=by
 unfold Bbn at h ⊢
 cases h1:Bjd l s != 0 with
 | true=>rw [h1,cond_true] at h;exact absurd h (bne_iff_ne.1 h1)
 | false =>
  rw [h1,cond_false] at h
  simp only [cond_false]
  cases h2:!Be3 re dr with
  | true=>rw [h2] at h;cases h
  | false =>
   rw [h2,cond_false] at h
   simp only [cond_false]
   cases h3:Bfk l re dr l.length 0 (s,[]) with
   | none=>rw [h3] at h;cases h
   | some s' =>
    have a:=Cdq _ _ _ _ h3 (by omega) (fun p hp=>nomatch hp)
    refine ⟨a.2.1,?_,a.1⟩
    have b:s'.2.length≤0+l.length*l.length:=a.2.2
    have c:l.length*l.length≤8*8:=Nat.mul_le_mul hl hl
    show s'.2.length≤64
    omega
end V
end Go.Proofs.YtcfanlgpkefogaaGreat
namespace Go.Proofs.YtcfanlgpkefogaaGreat
open Go.RowKit
namespace V
def unE {S:Type}:S⊕Empty→S
 | .inl s=>s
 | .inr e=>nomatch e
theorem Bgh {S:Type} (x:S⊕Empty):x=.inl (unE x):=by
 cases x with
 | inl s=>rfl
 | inr e=>exact nomatch e
namespace St
abbrev kI:SK:=.o 3 cI
abbrev kBa:SK:=.o 70 No
abbrev kMo:SK:=.o 60 Bat
noncomputable def C4t:Code:=(Bak (bodyOf Tryz.f50)).getD 0 .skip
noncomputable def C4u:Code:=(Bak (bodyOf Tryz.f50)).getD 1 .skip
noncomputable def C4v:Code:=(Bak (bodyOf Tryz.f50)).getD 2 .skip
def Chg (f:Nat):Lay:={ keys:=[0,2,3,4,18,19,20],ks:=[.p 0 0 0 0,kI,kBa,kMo,.d (.sl No),.d cI,.d cI],bs:=bsG f,n:=113,nx:=2000,marks:=[] }
def Deu (f:Nat):Lay:={ keys:=[0,2,3,4],ks:=[.p 0 0 0 0,kI,kBa,kMo],bs:=bsG f,n:=113,nx:=2000,marks:=[] }
def C9r (f:Nat):XE→Lay:=fun _=>Deu f
abbrev GA:Type:=List Int×List (TCT No)×Bal
def Bp5 (f:Nat) (x:GB) (bl:List (TCT No)) (n i:Int) (s:GA):(Chg f).T:=(((),s.1,s.2.1,s.2.2,bl,n,i,()),x)
def C4w (f:Nat) (x:GB) (s:GA):Fq (C9r f):=⟨.exit 0,(((),s.1,s.2.1,s.2.2,()),x)⟩
abbrev TS1 (f:Nat):=Tree ((Chg f).T⊕Fq (C9r f))
def ap8 {β:Type} (w:List Int) (i:Int) (k:Tree β):Tree β:=bif Bcs w [i] 8 then k else .fail
def Cwj {β:Type} (w:List (TCT No)) (i:TCT No) (k:Tree β):Tree β:=bif Bcs w [i] 16 then k else .fail
def Cwk {β:Type} (w:Bal) (i:TCT Bat) (k:Tree β):Tree β:=bif Bcs w [i] 48 then k else .fail
theorem D4z {β:Type} {w:List Int} {i:Int} {k:Tree β} (h:w.length≤1000):ap8 w i k=k:=by unfold ap8;rw [Bi7 (by simp;omega) (by decide)];rfl
theorem Cwl {β:Type} {w:List (TCT No)} {i:TCT No} {k:Tree β} (h:w.length≤1000):Cwj w i k=k:=by unfold Cwj;rw [Bi7 (by simp;omega) (by decide)];rfl
theorem Cwm {β:Type} {w:Bal} {i:TCT Bat} {k:Tree β} (h:w.length≤1000):Cwk w i k=k:=by unfold Cwk;rw [Bi7 (by simp;omega) (by decide)];rfl
def ga1 (i:Int) (b:TCT No) (m:TCT Bat) (s:GA):GA:=(s.1++[i],s.2.1++[b],s.2.2++[m])
def C9s (f:Nat) (x:GB) (bl:List (TCT No)) (n i:Int) (s:GA):TS1 f:=bif decide (i<n) then inN bl.length i (inO (gmO x.1).length i (
 bif !Bam (gmO x.1) (Int.toNat i) (Baj .b) then bif !Bdb (gmW x.1) (gmF x.1) i then inO (gmM x.1).length i (ap8 s.1 i (Cwj s.2.1 (Bch bl (Int.toNat i)) (Cwk s.2.2 (Bag (gmM x.1) (Int.toNat i))
  (.leaf (.inl (Bp5 f x bl n (W64 (i+1)) (ga1 i (Bch bl (Int.toNat i)) (Bag (gmM x.1) (Int.toNat i)) s)))))))
 else .leaf (.inl (Bp5 f x bl n (W64 (i+1)) s)) else .leaf (.inl (Bp5 f x bl n (W64 (i+1)) s)))) else .leaf (.inr (C4w f x s))
def Cos (f:Nat) (g:(Chg f).T):TS1 f:=C9s f g.2 g.1.2.2.2.2.1 g.1.2.2.2.2.2.1 g.1.2.2.2.2.2.2.1 (g.1.2.1,g.1.2.2.1,g.1.2.2.2.1)
def fu_s1 (f:Nat) (g:(Chg f).T):Nat:=Int.toNat g.1.2.2.2.2.2.1+1
def sm_s1 (f:Nat):St→Tree (XE×St):=Bav (Chg f) (C9r f) (Bcm [.exit 0] (Cos f) (fu_s1 f))
theorem C18 {f:Nat} (e:XE):(Chg f).nx≤(C9r f e).nx:=Nat.le_refl _
def gaE (bl:List (TCT No)) (ms:Bal) (os:List Bool) (w fl:Int) (i:Nat) (s:GA):GA⊕Empty:=.inl (bif !Bam os i (Baj .b)&&!Bdb w fl i then ga1 i (Bch bl i) (Bag ms i) s else s)
def gaV (bl:List (TCT No)) (w fl:Int) (n:Nat) (ms:Bal) (os:List Bool):GA:=unE (Bap (gaE bl ms os w fl) 0 n ([],[],[]))
structure InvG (n i:Nat) (s:GA):Prop where
 b:s.2.1.length=s.1.length
 m:s.2.2.length=s.1.length
 k:s.1.length≤i
 r:∀ w ∈ s.1,0≤w∧w<(n:Int)
theorem C9t {bl:List (TCT No)} {ms:Bal} {os:List Bool} {w fl:Int} {n:Nat} (i:Nat) (s s':GA) (hi:i<n) (h:InvG n i s) (h2:gaE bl ms os w fl i s=.inl s'):InvG n (i+1) s':=by
 unfold gaE at h2
 have hb:=h.b
 have hm:=h.m
 have hk:=h.k
 cases hc:!Bam os i (Baj .b)&&!Bdb w fl i with
 | false =>
  rw [hc] at h2
  simp only [cond_false,Sum.inl.injEq] at h2
  subst h2
  exact ⟨hb,hm,by omega,h.r⟩
 | true =>
  rw [hc] at h2
  simp only [cond_true,Sum.inl.injEq] at h2
  subst h2
  refine ⟨by simp [ga1,hb],by simp [ga1,hm],by simp [ga1];omega,fun v hv=>?_⟩
  rcases List.mem_append.1 hv with hv | hv
  ·exact h.r v hv
  ·rw [List.mem_singleton] at hv;subst hv;omega
theorem Cdr {bl:List (TCT No)} {w fl:Int} {n:Nat} {ms:Bal} {os:List Bool}:InvG n n (gaV bl w fl n ms os) :=
 Bay (n:=n) (Inv:=InvG n) C9t n 0 _ _ (by omega) ⟨rfl,rfl,Nat.le_refl _,fun _ h=>absurd h List.not_mem_nil⟩ (Bgh (Bap (gaE bl ms os w fl) 0 n ([],[],[])))
def D50 (f:Nat) (x:GB) (r:GA⊕Empty):Fq (C9r f):=C4w f x (unE r)
theorem Dao {f:Nat} {x:GB} (hx:OkGM x.1):iter (Cos f) (nBx x.1+1) (Bp5 f x (gmB x.1) (nBx x.1) 0 ([],[],[]))=some (C4w f x (gaV (gmB x.1) (gmW x.1) (gmF x.1) (nBx x.1) (gmM x.1) (gmO x.1))):=by
 have hn8:=hx.n
 have hos:=hx.os
 have hms:=hx.ms
 have hn:(nBx x.1:Int)≤Bb2 .i64:=by show (nBx x.1:Int)≤9223372036854775807;omega
 refine Bfx (nBx x.1) (fun i s=>Bp5 f x (gmB x.1) (nBx x.1) i s) (gaE (gmB x.1) (gmM x.1) (gmO x.1) (gmW x.1) (gmF x.1)) (D50 f x) (InvG (nBx x.1)) (fun i s hi hl=>?_) C9t (fun s hl=>?_) (nBx x.1) 0 ([],[],[]) (by omega) ⟨rfl,rfl,Nat.le_refl _,fun _ h=>absurd h List.not_mem_nil⟩
 ·show Tree.run (bif decide ((i:Int)<(nBx x.1:Int)) then inN (nBx x.1) i (inO (gmO x.1).length i (
   bif !Bam (gmO x.1) i (Baj .b) then bif !Bdb (gmW x.1) (gmF x.1) i then inO (gmM x.1).length i (ap8 s.1 i (Cwj s.2.1 (Bch (gmB x.1) i) (Cwk s.2.2 (Bag (gmM x.1) i)
    (.leaf (.inl (Bp5 f x (gmB x.1) (nBx x.1) (W64 (i+1)) (ga1 i (Bch (gmB x.1) i) (Bag (gmM x.1) i) s)))))))
   else .leaf (.inl (Bp5 f x (gmB x.1) (nBx x.1) (W64 (i+1)) s)) else .leaf (.inl (Bp5 f x (gmB x.1) (nBx x.1) (W64 (i+1)) s)))) else .leaf (.inr (C4w f x s)):TS1 f)=_
  have h1:=hl.b
  have h2:=hl.m
  have h3:=hl.k
  rw [decide_eq_true (show (i:Int)<(nBx x.1:Int) by omega),Bd0 (by omega),Be6 (by omega),Be6 (by omega),D4z (by omega),Cwl (by omega),Cwm (by omega),Bd9 hi hn]
  unfold gaE
  cases Bam (gmO x.1) i (Baj .b) with
  | true=>rfl
  | false=>cases Bdb (gmW x.1) (gmF x.1) i <;> rfl
 ·show (C9s f x (gmB x.1) (nBx x.1) (nBx x.1) s).run=_
  unfold C9s
  rw [decide_eq_false (show ¬ (nBx x.1:Int)<(nBx x.1:Int) by omega)]
  rfl
def Chh (f:Nat):Lay:={ keys:=[0,2,4,7,75,76,77],ks:=[.p 0 0 0 0,.d (.sl cI),.d (.sl Bat),.d (.sl Bek),.d (.sl cI),.d cI,.d cI],bs:=bsG f,n:=113,nx:=3000,marks:=[] }
def Dev (f:Nat):Lay:={ keys:=[0,2,7],ks:=[.p 0 0 0 0,.d (.sl cI),.d (.sl Bek)],bs:=bsG f,n:=113,nx:=3000,marks:=[] }
def C9u (f:Nat):XE→Lay:=fun _=>Dev f
abbrev Prs:Type:=List (TCT Bek)
def Cds (f:Nat) (x:GB) (W:List Int) (M:Bal) (P:Prs) (W2:List Int) (n i:Int) (ms:Bal):(Chh f).T:=(((),W,M,P,W2,n,i,()),gb (gmU x.1 ms (gmO x.1)) (gk x))
def Cot (f:Nat) (x:GB) (W:List Int) (P:Prs) (ms:Bal):Fq (C9u f):=⟨.exit 2,(((),W,P,()),gb (gmU x.1 ms (gmO x.1)) (gk x))⟩
abbrev TS2 (f:Nat):=Tree ((Chh f).T⊕Fq (C9u f))
def Bum (f:Nat) (x:GB) (W:List Int) (M:Bal) (P:Prs) (W2:List Int) (n i:Int) (ms:Bal):TS2 f:=bif decide (i<n) then inN W2.length i (inN M.length i (inO ms.length (Bam W2 (Int.toNat i) (Baj cI)) (
 .leaf (.inl (Cds f x W M P W2 n (W64 (i+1)) (Bba ms (Int.toNat (Bam W2 (Int.toNat i) (Baj cI))) (Bag M (Int.toNat i)))))))) else .leaf (.inr (Cot f x W P ms))
def Cou (f:Nat) (g:(Chh f).T):TS2 f:=Bum f g.2 g.1.2.1 g.1.2.2.1 g.1.2.2.2.1 g.1.2.2.2.2.1 g.1.2.2.2.2.2.1 g.1.2.2.2.2.2.2.1 (gmM g.2.1)
def fu_s2 (f:Nat) (g:(Chh f).T):Nat:=Int.toNat g.1.2.2.2.2.2.1+1
def sm_s2 (f:Nat):St→Tree (XE×St):=Bav (Chh f) (C9u f) (Bcm [.exit 2] (Cou f) (fu_s2 f))
theorem C19 {f:Nat} (e:XE):(Chh f).nx≤(C9u f e).nx:=Nat.le_refl _
def scE (W:List Int) (M:Bal) (i:Nat) (ms:Bal):Bal⊕Empty:=.inl (Bba ms (Int.toNat (Bam W i (Baj cI))) (Bag M i))
def scV (W:List Int) (M ms:Bal):Bal:=unE (Bap (scE W M) 0 W.length ms)
theorem Cov {W:List Int} {M:Bal} {n k:Nat} (i:Nat) (s s':Bal) (_:i<n) (h:s.length=k) (h2:scE W M i s=.inl s'):s'.length=k:=by
 cases h2
 rw [Bbd];exact h
theorem Cdt {W:List Int} {M ms:Bal}:(scV W M ms).length=ms.length :=
 Bay (n:=W.length) (Inv:=fun _ (s:Bal)=>s.length=ms.length) Cov W.length 0 ms _ (by omega) rfl (Bgh (Bap (scE W M) 0 W.length ms))
def D51 (f:Nat) (x:GB) (W:List Int) (P:Prs) (r:Bal⊕Empty):Fq (C9u f):=Cot f x W P (unE r)
theorem Dap {f:Nat} {x:GB} {W:List Int} {M:Bal} {P:Prs} {ms:Bal} {n:Nat} (hW:∀ w ∈ W,0≤w∧w<(n:Int)) (hM:M.length=W.length) (hms:ms.length=n) (hl:W.length≤1000) :
  iter (Cou f) (W.length+1) (Cds f x W M P W W.length 0 ms)=some (Cot f x W P (scV W M ms)):=by
 have hn:(W.length:Int)≤Bb2 .i64:=by show (W.length:Int)≤9223372036854775807;omega
 refine Bfx W.length (fun i s=>Cds f x W M P W W.length i s) (scE W M) (D51 f x W P) (fun _ s=>s.length=n) (fun i s hi hs=>?_) Cov (fun s hs=>?_) W.length 0 ms (by omega) hms
 ·show (Bum f (gb (gmU x.1 s (gmO x.1)) (gk x)) W M P W W.length i s).run=_
  have hw:=hW (Bam W i (Baj cI)) (by rw [Bby hi];exact List.getElem_mem hi)
  unfold Bum
  rw [decide_eq_true (show (i:Int)<(W.length:Int) by omega),Bd0 (by omega),Bd0 (by omega),show Int.toNat (i:Int)=i from rfl,Be6 (by omega),Bd9 hi hn]
  rfl
 ·show (Bum f (gb (gmU x.1 s (gmO x.1)) (gk x)) W M P W W.length W.length s).run=_
  unfold Bum
  rw [decide_eq_false (show ¬ (W.length:Int)<(W.length:Int) by omega)]
  rfl
def Chi (f:Nat):Lay:={ keys:=[0,2,94,95,96],ks:=[.p 0 0 0 0,.d (.sl cI),.d (.sl Bek),.d cI,.d cI],bs:=bsG f,n:=113,nx:=4000,marks:=[] }
def Dew (f:Nat):Lay:={ keys:=[],ks:=[],bs:=bsG f,n:=113,nx:=4000,marks:=[] }
def C9v (f:Nat):XE→Lay:=fun _=>Dew f
def Cdu (f:Nat) (x:GB) (W:List Int) (P:Prs) (n i:Int) (ks:Kns):(Chi f).T:=(((),W,P,n,i,()),gb x.1 ks)
def Cow (f:Nat) (x:GB) (ks:Kns):Fq (C9v f):=⟨.exit 4,((),gb x.1 ks)⟩
abbrev TS3 (f:Nat):=Tree ((Chi f).T⊕Fq (C9v f))
def Bim (P:Prs) (i:Nat):TCT Bek:=Bam P i (Baj Bek)
def knP (t st:Int) (W:List Int) (p:TCT Bek):TCT cKn:=kn t st 0 (Bam W (Int.toNat p.1) (Baj cI)) (Bam W (Int.toNat p.2.1) (Baj cI))
def Bun (f:Nat) (x:GB) (W:List Int) (P:Prs) (n i:Int) (ks:Kns):TS3 f:=bif decide (i<n) then inN P.length i (inN W.length (Bim P (Int.toNat i)).1 (inN W.length (Bim P (Int.toNat i)).2.1 (
 Che ks (knP (gmT x.1) (gmS x.1) W (Bim P (Int.toNat i))) fun ks'=>.leaf (.inl (Cdu f x W P n (W64 (i+1)) ks'))))) else .leaf (.inr (Cow f x ks))
def Cox (f:Nat) (g:(Chi f).T):TS3 f:=Bun f g.2 g.1.2.1 g.1.2.2.1 g.1.2.2.2.1 g.1.2.2.2.2.1 (gk g.2)
def fu_s3 (f:Nat) (g:(Chi f).T):Nat:=Int.toNat g.1.2.2.2.1+1
def sm_s3 (f:Nat):St→Tree (XE×St):=Bav (Chi f) (C9v f) (Bcm [.exit 4] (Cox f) (fu_s3 f))
theorem C1a {f:Nat} (e:XE):(Chi f).nx≤(C9v f e).nx:=Nat.le_refl _
def kpE (W:List Int) (P:Prs) (t st:Int) (i:Nat) (ks:Kns):Kns⊕Empty:=.inl (ks++[knP t st W (Bim P i)])
def kpV (W:List Int) (P:Prs) (t st:Int) (ks:Kns):Kns:=unE (Bap (kpE W P t st) 0 P.length ks)
theorem Coy {W:List Int} {P:Prs} {t st:Int} {n k:Nat} (i:Nat) (s s':Kns) (_:i<n) (h:s.length=k+i) (h2:kpE W P t st i s=.inl s'):s'.length=k+(i+1):=by
 cases h2
 simp only [List.length_append,List.length_singleton]
 omega
theorem Cdv {W:List Int} {P:Prs} {t st:Int} {ks:Kns}:(kpV W P t st ks).length=ks.length+P.length :=
 Bay (n:=P.length) (Inv:=fun i (s:Kns)=>s.length=ks.length+i) Coy P.length 0 ks _ (by omega) rfl (Bgh (Bap (kpE W P t st) 0 P.length ks))
def D52 (f:Nat) (x:GB) (r:Kns⊕Empty):Fq (C9v f):=Cow f x (unE r)
theorem Daq {f:Nat} {x:GB} {W:List Int} {P:Prs} {ks:Kns} (hP:∀ p ∈ P,Bqq W.length p) (hk:ks.length≤900000) (hl:P.length≤1000) :
  iter (Cox f) (P.length+1) (Cdu f x W P P.length 0 ks)=some (Cow f x (kpV W P (gmT x.1) (gmS x.1) ks)):=by
 have hn:(P.length:Int)≤Bb2 .i64:=by show (P.length:Int)≤9223372036854775807;omega
 refine Bfx P.length (fun i s=>Cdu f x W P P.length i s) (kpE W P (gmT x.1) (gmS x.1)) (D52 f x) (fun i s=>s.length=ks.length+i) (fun i s hi hs=>?_) Coy (fun s hs=>?_) P.length 0 ks (by omega) rfl
 ·show (Bun f (gb x.1 s) W P P.length i s).run=_
  have hp:=hP (Bim P i) (by unfold Bim;rw [Bby hi];exact List.getElem_mem hi)
  unfold Bun Che
  rw [decide_eq_true (show (i:Int)<(P.length:Int) by omega),Bd0 (by omega),show Int.toNat (i:Int)=i from rfl,Bd0 ⟨hp.1,Int.lt_trans hp.2.1 hp.2.2⟩,Bd0 ⟨Int.le_trans hp.1 (Int.le_of_lt hp.2.1),hp.2.2⟩,Bi7 (by simp;omega) (by decide),Bd9 hi hn]
  rfl
 ·show (Bun f (gb x.1 s) W P P.length P.length s).run=_
  unfold Bun
  rw [decide_eq_false (show ¬ (P.length:Int)<(P.length:Int) by omega)]
  rfl
theorem D53:Baw Tryz.prog 50 C4t (sm_s1 53):=Bb9 (Bdp is_Tick1 Bfe Bff) 7 _ _ _ C18 _ _ (fu_s1 53) (fun g=>by kernel_rfl)
theorem D54:Baw Tryz.prog 50 C4u (sm_s2 53):=Bb9 (Bdp is_Tick1 Bfe Bff) 7 _ _ _ C19 _ _ (fu_s2 53) (fun g=>by kernel_rfl)
theorem D55:Baw Tryz.prog 50 C4v (sm_s3 53):=Bb9 (Bdp is_Tick1 Bfe Bff) 7 _ _ _ C1a _ _ (fu_s3 53) (fun g=>by kernel_rfl)
theorem D56:Baw Tryz.prog 50 C4t (sm_s1 46):=Bb9 (Bdp is_Strike1 Bt2 Bt3) 7 _ _ _ C18 _ _ (fu_s1 46) (fun g=>by kernel_rfl)
theorem D57:Baw Tryz.prog 50 C4u (sm_s2 46):=Bb9 (Bdp is_Strike1 Bt2 Bt3) 7 _ _ _ C19 _ _ (fu_s2 46) (fun g=>by kernel_rfl)
theorem D58:Baw Tryz.prog 50 C4v (sm_s3 46):=Bb9 (Bdp is_Strike1 Bt2 Bt3) 7 _ _ _ C1a _ _ (fu_s3 46) (fun g=>by kernel_rfl)
theorem D59:Baw Tryz.prog 50 C4t (sm_s1 107):=Bb9 (Bdp is_run1 Bfg Bfh) 7 _ _ _ C18 _ _ (fu_s1 107) (fun g=>by kernel_rfl)
theorem D5a:Baw Tryz.prog 50 C4u (sm_s2 107):=Bb9 (Bdp is_run1 Bfg Bfh) 7 _ _ _ C19 _ _ (fu_s2 107) (fun g=>by kernel_rfl)
theorem D5b:Baw Tryz.prog 50 C4v (sm_s3 107):=Bb9 (Bdp is_run1 Bfg Bfh) 7 _ _ _ C1a _ _ (fu_s3 107) (fun g=>by kernel_rfl)
end St
end V
end Go.Proofs.YtcfanlgpkefogaaGreat
namespace Go.Proofs.YtcfanlgpkefogaaGreat
open Go.RowKit
namespace V
namespace St
def gmC (m:GM):TCT Bbv:=(m.2.2.2.2.2.2.2.2.2.2.2.2.1,m.2.2.2.2.2.2.2.2.2.2.2.2.2.1,())
noncomputable def C1b (f:Nat):Ctx:=Brf Tryz.prog plGm [(50,Tryz.f50),(49,Tryz.f49)] [((50,4),sm_s1 f),((50,12),sm_s2 f),((50,17),sm_s3 f)] (spG f)
theorem C1c {f:Nat} (h1:Bbe Tryz.prog 137 (sp_ro f)) (h2:Bbe Tryz.prog 98 (sp_fl f)) (l1:Baw Tryz.prog 50 C4t (sm_s1 f)) (l2:Baw Tryz.prog 50 C4u (sm_s2 f)) (l3:Baw Tryz.prog 50 C4v (sm_s3 f)):CtxOk (C1b f) :=
 Bfj Bar puGm (fns_cons is_gsettle (fns_cons is_must V1)) (Bbg (Blf (ds:=[C4t,C4u,C4v]) (by kernel_rfl) ⟨Bhm (k:=4) (by kernel_rfl) rfl l1,Bhm (k:=12) (by kernel_rfl) rfl l2,Bhm (k:=17) (by kernel_rfl) rfl l3,trivial⟩) (Bbg (Bc8 (by kernel_rfl)) Bgg)) (Bjl is_rolls.plain h1 is_flies.plain h2)
def seG (bl:List (TCT No)) (w fl:Int) (n:Nat) (s:S2):GA:=gaV bl w fl n s.1 s.2.1
def seS (bl:List (TCT No)) (bc:TCT Bbv) (w fl:Int) (n:Nat) (s:S2):Czi:=Bbn (seG bl w fl n s).2.1 (seG bl w fl n s).2.2 bc.1 bc.2.1
def seF (bl:List (TCT No)) (bc:TCT Bbv) (t st w fl:Int) (n:Nat) (s:S2):(Bal×Kns)⊕Int :=
 bif (seS bl bc w fl n s).2.2.1 != 0 then .inr (seS bl bc w fl n s).2.2.1 else .inl (scV (seG bl w fl n s).1 (seS bl bc w fl n s).1 s.1,kpV (seG bl w fl n s).1 (seS bl bc w fl n s).2.1 t st s.2.2)
def D23 (f:Nat) (y:Option (Fq (C9v f))):TU f:=bif isE (.exit 4) y then .leaf ⟨true,((),(Bc2 (.exit 4) y).2)⟩ else .fail
def D5c (f:Nat) (x:GB) (W:List Int) (P:Prs):Option (Fq (C9v f)):=iter (Cox f) (P.length+1) (Cdu f x W P P.length 0 (gk x))
def Dar (f:Nat) (y:Option (Fq (C9u f))):TU f:=bif isE (.exit 2) y then D23 f (D5c f (Bc2 (.exit 2) y).2 (Bc2 (.exit 2) y).1.2.1 (Bc2 (.exit 2) y).1.2.2.1) else .fail
def Das (f:Nat) (x:GB) (W:List Int) (M:Bal) (P:Prs):Option (Fq (C9u f)):=iter (Cou f) (W.length+1) (Cds f x W M P W W.length 0 (gmM x.1))
def C9w (f:Nat) (x:GB) (W:List Int) (r:Czi):TU f:=bif r.2.2.1 != 0 then .leaf ⟨false,pnU f r.2.2.1⟩ else Dar f (Das f x W r.1 r.2.1)
def Dau (f:Nat) (y:Option (Fq (C9r f))):TU f:=bif isE (.exit 0) y then C9w f (Bc2 (.exit 0) y).2 (Bc2 (.exit 0) y).1.2.1 (Bbn (Bc2 (.exit 0) y).1.2.2.1 (Bc2 (.exit 0) y).1.2.2.2.1 (gmC (Bc2 (.exit 0) y).2.1).1 (gmC (Bc2 (.exit 0) y).2.1).2.1) else .fail
def Dav (f:Nat) (x:GB):Option (Fq (C9r f)):=iter (Cos f) (nBx x.1+1) (Bp5 f x (gmB x.1) (nBx x.1) 0 ([],[],[]))
def T_se (f:Nat) (x:GB):TU f:=Dau f (Dav f x)
def Bnu (x:GB):Option ((Bal×Kns)⊕Int):=bif Bn8 x then some (seF (gmB x.1) (gmC x.1) (gmT x.1) (gmS x.1) (gmW x.1) (gmF x.1) (nBx x.1) (gs x)) else none
def C4x (f:Nat) (x:GB) (s:Bal×Kns):(FE_u f true).T:=mkU f (gb (gmU x.1 s.1 (gmO x.1)) s.2)
abbrev sp_se (f:Nat):Bao→Nat→List AV→Tree (Out×Bao×Nat):=Bj2 Bj9 (FL_g f) (FE_u f) (Bug (fun g:(FL_g f).T=>Bnu g.2) (fun g=>C4x f g.2) (pnU f) ([],[]))
theorem Bqr {bl:List (TCT No)} {bc:TCT Bbv} {w fl:Int} {n:Nat} {s:S2} (hn:n≤8) (h:(seS bl bc w fl n s).2.2.1=0):(seS bl bc w fl n s).1.length=(seG bl w fl n s).1.length∧(seS bl bc w fl n s).2.1.length≤64∧∀ p ∈ (seS bl bc w fl n s).2.1,Bqq (seG bl w fl n s).1.length p:=by
 have hg:InvG n n (seG bl w fl n s):=Cdr
 have a:=Chf (l:=(seG bl w fl n s).2.1) (s:=(seG bl w fl n s).2.2) (re:=bc.1) (dr:=bc.2.1) h (by rw [hg.b];have:=hg.k;omega)
 rw [hg.b] at a
 exact ⟨a.1.trans hg.m,a.2.1,a.2.2⟩
theorem C9x {f:Nat} {g:(FL_g f).T} {z:(Bal×Kns)⊕Int} (h:Bnu g.2=some z):(T_se f g.2).run=some (Bxt (L:=FL_g f) (E:=FE_u f) (fun g=>C4x f g.2) (pnU f) g z):=by
 unfold Bnu at h
 cases ho:Bn8 g.2 with
 | false=>rw [ho] at h;cases h
 | true =>
  rw [ho] at h
  cases h
  obtain ⟨hg,hk⟩:=Bul ho
  unfold T_se
  rw [show Dav f g.2=some (C4w f g.2 (seG (gmB g.2.1) (gmW g.2.1) (gmF g.2.1) (nBx g.2.1) (gs g.2))) from Dao hg]
  show (C9w f g.2 (seG (gmB g.2.1) (gmW g.2.1) (gmF g.2.1) (nBx g.2.1) (gs g.2)).1 (seS (gmB g.2.1) (gmC g.2.1) (gmW g.2.1) (gmF g.2.1) (nBx g.2.1) (gs g.2))).run=_
  unfold seF C9w
  have hn8:=hg.n
  cases he:(seS (gmB g.2.1) (gmC g.2.1) (gmW g.2.1) (gmF g.2.1) (nBx g.2.1) (gs g.2)).2.2.1 != 0 with
  | true=>rfl
  | false =>
   have hs:=Bqr hn8 (bne_eq_false_iff_eq.1 he)
   have hi:InvG (nBx g.2.1) (nBx g.2.1) (seG (gmB g.2.1) (gmW g.2.1) (gmF g.2.1) (nBx g.2.1) (gs g.2)):=Cdr
   have hik:=hi.k
   simp only [cond_false]
   rw [show Das f g.2 (seG (gmB g.2.1) (gmW g.2.1) (gmF g.2.1) (nBx g.2.1) (gs g.2)).1 (seS (gmB g.2.1) (gmC g.2.1) (gmW g.2.1) (gmF g.2.1) (nBx g.2.1) (gs g.2)).1 (seS (gmB g.2.1) (gmC g.2.1) (gmW g.2.1) (gmF g.2.1) (nBx g.2.1) (gs g.2)).2.1=_ from Dap hi.r hs.1 hg.ms (by omega)]
   show (D23 f (D5c f (gb (gmU g.2.1 (scV (seG (gmB g.2.1) (gmW g.2.1) (gmF g.2.1) (nBx g.2.1) (gs g.2)).1 (seS (gmB g.2.1) (gmC g.2.1) (gmW g.2.1) (gmF g.2.1) (nBx g.2.1) (gs g.2)).1 (gmM g.2.1)) (gmO g.2.1)) (gk g.2)) (seG (gmB g.2.1) (gmW g.2.1) (gmF g.2.1) (nBx g.2.1) (gs g.2)).1 (seS (gmB g.2.1) (gmC g.2.1) (gmW g.2.1) (gmF g.2.1) (nBx g.2.1) (gs g.2)).2.1)).run=_
   have hs64:=hs.2.1
   rw [show D5c f (gb (gmU g.2.1 (scV (seG (gmB g.2.1) (gmW g.2.1) (gmF g.2.1) (nBx g.2.1) (gs g.2)).1 (seS (gmB g.2.1) (gmC g.2.1) (gmW g.2.1) (gmF g.2.1) (nBx g.2.1) (gs g.2)).1 (gmM g.2.1)) (gmO g.2.1)) (gk g.2)) (seG (gmB g.2.1) (gmW g.2.1) (gmF g.2.1) (nBx g.2.1) (gs g.2)).1 (seS (gmB g.2.1) (gmC g.2.1) (gmW g.2.1) (gmF g.2.1) (nBx g.2.1) (gs g.2)).2.1=_ from Daq (x:=gb (gmU g.2.1 (scV (seG (gmB g.2.1) (gmW g.2.1) (gmF g.2.1) (nBx g.2.1) (gs g.2)).1 (seS (gmB g.2.1) (gmC g.2.1) (gmW g.2.1) (gmF g.2.1) (nBx g.2.1) (gs g.2)).1 (gmM g.2.1)) (gmO g.2.1)) (gk g.2)) hs.2.2 hk (by omega)]
   rfl
theorem Cwn:Bbe Tryz.prog 50 (sp_se 53):=Bi8 (C1c Bfe Bff D53 D54 D55) 6 Bfy _ _ _ _ (fun g=>T_se 53 g.2) (fun g=>by kernel_rfl) fun _ _ _ h=>C9x h
theorem Cwo:Bbe Tryz.prog 50 (sp_se 46):=Bi8 (C1c Bt2 Bt3 D56 D57 D58) 6 Bfy _ _ _ _ (fun g=>T_se 46 g.2) (fun g=>by kernel_rfl) fun _ _ _ h=>C9x h
theorem Cwp:Bbe Tryz.prog 50 (sp_se 107):=Bi8 (C1c Bfg Bfh D59 D5a D5b) 6 Bfy _ _ _ _ (fun g=>T_se 107 g.2) (fun g=>by kernel_rfl) fun _ _ _ h=>C9x h
end St
end V
end Go.Proofs.YtcfanlgpkefogaaGreat
namespace Go.Proofs.YtcfanlgpkefogaaGreat
open Go.RowKit
namespace V
namespace St
noncomputable def Byv:Code:=(Bak (bodyOf Tryz.f103)).getD 0 .skip
noncomputable def Buo:Code:=(Bak (bodyOf Tryz.f103)).getD 1 .skip
abbrev kBb:List SK:=[.d cI,.d cI]
def C9y (f:Nat):Lay:={ keys:=[0,2,3,13,14,15,24,25,26],ks:=[.p 0 0 0 0,.d cI,.p 2002 0 0 0,.d (.sl No),.d cI,.d cI,.d (.sl Baf),.d cI,.d cI],bs:=[(0,137,kGm f),(1,48,[.o 58 cKn]),(2002,70,kBb)],n:=81,nx:=3000,marks:=[] }
def Daw (f:Nat):Lay:={ keys:=[0,13,14,15],ks:=[.p 0 0 0 0,.d (.sl No),.d cI,.d cI],bs:=bsG f,n:=81,nx:=3000,marks:=[] }
def Dax:Lay:={ keys:=[],ks:=[],bs:=[],n:=81,nx:=4000,marks:=[] }
def C4y (f:Nat):XE→Lay:=fun e=>match e with | .panic _=>Dax | _=>Daw f
def C9z (f:Nat):Lay:={ keys:=[0,13,14,15],ks:=[.p 0 0 0 0,.d (.sl No),.d cI,.d cI],bs:=bsG f,n:=81,nx:=2000,marks:=[] }
def Dex (f:Nat):Lay:={ keys:=[],ks:=[],bs:=bsG f,n:=81,nx:=2000,marks:=[] }
def Ca0 (f:Nat):XE→Lay:=fun e=>match e with | .panic _=>Dax | _=>Dex f
theorem Cdw {f:Nat} (e:XE):(C9y f).nx≤(C4y f e).nx:=by cases e <;> first | exact Nat.le_refl _ | exact (by decide:(3000:Nat)≤4000)
theorem Cdx {f:Nat} (e:XE):(C9z f).nx≤(Ca0 f e).nx:=by cases e <;> first | exact Nat.le_refl _ | exact (by decide:(2000:Nat)≤4000)
abbrev Dss:Type:=List (TCT Baf)
abbrev MK:Type:=Bal×Kns
def Bd3 (ps:Dss) (i:Nat):TCT Baf:=Bam ps i (Baj Baf)
def bmV (b:TCT No) (m:TCT Bat) (d:TCT Baf) (c:TCT Bbv):TCTs [Bat,cI]:=Bs4 (bm b m) d.1.1 d.1.2.1 d.2.1 c.1 c.2.1
structure Cb where
 i:Int
 b:TCT No
 bl:List (TCT No)
 n1:Int
 i1:Int
 ps:Dss
def gmb (m:GM) (k:Kns) (b:TCT No):GM×SKTs [.o 0 cKn]×SKTs kBb×Unit:=(m,(k,()),b,())
def C4z (f:Nat) (x:GB) (c:Cb) (n k:Int) (s:MK):(C9y f).T:=(((),c.i,(),c.bl,c.n1,c.i1,c.ps,n,k,()),gmb (gmU x.1 s.1 (gmO x.1)) s.2 c.b)
def Bup (f:Nat) (x:GB) (c:Cb) (s:MK):Fq (C4y f):=⟨.exit 2,(((),c.bl,c.n1,c.i1,()),gb (gmU x.1 s.1 (gmO x.1)) s.2)⟩
def C50 (f:Nat) (e:Int):Fq (C4y f):=⟨.panic (.ifc 49 (.int .i64 e)),((),())⟩
abbrev TB2 (f:Nat):=Tree ((C9y f).T⊕Fq (C4y f))
def Ca1 (f:Nat) (x:GB) (c:Cb) (n k:Int) (s:MK) (r:TCTs [Bat,cI]):TB2 f :=
 bif r.2.1==0 then inO s.1.length c.i (Che s.2 (kn (gmT x.1) (gmS x.1) 1 c.i k) fun ks=>.leaf (.inl (C4z f x c n (W64 (k+1)) (Bba s.1 (Int.toNat c.i) r.1,ks))))
 else bif r.2.1==4 then .leaf (.inr (C50 f r.2.1)) else .leaf (.inl (C4z f x c n (W64 (k+1)) s))
def Buq (f:Nat) (x:GB) (c:Cb) (n k:Int) (s:MK):TB2 f:=bif decide (k<n) then inN c.ps.length k (bif Bxs s.1 (gmO x.1) c.i then
 bif !Bbu s.1 (gmO x.1) (Int.toNat c.i) then .leaf (.inr (Bup f x c s)) else bif Bdb (gmW x.1) (gmF x.1) c.i then .leaf (.inr (Bup f x c s)) else
 inO s.1.length c.i (Ca1 f x c n k s (bmV c.b (Bag s.1 (Int.toNat c.i)) (Bd3 c.ps (Int.toNat k)) (gmC x.1))) else .fail) else .leaf (.inr (Bup f x c s))
def cb (f:Nat) (g:(C9y f).T):Cb:=⟨g.1.2.1,g.2.2.2.1,g.1.2.2.2.1,g.1.2.2.2.2.1,g.1.2.2.2.2.2.1,g.1.2.2.2.2.2.2.1⟩
def Coz (f:Nat) (g:(C9y f).T):TB2 f:=Buq f (gb g.2.1 g.2.2.1.1) (cb f g) g.1.2.2.2.2.2.2.2.1 g.1.2.2.2.2.2.2.2.2.1 (gmM g.2.1,g.2.2.1.1)
def fu_b2 (f:Nat) (g:(C9y f).T):Nat:=Int.toNat g.1.2.2.2.2.2.2.2.1+1
def sm_b2 (f:Nat):St→Tree (XE×St):=Bav (C9y f) (C4y f) (finP 49 .i64 [.exit 2] (Coz f) (fu_b2 f))
def bpE (b:TCT No) (c:TCT Bbv) (ps:Dss) (os:List Bool) (w fl t st:Int) (i:Nat) (k:Nat) (s:MK):MK⊕(MK⊕Int) :=
 bif !Bbu s.1 os i||Bdb w fl i then .inr (.inl s) else
 bif (bmV b (Bag s.1 i) (Bd3 ps k) c).2.1==0 then .inl (Bba s.1 i (bmV b (Bag s.1 i) (Bd3 ps k) c).1,s.2++[kn t st 1 i k]) else
 bif (bmV b (Bag s.1 i) (Bd3 ps k) c).2.1==4 then .inr (.inr (bmV b (Bag s.1 i) (Bd3 ps k) c).2.1) else .inl s
def Bsr:MK⊕(MK⊕Int)→MK⊕Int
 | .inl s=>.inl s
 | .inr x=>x
def C1d (f:Nat) (x:GB) (c:Cb) (r:MK⊕(MK⊕Int)):Fq (C4y f):=match Bsr r with
 | .inl s=>Bup f x c s
 | .inr e=>C50 f e
structure InvK (n k:Nat) (i:Nat) (s:MK):Prop where
 m:s.1.length=n
 k:s.2.length≤k+i
theorem Cp0 {b:TCT No} {c:TCT Bbv} {ps:Dss} {os:List Bool} {w fl t st:Int} {i n k0 m:Nat} (k:Nat) (s s':MK) (_:k<m) (hi:InvK n k0 k s) (h:bpE b c ps os w fl t st i k s=.inl s'):InvK n k0 (k+1) s':=by
 unfold bpE at h
 have hk:=hi.k
 cases h1:!Bbu s.1 os i||Bdb w fl i with
 | true=>rw [h1] at h;cases h
 | false =>
  rw [h1] at h
  cases h2:(bmV b (Bag s.1 i) (Bd3 ps k) c).2.1==0 with
  | true=>rw [h2] at h;cases h;exact ⟨by rw [Bbd];exact hi.m,by simp;omega⟩
  | false =>
   rw [h2] at h
   cases h3:(bmV b (Bag s.1 i) (Bd3 ps k) c).2.1==4 with
   | true=>rw [h3] at h;cases h
   | false=>rw [h3] at h;cases h;exact ⟨hi.m,by omega⟩
theorem Day {f:Nat} {x:GB} {c:Cb} {i n k0:Nat} {s:MK} (hci:c.i=(i:Int)) (hi:i<n) (hos:(gmO x.1).length=n) (hs:InvK n k0 0 s) (hk0:k0≤990000) (hps:c.ps.length≤1000) :
  iter (Coz f) (c.ps.length+1) (C4z f x c c.ps.length 0 s)=some (C1d f x c (Bap (bpE c.b (gmC x.1) c.ps (gmO x.1) (gmW x.1) (gmF x.1) (gmT x.1) (gmS x.1) i) 0 c.ps.length s)):=by
 have hn:(c.ps.length:Int)≤Bb2 .i64:=by show (c.ps.length:Int)≤9223372036854775807;omega
 refine Bfx c.ps.length (fun k s=>C4z f x c c.ps.length k s) (bpE c.b (gmC x.1) c.ps (gmO x.1) (gmW x.1) (gmF x.1) (gmT x.1) (gmS x.1) i) (C1d f x c) (InvK n k0) (fun k s hk hl=>?_) Cp0 (fun s hl=>?_) c.ps.length 0 s (by omega) hs
 ·show (Buq f (gb (gmU x.1 s.1 (gmO x.1)) s.2) c c.ps.length k s).run=_
  have h1:=hl.m
  have h2:=hl.k
  unfold Buq
  show Tree.run (bif decide ((k:Int)<(c.ps.length:Int)) then inN c.ps.length k (bif Bxs s.1 (gmO x.1) c.i then
   bif !Bbu s.1 (gmO x.1) (Int.toNat c.i) then .leaf (.inr (Bup f x c s)) else bif Bdb (gmW x.1) (gmF x.1) c.i then .leaf (.inr (Bup f x c s)) else
   inO s.1.length c.i (Ca1 f x c c.ps.length k s (bmV c.b (Bag s.1 (Int.toNat c.i)) (Bd3 c.ps k) (gmC x.1))) else .fail) else .leaf (.inr (Bup f x c s)):TB2 f)=_
  rw [hci,decide_eq_true (show (k:Int)<(c.ps.length:Int) by omega),Bd0 (by omega),C17 hi h1 hos,Be6 (by omega),show Int.toNat (i:Int)=i from rfl]
  unfold Ca1 bpE Che
  rw [hci,Be6 (by omega),Bi7 (by simp;omega) (by decide),Bd9 hk hn,show Int.toNat (i:Int)=i from rfl]
  cases Bbu s.1 (gmO x.1) i with
  | false=>rfl
  | true =>
   cases Bdb (gmW x.1) (gmF x.1) i with
   | true=>rfl
   | false =>
    simp only [Bool.not_true,Bool.or_self,cond_true,cond_false]
    cases (bmV c.b (Bag s.1 i) (Bd3 c.ps k) (gmC x.1)).2.1==0 with
    | true=>rfl
    | false =>
     simp only [cond_false]
     cases (bmV c.b (Bag s.1 i) (Bd3 c.ps k) (gmC x.1)).2.1==4 <;> rfl
 ·show (Buq f (gb (gmU x.1 s.1 (gmO x.1)) s.2) c c.ps.length c.ps.length s).run=_
  unfold Buq
  rw [decide_eq_false (show ¬ (c.ps.length:Int)<(c.ps.length:Int) by omega)]
  rfl
def Cp1 (f:Nat) (x:GB) (bl:List (TCT No)) (n i:Int) (s:MK):(C9z f).T:=(((),bl,n,i,()),gb (gmU x.1 s.1 (gmO x.1)) s.2)
def D24 (f:Nat) (x:GB) (s:MK):Fq (Ca0 f):=⟨.exit 0,((),gb (gmU x.1 s.1 (gmO x.1)) s.2)⟩
def D25 (f:Nat) (e:Int):Fq (Ca0 f):=⟨.panic (.ifc 49 (.int .i64 e)),((),())⟩
abbrev TB1 (f:Nat):=Tree ((C9z f).T⊕Fq (Ca0 f))
def Daz (f:Nat) (r:(Daw f).T):(C9z f).T:=(((),r.1.2.1,r.1.2.2.1,W64 (r.1.2.2.2.1+1),()),r.2)
def Cp2 (f:Nat) (y:Option (Fq (C4y f))):TB1 f:=bif isP 49 .i64 y then .leaf (.inr (D25 f (panO 49 .i64 y).1)) else bif isE (.exit 2) y then .leaf (.inl (Daz f (Bc2 (.exit 2) y))) else .fail
def Db0 (f:Nat) (x:GB) (c:Cb):Option (Fq (C4y f)):=iter (Coz f) (c.ps.length+1) (C4z f x c c.ps.length 0 (gmM x.1,gk x))
def cb1 (x:GB) (bl:List (TCT No)) (n i:Int):Cb:=⟨i,Bch bl (Int.toNat i),bl,n,i,gmP x.1⟩
def Bur (f:Nat) (x:GB) (bl:List (TCT No)) (n i:Int):TB1 f:=bif decide (i<n) then inN bl.length i (Cp2 f (Db0 f x (cb1 x bl n i))) else .leaf (.inr (D24 f x (gmM x.1,gk x)))
def Cp3 (f:Nat) (g:(C9z f).T):TB1 f:=Bur f g.2 g.1.2.1 g.1.2.2.1 g.1.2.2.2.1
def fu_b1 (f:Nat) (g:(C9z f).T):Nat:=Int.toNat g.1.2.2.1+1
def sm_b1 (f:Nat):St→Tree (XE×St):=Bav (C9z f) (Ca0 f) (finP 49 .i64 [.exit 0] (Cp3 f) (fu_b1 f))
def Lt_b1 (f:Nat):Bie:=fun k=>bif Nat.beq k 4 then some (sm_b2 f) else none
theorem Cp4:Bak Byv=[Buo]:=by kernel_rfl
theorem D5d:keyOf Buo=4:=by kernel_rfl
theorem C51 {f:Nat} (h:Baw Tryz.prog 103 Buo (sm_b2 f)):∀ d ∈ Bak Byv,∀ g,Lt_b1 f (keyOf d)=some g→Baw Tryz.prog 103 d g:=fun d hd g hg=>by
 rw [Cp4,List.mem_singleton] at hd
 subst hd
 rw [D5d] at hg
 cases hg
 exact h
theorem Cp5:Baw Tryz.prog 103 Buo (sm_b2 53):=Bft (Bdp is_Tick1 Bfe Bff) 7 _ _ _ Cdw _ _ _ _ (fu_b2 53) (fun g=>by kernel_rfl)
theorem Cp6:Baw Tryz.prog 103 Buo (sm_b2 107):=Bft (Bdp is_run1 Bfg Bfh) 7 _ _ _ Cdw _ _ _ _ (fu_b2 107) (fun g=>by kernel_rfl)
theorem D5e:Baw Tryz.prog 103 Byv (sm_b1 53):=Bxh (Bdp is_Tick1 Bfe Bff) 7 _ (Lt_b1 53) (C51 Cp5) _ _ Cdx _ _ _ _ (fu_b1 53) (fun g=>by kernel_rfl)
theorem D5f:Baw Tryz.prog 103 Byv (sm_b1 107):=Bxh (Bdp is_run1 Bfg Bfh) 7 _ (Lt_b1 107) (C51 Cp6) _ _ Cdx _ _ _ _ (fu_b1 107) (fun g=>by kernel_rfl)
def boE (bl:List (TCT No)) (c:TCT Bbv) (ps:Dss) (os:List Bool) (w fl t st:Int) (i:Nat) (s:MK):MK⊕Int:=Bsr (Bap (bpE (Bch bl i) c ps os w fl t st i) 0 ps.length s)
def Bus (f:Nat) (x:GB):MK⊕Int→Fq (Ca0 f)
 | .inl s=>D24 f x s
 | .inr e=>D25 f e
theorem Cp7 {b:TCT No} {c:TCT Bbv} {ps:Dss} {os:List Bool} {w fl t st:Int} {i n k0 m:Nat}:∀ (j k:Nat) (s s':MK),k+j=m→InvK n k0 k s→Bsr (Bap (bpE b c ps os w fl t st i) k j s)=.inl s'→InvK n k0 m s'
 | 0,k,s,s',hj,hi,h=>by
  have e:k=m:=by omega
  subst e
  cases h
  exact hi
 | j+1,k,s,s',hj,hi,h=>by
  unfold Bap at h
  cases hf:bpE b c ps os w fl t st i k s with
  | inl t1=>rw [hf] at h;exact Cp7 j (k+1) t1 s' (by omega) (Cp0 (m:=m) k s t1 (by omega) hi hf) h
  | inr y =>
   rw [hf] at h
   unfold bpE at hf
   have hk:=hi.k
   cases h1:!Bbu s.1 os i||Bdb w fl i with
   | true =>
    rw [h1] at hf
    cases hf
    cases h
    exact ⟨hi.m,by omega⟩
   | false =>
    rw [h1] at hf
    cases h2:(bmV b (Bag s.1 i) (Bd3 ps k) c).2.1==0 with
    | true=>rw [h2] at hf;cases hf
    | false =>
     rw [h2] at hf
     cases h3:(bmV b (Bag s.1 i) (Bd3 ps k) c).2.1==4 with
     | true=>rw [h3] at hf;cases hf;cases h
     | false=>rw [h3] at hf;cases hf
structure InvO (n k P:Nat) (i:Nat) (s:MK):Prop where
 m:s.1.length=n
 k:s.2.length≤k+i*P
theorem Cp8 {bl:List (TCT No)} {c:TCT Bbv} {ps:Dss} {os:List Bool} {w fl t st:Int} {n k0 m:Nat} (i:Nat) (s s':MK) (_:i<m) (hi:InvO n k0 ps.length i s) (h:boE bl c ps os w fl t st i s=.inl s'):InvO n k0 ps.length (i+1) s':=by
 have a:=Cp7 (n:=n) (k0:=k0+i*ps.length) (m:=ps.length) ps.length 0 s s' (by omega) ⟨hi.m,by have:=hi.k;omega⟩ h
 have e:(i+1)*ps.length=i*ps.length+ps.length:=Nat.succ_mul i ps.length
 exact ⟨a.m,by have:=a.k;omega⟩
theorem Db1 {f:Nat} {x:GB} {s:MK} (hx:OkGM x.1) (hm:s.1.length=nBx x.1) (hk:s.2.length≤900000) (hps:(gmP x.1).length≤1000) :
  iter (Cp3 f) (nBx x.1+1) (Cp1 f x (gmB x.1) (nBx x.1) 0 s)=some (Bus f x (Bap (boE (gmB x.1) (gmC x.1) (gmP x.1) (gmO x.1) (gmW x.1) (gmF x.1) (gmT x.1) (gmS x.1)) 0 (nBx x.1) s)):=by
 have hn8:=hx.n
 have hn:(nBx x.1:Int)≤Bb2 .i64:=by show (nBx x.1:Int)≤9223372036854775807;omega
 refine Bfx (nBx x.1) (fun i s=>Cp1 f x (gmB x.1) (nBx x.1) i s) (boE (gmB x.1) (gmC x.1) (gmP x.1) (gmO x.1) (gmW x.1) (gmF x.1) (gmT x.1) (gmS x.1)) (Bus f x) (InvO (nBx x.1) s.2.length (gmP x.1).length) (fun i s1 hi hl=>?_) Cp8 (fun s hl=>?_) (nBx x.1) 0 s (by omega) ⟨hm,by omega⟩
 ·show (Bur f (gb (gmU x.1 s1.1 (gmO x.1)) s1.2) (gmB x.1) (nBx x.1) i).run=_
  have h2:=hl.k
  have h3:i*(gmP x.1).length≤8*1000:=Nat.mul_le_mul (by omega) hps
  have hy:Db0 f (gb (gmU x.1 s1.1 (gmO x.1)) s1.2) (cb1 (gb (gmU x.1 s1.1 (gmO x.1)) s1.2) (gmB x.1) (nBx x.1) i)=some (C1d f (gb (gmU x.1 s1.1 (gmO x.1)) s1.2) (cb1 (gb (gmU x.1 s1.1 (gmO x.1)) s1.2) (gmB x.1) (nBx x.1) i) (Bap (bpE (Bch (gmB x.1) i) (gmC x.1) (gmP x.1) (gmO x.1) (gmW x.1) (gmF x.1) (gmT x.1) (gmS x.1) i) 0 (gmP x.1).length s1)) :=
   Day (f:=f) (x:=gb (gmU x.1 s1.1 (gmO x.1)) s1.2) (c:=cb1 (gb (gmU x.1 s1.1 (gmO x.1)) s1.2) (gmB x.1) (nBx x.1) i) (i:=i) (n:=nBx x.1) (k0:=s.2.length+i*(gmP x.1).length) (s:=s1) rfl hi hx.os ⟨hl.m,by omega⟩ (by omega) hps
  unfold Bur
  rw [decide_eq_true (show (i:Int)<(nBx x.1:Int) by omega),Bd0 (n:=(gmB x.1).length) (by show 0≤(i:Int)∧(i:Int)<(nBx x.1:Int);omega),hy]
  unfold boE C1d
  cases Bsr (Bap (bpE (Bch (gmB x.1) i) (gmC x.1) (gmP x.1) (gmO x.1) (gmW x.1) (gmF x.1) (gmT x.1) (gmS x.1) i) 0 (gmP x.1).length s1) with
  | inl s2 =>
   show (Tree.leaf (.inl (((),gmB x.1,(nBx x.1:Int),W64 ((i:Int)+1),()),gb (gmU x.1 s2.1 (gmO x.1)) s2.2)):TB1 f).run=_
   rw [Bd9 hi hn]
   rfl
  | inr e =>
   have h1:isP 49 .i64 (some (C50 f e))=true:=Bme
   have h2:panO 49 .i64 (some (C50 f e))=⟨e,((),())⟩:=Bi0
   show (Cp2 f (some (C50 f e))).run=_
   unfold Cp2
   rw [h1,h2]
   rfl
 ·show (Bur f (gb (gmU x.1 s.1 (gmO x.1)) s.2) (gmB x.1) (nBx x.1) (nBx x.1)).run=_
  unfold Bur
  rw [decide_eq_false (show ¬ (nBx x.1:Int)<(nBx x.1:Int) by omega)]
  rfl
end St
end V
end Go.Proofs.YtcfanlgpkefogaaGreat
namespace Go.Proofs.YtcfanlgpkefogaaGreat
open Go.RowKit
namespace V
namespace St
noncomputable def Dey (f:Nat):Ctx:=Brf Tryz.prog plGm [(103,Tryz.f103)] [((103,1),sm_b1 f),((103,4),sm_b2 f)] (spG f)
theorem Cdy {f:Nat} (h1:Bbe Tryz.prog 137 (sp_ro f)) (h2:Bbe Tryz.prog 98 (sp_fl f)) (l1:Baw Tryz.prog 103 Byv (sm_b1 f)) (l2:Baw Tryz.prog 103 Buo (sm_b2 f)):CtxOk (Dey f) :=
 Bfj Bar puGm (fns_cons is_gbump V1) (Bbg (Blf (ds:=[Byv,Buo]) (by kernel_rfl) ⟨Bhm (k:=1) (by kernel_rfl) rfl l1,Bhm (k:=4) (by kernel_rfl) rfl l2,trivial⟩) Bgg) (Bjl is_rolls.plain h1 is_flies.plain h2)
def Cp9 (f:Nat) (x:GB):Option (Fq (Ca0 f)):=iter (Cp3 f) (nBx x.1+1) (Cp1 f x (gmB x.1) (nBx x.1) 0 (gmM x.1,gk x))
def T_bp (f:Nat) (x:GB):TU f:=bif isP 49 .i64 (Cp9 f x) then .leaf ⟨false,pnU f (panO 49 .i64 (Cp9 f x)).1⟩ else bif isE (.exit 0) (Cp9 f x) then .leaf ⟨true,((),(Bc2 (.exit 0) (Cp9 f x)).2)⟩ else .fail
def buF (bl:List (TCT No)) (c:TCT Bbv) (ps:Dss) (t st w fl:Int) (n:Nat) (s:S2):MK⊕Int:=Bap (boE bl c ps s.2.1 w fl t st) 0 n (s.1,s.2.2)
def C1e (x:GB):Bool:=Bn8 x&&decide ((gmP x.1).length≤1000)
theorem C52 {x:GB} (h:C1e x=true):OkGM x.1∧(gk x).length≤900000∧(gmP x.1).length≤1000:=by
 unfold C1e at h
 simp only [Bool.and_eq_true,decide_eq_true_eq] at h
 have a:=Bul h.1
 exact ⟨a.1,a.2,h.2⟩
def C53 (x:GB):Option (MK⊕Int):=bif C1e x then some (buF (gmB x.1) (gmC x.1) (gmP x.1) (gmT x.1) (gmS x.1) (gmW x.1) (gmF x.1) (nBx x.1) (gs x)) else none
abbrev sp_bp (f:Nat):Bao→Nat→List AV→Tree (Out×Bao×Nat):=Bj2 Bj9 (FL_g f) (FE_u f) (Bug (fun g:(FL_g f).T=>C53 g.2) (fun g=>C4x f g.2) (pnU f) ([],[]))
theorem Cpa {f:Nat} {g:(FL_g f).T} {z:MK⊕Int} (h:C53 g.2=some z):(T_bp f g.2).run=some (Bxt (L:=FL_g f) (E:=FE_u f) (fun g=>C4x f g.2) (pnU f) g z):=by
 unfold C53 at h
 cases ho:C1e g.2 with
 | false=>rw [ho] at h;cases h
 | true =>
  rw [ho] at h
  cases h
  obtain ⟨hg,hk,hp⟩:=C52 ho
  have hy:Cp9 f g.2=some (Bus f g.2 (buF (gmB g.2.1) (gmC g.2.1) (gmP g.2.1) (gmT g.2.1) (gmS g.2.1) (gmW g.2.1) (gmF g.2.1) (nBx g.2.1) (gs g.2))):=Db1 hg hg.ms hk hp
  unfold T_bp
  rw [hy]
  cases buF (gmB g.2.1) (gmC g.2.1) (gmP g.2.1) (gmT g.2.1) (gmS g.2.1) (gmW g.2.1) (gmF g.2.1) (nBx g.2.1) (gs g.2) with
  | inl s=>rfl
  | inr e =>
   have h1:isP 49 .i64 (some (Bus f g.2 (.inr e)))=true:=Bme
   have h2:panO 49 .i64 (some (Bus f g.2 (.inr e)))=⟨e,((),())⟩:=Bi0
   rw [h1,h2]
   rfl
theorem Cwq:Bbe Tryz.prog 103 (sp_bp 53):=Bi8 (Cdy Bfe Bff D5e Cp5) 6 Bfy _ _ _ _ (fun g=>T_bp 53 g.2) (fun g=>by kernel_rfl) fun _ _ _ h=>Cpa h
theorem Cwr:Bbe Tryz.prog 103 (sp_bp 107):=Bi8 (Cdy Bfg Bfh D5f Cp6) 6 Bfy _ _ _ _ (fun g=>T_bp 107 g.2) (fun g=>by kernel_rfl) fun _ _ _ h=>Cpa h
end St
end V
end Go.Proofs.YtcfanlgpkefogaaGreat
namespace Go.Proofs.YtcfanlgpkefogaaGreat
open Go.RowKit
namespace V
def thY {A β:Type} (y:Option (A⊕Int)) (d:A) (pn:Int→Tree β) (k:A→Tree β):Tree β:=bif isL y then k (gL d y) else bif isR y then pn (gR 0 y) else .fail
theorem Brv {A β:Type} {y:Option (A⊕Int)} {d a:A} {pn:Int→Tree β} {k:A→Tree β} (h:y=some (.inl a)):thY y d pn k=k a:=by rw [h];rfl
theorem Brw {A β:Type} {y:Option (A⊕Int)} {d:A} {e:Int} {pn:Int→Tree β} {k:A→Tree β} (h:y=some (.inr e)):thY y d pn k=pn e:=by rw [h];rfl
namespace St
noncomputable def Cdz:Code:=(Bak (bodyOf Tryz.f54)).getD 0 .skip
def Ca2 (f:Nat):Lay:={ keys:=[0],ks:=[.p 0 0 0 0],bs:=bsG f,n:=52,nx:=4000,marks:=[] }
def Dez:Lay:={ keys:=[],ks:=[],bs:=[],n:=52,nx:=9000,marks:=[] }
def C54 (f:Nat):XE→Lay:=fun e=>match e with | .panic _=>Dez | _=>Ca2 f
theorem Ce0 {f:Nat} (e:XE):(Ca2 f).nx≤(C54 f e).nx:=by cases e <;> first | exact Nat.le_refl _ | exact (by decide:(4000:Nat)≤9000)
abbrev YS:Type:=GB→Option (Bal⊕Int)
abbrev Y2:Type:=GB→Option (S2⊕Int)
abbrev YK:Type:=GB→Option (MK⊕Int)
abbrev SPf:Type:=Bao→Nat→List AV→Tree (Out×Bao×Nat)
def Df0 {β:Type} (m:GM) (ms:Bal) (os:List Bool) (k:GM→β):β:=match m with
 | (a0,a1,a2,a3,a4,a5,a6,a7,a8,a9,a10,a11,a12,a13,a14,_,_,a17,a18,a19,a20,a21,_)=>k (a0,a1,a2,a3,a4,a5,a6,a7,a8,a9,a10,a11,a12,a13,a14,ms,os,a17,a18,a19,a20,a21,())
def Db2 {β:Type} (m:GM) (ms:Bal) (k:GM→β):β:=match m with
 | (a0,a1,a2,a3,a4,a5,a6,a7,a8,a9,a10,a11,a12,a13,a14,_,a16,a17,a18,a19,a20,a21,_)=>k (a0,a1,a2,a3,a4,a5,a6,a7,a8,a9,a10,a11,a12,a13,a14,ms,a16,a17,a18,a19,a20,a21,())
def gmA (m:GM) (ms:Bal) (os:List Bool) (fl tk st:Int):GM:=(m.1,m.2.1,m.2.2.1,m.2.2.2.1,m.2.2.2.2.1,m.2.2.2.2.2.1,m.2.2.2.2.2.2.1,m.2.2.2.2.2.2.2.1,m.2.2.2.2.2.2.2.2.1,m.2.2.2.2.2.2.2.2.2.1,m.2.2.2.2.2.2.2.2.2.2.1,m.2.2.2.2.2.2.2.2.2.2.2.1,m.2.2.2.2.2.2.2.2.2.2.2.2.1,m.2.2.2.2.2.2.2.2.2.2.2.2.2.1,m.2.2.2.2.2.2.2.2.2.2.2.2.2.2.1,ms,os,m.2.2.2.2.2.2.2.2.2.2.2.2.2.2.2.2.2.1,fl,tk,st,m.2.2.2.2.2.2.2.2.2.2.2.2.2.2.2.2.2.2.2.2.2.1,())
def Brx {L:FLay} {E:Bool→FLay} {A:Type} (Y:L.T→Option (A⊕Int)) (mk:L.T→A→((E true).T→Tree (Bde E))→Tree (Bde E)) (pn:Int→(E false).T) (d:A) (g:L.T):Tree (Bde E) :=
 .br (isL (Y g)) (mk g (gL d (Y g)) fun y=>.leaf ⟨true,y⟩) (.br (isR (Y g)) (.leaf ⟨false,pn (gR 0 (Y g))⟩) .fail)
def Db3 (f:Nat) (x:GB) (s:S2) (k:(FE_u f true).T→Tree (Bde (FE_u f))):Tree (Bde (FE_u f)):=Df0 x.1 s.1 s.2.1 fun m=>k ((),(m,(s.2.2,()),()))
def Db4 (f:Nat) (x:GB) (s:MK) (k:(FE_u f true).T→Tree (Bde (FE_u f))):Tree (Bde (FE_u f)):=Db2 x.1 s.1 fun m=>k ((),(m,(s.2,()),()))
def Db5 (f:Nat) (x:GB) (s:Bal) (k:(FE_u f true).T→Tree (Bde (FE_u f))):Tree (Bde (FE_u f)):=Db2 x.1 s fun m=>k ((),(m,(x.2.1.1,()),()))
theorem Cws {f:Nat} (Y:Y2):(Brx (L:=FL_g f) (E:=FE_u f) (fun g=>Y g.2) (fun g=>Db3 f g.2) (pnU f) ([],[],[]))=(Bug (L:=FL_g f) (E:=FE_u f) (fun g=>Y g.2) (fun g=>Coo f g.2) (pnU f) ([],[],[])):=rfl
theorem C1f {f:Nat} (Y:YK):(Brx (L:=FL_g f) (E:=FE_u f) (fun g=>Y g.2) (fun g=>Db4 f g.2) (pnU f) ([],[]))=(Bug (L:=FL_g f) (E:=FE_u f) (fun g=>Y g.2) (fun g=>C4x f g.2) (pnU f) ([],[])):=rfl
theorem Cwt {f:Nat} (Y:YS):(Brx (L:=FL_g f) (E:=FE_u f) (fun g=>Y g.2) (fun g=>Db5 f g.2) (pnU f) [])=(Bug (L:=FL_g f) (E:=FE_u f) (fun g=>Y g.2) (fun g=>C9m f g.2) (pnU f) []):=rfl
abbrev Db6 (f:Nat) (Y:YS):SPf:=Bj2 Bj9 (FL_g f) (FE_u f) (Brx (fun g:(FL_g f).T=>Y g.2) (fun g=>Db5 f g.2) (pnU f) [])
abbrev Db7 (f:Nat) (Y:Y2):SPf:=Bj2 Bj9 (FL_g f) (FE_u f) (Brx (fun g:(FL_g f).T=>Y g.2) (fun g=>Db3 f g.2) (pnU f) ([],[],[]))
abbrev Chj (f:Nat) (Y:YK):SPf:=Bj2 Bj9 (FL_g f) (FE_u f) (Brx (fun g:(FL_g f).T=>Y g.2) (fun g=>Db4 f g.2) (pnU f) ([],[]))
structure TY where
 s:YS
 m:Y2
 e:YK
 b:YK
def spT (f:Nat) (Y:TY):List (Nat×SPf):=[(101,Db6 f Y.s),(102,Db7 f Y.m),(50,Chj f Y.e),(103,Chj f Y.b)]
def tyG:TY:=⟨Buj,C4s,Bnu,C53⟩
theorem Cpb {f:Nat} (h1:Bbe Tryz.prog 101 (sp_slw f)) (h2:Bbe Tryz.prog 102 (sp_mv f)) (h3:Bbe Tryz.prog 50 (sp_se f)) (h4:Bbe Tryz.prog 103 (sp_bp f)):∀ p ∈ spT f tyG,Plain Tryz.prog p.1∧Bbe Tryz.prog p.1 p.2:=fun p hp=>by
 unfold spT at hp
 simp only [List.mem_cons,List.not_mem_nil,or_false] at hp
 rcases hp with rfl | rfl | rfl | rfl
 ·exact ⟨is_gslow.plain,by rw [tyG,Db6,Cwt];exact h1⟩
 ·exact ⟨is_gmove.plain,by rw [tyG,Db7,Cws];exact h2⟩
 ·exact ⟨is_gsettle.plain,by rw [tyG,Chj,C1f];exact h3⟩
 ·exact ⟨is_gbump.plain,by rw [tyG,Chj,C1f];exact h4⟩
theorem D26:∀ p ∈ spT 53 tyG,Plain Tryz.prog p.1∧Bbe Tryz.prog p.1 p.2:=Cpb Coe Cwh Cwn Cwq
theorem D27:∀ p ∈ spT 107 tyG,Plain Tryz.prog p.1∧Bbe Tryz.prog p.1 p.2:=Cpb Cof Cwi Cwp Cwr
noncomputable def Df1 (f:Nat) (Y:TY):Ctx:=Brf Tryz.prog plGm [(49,Tryz.f49)] [] (spT f Y)
theorem Ce1 {f:Nat} {Y:TY} (h:∀ p ∈ spT f Y,Plain Tryz.prog p.1∧Bbe Tryz.prog p.1 p.2):CtxOk (Df1 f Y):=Bfj Bar puGm (fns_cons is_must V1) Bhs h
def x2 (x:GB) (s:S2):GB:=gb (gmU x.1 s.1 s.2.1) s.2.2
abbrev TTk (f:Nat):=Tree ((Ca2 f).T⊕Fq (C54 f))
def D28 (f:Nat) (e:Int):Fq (C54 f):=⟨.panic (.ifc 49 (.int .i64 e)),((),())⟩
def Byw (f:Nat) (e:Int):TTk f:=.leaf (.inr (D28 f e))
def z2:S2:=([],[],[])
def zM:MK:=([],[])
def xS (x:GB) (i:Int) (s:S2):GB:=(gmA x.1 s.1 s.2.1 (gmF x.1) (gmT x.1) i,(s.2.2,()),())
def But (f:Nat) (Y:TY) (x:GB) (i:Int) (s:S2):TTk f:=bif decide (i≤16) then thY (Y.m (xS x i s)) z2 (Byw f) fun s1=>thY (Y.e (xS x i s1)) zM (Byw f) fun s2=>thY (Y.b (xS x i (s2.1,s1.2.1,s2.2))) zM (Byw f) fun s3=>.leaf (.inl (((),()),xS x (W64 (i+1)) (s3.1,s1.2.1,s3.2)))
 else .leaf (.inr ⟨.exit 0,(((),()),xS x i s)⟩)
def Ce2 (f:Nat) (Y:TY) (g:(Ca2 f).T):TTk f:=But f Y g.2 (gmS g.2.1) (gs g.2)
def fu_tk (f:Nat) (_:(Ca2 f).T):Nat:=17
def sm_tk (f:Nat) (Y:TY):St→Tree (XE×St):=Bav (Ca2 f) (C54 f) (finP 49 .i64 [.exit 0] (Ce2 f Y) (fu_tk f))
theorem D5g {Y:TY} (h:∀ p ∈ spT 53 Y,Plain Tryz.prog p.1∧Bbe Tryz.prog p.1 p.2):Baw Tryz.prog 54 Cdz (sm_tk 53 Y):=Bft (Ce1 h) 7 _ _ _ Ce0 _ _ _ _ (fu_tk 53) (fun g=>by kernel_rfl)
theorem D5h {Y:TY} (h:∀ p ∈ spT 107 Y,Plain Tryz.prog p.1∧Bbe Tryz.prog p.1 p.2):Baw Tryz.prog 54 Cdz (sm_tk 107 Y):=Bft (Ce1 h) 7 _ _ _ Ce0 _ _ _ _ (fu_tk 107) (fun g=>by kernel_rfl)
structure CT where
 bl:List (TCT No)
 l:TCT Ban
 c:TCT Bbv
 ps:Dss
 w:Int
 fl:Int
 t:Int
def tkE (k:CT) (i:Nat) (s:S2):S2⊕Int:=match mvF k.bl k.l k.t ((i+1:Nat):Int) k.bl.length s with
 | .inr e=>.inr e
 | .inl s1=>match seF k.bl k.c k.t ((i+1:Nat):Int) k.w k.fl k.bl.length s1 with
  | .inr e=>.inr e
  | .inl s2=>match buF k.bl k.c k.ps k.t ((i+1:Nat):Int) k.w k.fl k.bl.length (s2.1,s1.2.1,s2.2) with
   | .inr e=>.inr e
   | .inl s3=>.inl (s3.1,s1.2.1,s3.2)
theorem C1g {bl:List (TCT No)} {l:TCT Ban} {t st:Int} {n k:Nat} {s s':S2} (hs:Inv2 n k 0 s) (h:mvF bl l t st n s=.inl s'):Inv2 n (k+n) 0 s':=by
 unfold mvF at h
 cases h1:Bap (stE bl s.2.1) 0 n s.1 with
 | inr e=>rw [h1] at h;cases h
 | inl ms =>
  rw [h1] at h
  change Bap (lvE l t st) 0 n (ms,s.2.1,s.2.2)=.inl s' at h
  have hm:ms.length=n:=Bay (n:=n) (Inv:=fun _ (s:Bal)=>s.length=n) C9o n 0 _ _ (by omega) hs.m h1
  have a:=Bay (n:=n) (Inv:=Inv2 n k) Col n 0 (ms,s.2.1,s.2.2) s' (by omega) ⟨hm,hs.o,hs.k⟩ h
  exact ⟨a.m,a.o,by have:=a.k;omega⟩
theorem Ce3 {bl:List (TCT No)} {c:TCT Bbv} {t st w fl:Int} {n k:Nat} {s:S2} {s':MK} (hn:n≤8) (hs:Inv2 n k 0 s) (h:seF bl c t st w fl n s=.inl s'):Inv2 n (k+64) 0 (s'.1,s.2.1,s'.2):=by
 unfold seF at h
 cases he:(seS bl c w fl n s).2.2.1 != 0 with
 | true=>rw [he] at h;cases h
 | false =>
  rw [he] at h
  cases h
  have a:=Bqr (bl:=bl) (bc:=c) (w:=w) (fl:=fl) (s:=s) hn (bne_eq_false_iff_eq.1 he)
  have hk:=hs.k
  refine ⟨?_,hs.o,?_⟩
  ·show (scV _ _ _).length=n
   rw [Cdt];exact hs.m
  ·show (kpV _ _ _ _ _).length≤_
   rw [Cdv];have:=a.2.1;omega
theorem Cwu {bl:List (TCT No)} {c:TCT Bbv} {ps:Dss} {t st w fl:Int} {n k:Nat} {s:S2} {s':MK} (hs:Inv2 n k 0 s) (h:buF bl c ps t st w fl n s=.inl s'):Inv2 n (k+n*ps.length) 0 (s'.1,s.2.1,s'.2):=by
 unfold buF at h
 have hk:=hs.k
 have a:=Bay (n:=n) (Inv:=InvO n s.2.2.length ps.length) Cp8 n 0 _ _ (by omega) ⟨hs.m,by show s.2.2.length≤s.2.2.length+0*ps.length;omega⟩ h
 exact ⟨a.m,hs.o,by have:=a.k;show s'.2.length≤_;omega⟩
theorem C1h {k:CT} {k0 m:Nat} (hn:k.bl.length≤8) (hp:k.ps.length≤1000) (i:Nat) (s s':S2) (_:i<m) (hs:Inv2 k.bl.length (k0+i*8072) 0 s) (h:tkE k i s=.inl s'):Inv2 k.bl.length (k0+(i+1)*8072) 0 s':=by
 unfold tkE at h
 cases h1:mvF k.bl k.l k.t ((i+1:Nat):Int) k.bl.length s with
 | inr e=>rw [h1] at h;cases h
 | inl s1 =>
  rw [h1] at h
  have a:=C1g hs h1
  simp only at h
  cases h2:seF k.bl k.c k.t ((i+1:Nat):Int) k.w k.fl k.bl.length s1 with
  | inr e=>rw [h2] at h;cases h
  | inl s2 =>
   rw [h2] at h
   have b:=Ce3 hn a h2
   simp only at h
   cases h3:buF k.bl k.c k.ps k.t ((i+1:Nat):Int) k.w k.fl k.bl.length (s2.1,s1.2.1,s2.2) with
   | inr e=>rw [h3] at h;cases h
   | inl s3 =>
    rw [h3] at h
    cases h
    have c:=Cwu b h3
    have d:k.bl.length*k.ps.length≤8*1000:=Nat.mul_le_mul hn hp
    exact ⟨c.m,c.o,by have:=c.k;simp only at this ⊢;omega⟩
def ctG (m:GM):CT:=⟨gmB m,gmL m,gmC m,gmP m,gmW m,gmF m,gmT m⟩
theorem Cwv {x:GB} {i:Int} {s:S2} {k:Nat} (hsz:(x.1.1.size:Int)≤Bb2 .i64) (hn:nBx x.1≤8) (hs:Inv2 (nBx x.1) k 0 s) (hk:k≤900000):C4s (xS x i s)=some (mvF (gmB x.1) (gmL x.1) (gmT x.1) i (nBx x.1) s):=by
 have h:Bn8 (xS x i s)=true:=by
  have:=hs.k
  unfold Bn8
  rw [Bool.and_eq_true,decide_eq_true_eq]
  exact ⟨Bdo.2 ⟨hsz,hs.m,hs.o,hn⟩,by show s.2.2.length≤900000;omega⟩
 unfold C4s;rw [h];rfl
theorem Cww {x:GB} {i:Int} {s:S2} {k:Nat} (hsz:(x.1.1.size:Int)≤Bb2 .i64) (hn:nBx x.1≤8) (hs:Inv2 (nBx x.1) k 0 s) (hk:k≤900000):Bnu (xS x i s)=some (seF (gmB x.1) (gmC x.1) (gmT x.1) i (gmW x.1) (gmF x.1) (nBx x.1) s):=by
 have h:Bn8 (xS x i s)=true:=by
  have:=hs.k
  unfold Bn8
  rw [Bool.and_eq_true,decide_eq_true_eq]
  exact ⟨Bdo.2 ⟨hsz,hs.m,hs.o,hn⟩,by show s.2.2.length≤900000;omega⟩
 unfold Bnu;rw [h];rfl
theorem Cwx {x:GB} {i:Int} {s:S2} {k:Nat} (hsz:(x.1.1.size:Int)≤Bb2 .i64) (hn:nBx x.1≤8) (hp:(gmP x.1).length≤1000) (hs:Inv2 (nBx x.1) k 0 s) (hk:k≤900000):C53 (xS x i s)=some (buF (gmB x.1) (gmC x.1) (gmP x.1) (gmT x.1) i (gmW x.1) (gmF x.1) (nBx x.1) s):=by
 have h:C1e (xS x i s)=true:=by
  have:=hs.k
  unfold C1e Bn8
  rw [Bool.and_eq_true,Bool.and_eq_true,decide_eq_true_eq,decide_eq_true_eq]
  exact ⟨⟨Bdo.2 ⟨hsz,hs.m,hs.o,hn⟩,by show s.2.2.length≤900000;omega⟩,hp⟩
 unfold C53;rw [h];rfl
def Cpc (f:Nat) (x:GB) (i:Nat) (s:S2):(Ca2 f).T:=(((),()),xS x ((i+1:Nat):Int) s)
def Db8 (f:Nat) (x:GB) (s:S2):Fq (C54 f):=⟨.exit 0,(((),()),xS x 17 s)⟩
def Buu (f:Nat) (x:GB):S2⊕Int→Fq (C54 f)
 | .inl s=>Db8 f x s
 | .inr e=>D28 f e
theorem Db9 (x:GB) (i j:Int) (s t:S2):xS (xS x i s) j t=xS x j t:=by
 unfold xS gmA
 rfl
theorem C55 {f:Nat} {x:GB} {i:Nat} {s:S2}:Ce2 f tyG (Cpc f x i s)=But f tyG x ((i+1:Nat):Int) s:=by
 show But f tyG (xS x ((i+1:Nat):Int) s) ((i+1:Nat):Int) s=_
 unfold But
 simp only [Db9]
theorem Dba {f:Nat} {x:GB} {s:S2} {k0:Nat} (hsz:(x.1.1.size:Int)≤Bb2 .i64) (hn:nBx x.1≤8) (hp:(gmP x.1).length≤1000) (hs:Inv2 (nBx x.1) k0 0 s) (hk0:k0≤700000) :
  iter (Ce2 f tyG) 17 (Cpc f x 0 s)=some (Buu f x (Bap (tkE (ctG x.1)) 0 16 s)):=by
 refine Bfx 16 (fun i s=>Cpc f x i s) (tkE (ctG x.1)) (Buu f x) (fun i s=>Inv2 (nBx x.1) (k0+i*8072) 0 s) (fun i s hi hl=>?_) (fun i s s' hi hl h=>C1h (k:=ctG x.1) (k0:=k0) (m:=16) hn hp i s s' hi hl h) (fun s hl=>?_) 16 0 s (by omega) ⟨hs.m,hs.o,by have:=hs.k;omega⟩
 ·rw [C55]
  have e1:=Cwv (i:=((i+1:Nat):Int)) hsz hn (s:=s) hl (by omega)
  unfold But
  rw [decide_eq_true (show ((i+1:Nat):Int)≤16 by omega),cond_true]
  show (thY (C4s (xS x ((i+1:Nat):Int) s)) z2 (Byw f) fun s1=>thY (Bnu (xS x ((i+1:Nat):Int) s1)) zM (Byw f) fun s2=>thY (C53 (xS x ((i+1:Nat):Int) (s2.1,s1.2.1,s2.2))) zM (Byw f) fun s3 =>
   .leaf (.inl (((),()),xS x (W64 (((i+1:Nat):Int)+1)) (s3.1,s1.2.1,s3.2)))).run=_
  unfold tkE
  change C4s (xS x ((i+1:Nat):Int) s)=some (mvF (ctG x.1).bl (ctG x.1).l (ctG x.1).t ((i+1:Nat):Int) (ctG x.1).bl.length s) at e1
  cases h1:mvF (ctG x.1).bl (ctG x.1).l (ctG x.1).t ((i+1:Nat):Int) (ctG x.1).bl.length s with
  | inr e=>rw [h1] at e1;rw [Brw e1];rfl
  | inl s1 =>
   rw [h1] at e1
   rw [Brv e1]
   have a:Inv2 (nBx x.1) (k0+i*8072+nBx x.1) 0 s1:=C1g hl h1
   have e2:=Cww (i:=((i+1:Nat):Int)) hsz hn (s:=s1) a (by omega)
   change Bnu (xS x ((i+1:Nat):Int) s1)=some (seF (ctG x.1).bl (ctG x.1).c (ctG x.1).t ((i+1:Nat):Int) (ctG x.1).w (ctG x.1).fl (ctG x.1).bl.length s1) at e2
   simp only
   cases h2:seF (ctG x.1).bl (ctG x.1).c (ctG x.1).t ((i+1:Nat):Int) (ctG x.1).w (ctG x.1).fl (ctG x.1).bl.length s1 with
   | inr e=>rw [h2] at e2;rw [Brw e2];rfl
   | inl s2 =>
    rw [h2] at e2
    rw [Brv e2]
    have b:Inv2 (nBx x.1) (k0+i*8072+nBx x.1+64) 0 (s2.1,s1.2.1,s2.2):=Ce3 hn a h2
    have e3:=Cwx (i:=((i+1:Nat):Int)) hsz hn hp (s:=(s2.1,s1.2.1,s2.2)) b (by omega)
    change C53 (xS x ((i+1:Nat):Int) (s2.1,s1.2.1,s2.2))=some (buF (ctG x.1).bl (ctG x.1).c (ctG x.1).ps (ctG x.1).t ((i+1:Nat):Int) (ctG x.1).w (ctG x.1).fl (ctG x.1).bl.length (s2.1,s1.2.1,s2.2)) at e3
    simp only
    cases h3:buF (ctG x.1).bl (ctG x.1).c (ctG x.1).ps (ctG x.1).t ((i+1:Nat):Int) (ctG x.1).w (ctG x.1).fl (ctG x.1).bl.length (s2.1,s1.2.1,s2.2) with
    | inr e=>rw [h3] at e3;rw [Brw e3];rfl
    | inl s3 =>
     rw [h3] at e3
     rw [Brv e3,Bb4 (by omega) (by omega)]
     rfl
 ·rw [C55]
  rfl
end St
end V
end Go.Proofs.YtcfanlgpkefogaaGreat
namespace Go.Proofs.YtcfanlgpkefogaaGreat
open Go.RowKit
namespace V
namespace St
noncomputable def X_ti (f:Nat) (Y:TY):Ctx:=Brf Tryz.prog plGm [(54,Tryz.f54),(49,Tryz.f49)] [((54,4),sm_tk f Y)] (spT f Y)
theorem Ce4 {f:Nat} {Y:TY} (h:∀ p ∈ spT f Y,Plain Tryz.prog p.1∧Bbe Tryz.prog p.1 p.2) (hl:Baw Tryz.prog 54 Cdz (sm_tk f Y)):CtxOk (X_ti f Y) :=
 Bfj Bar puGm (fns_cons is_gtick (fns_cons is_must V1)) (Bbg (Blf (ds:=[Cdz]) (by kernel_rfl) ⟨Bhm (k:=4) (by kernel_rfl) rfl hl,trivial⟩) (Bbg (Bc8 (by kernel_rfl)) Bgg)) h
def C56 (f:Nat) (e:Int):TU f:=.leaf ⟨false,pnU f e⟩
def Dbb (v:GB):GB:=(gmA v.1 (gmM v.1) (gmO v.1) (max 0 (W64 (gmF v.1-1))) (W64 (gmT v.1+1)) (gmS v.1),(gk v,()),())
def D5i (f:Nat) (y:Option (Fq (C54 f))):TU f:=bif isP 49 .i64 y then C56 f (panO 49 .i64 y).1 else bif isE (.exit 0) y then .leaf ⟨true,((),Dbb (Bc2 (.exit 0) y).2)⟩ else .fail
def D5j (f:Nat) (Y:TY) (x:GB) (ms:Bal):Option (Fq (C54 f)):=iter (Ce2 f Y) 17 (((),()),xS x 1 (ms,gmO x.1,gk x))
def T_ti (f:Nat) (Y:TY) (x:GB):TU f:=bif gmT x.1==4000 then C56 f 3 else thY (Y.s x) [] (C56 f) fun ms=>D5i f (D5j f Y x ms)
def slE (l:TCT Ban) (os:List Bool) (w fl:Int) (i:Nat) (ms:Bal):Bal⊕Int :=
 bif !Bbu ms os i||Bdb w fl i then .inl ms else bif Be9 l (Bag ms i).1 != 0 then .inr (Be9 l (Bag ms i).1) else
 bif (Bi9 l (Bag ms i)).2.1 != 0 then .inr 4 else .inl (Bba ms i (C4p l (Bag ms i)))
def tkF (k:CT) (s:S2):S2⊕Int:=bif k.t==4000 then .inr 3 else match Bap (slE k.l s.2.1 k.w k.fl) 0 k.bl.length s.1 with
 | .inr e=>.inr e
 | .inl ms=>Bap (tkE k) 0 16 (ms,s.2.1,s.2.2)
def C57 (x:GB):Bool:=C1e x&&decide ((gk x).length≤700000)
theorem C58 {x:GB} (h:C57 x=true):OkGM x.1∧(gk x).length≤700000∧(gmP x.1).length≤1000:=by
 unfold C57 at h
 simp only [Bool.and_eq_true,decide_eq_true_eq] at h
 have a:=C52 h.1
 exact ⟨a.1,h.2,a.2.2⟩
def Bl3 (x:GB):Option (S2⊕Int):=bif C57 x then some (tkF (ctG x.1) (gs x)) else none
def xT (x:GB) (s:S2):GB:=(gmA x.1 s.1 s.2.1 (max 0 (W64 (gmF x.1-1))) (W64 (gmT x.1+1)) 17,(s.2.2,()),())
def Df2 {β:Type} (m:GM) (ms:Bal) (os:List Bool) (k:GM→β):β:=match m with
 | (a0,a1,a2,a3,a4,a5,a6,a7,a8,a9,a10,a11,a12,a13,a14,_,_,a17,a18,a19,_,a21,_)=>k (a0,a1,a2,a3,a4,a5,a6,a7,a8,a9,a10,a11,a12,a13,a14,ms,os,a17,max 0 (W64 (a18-1)),W64 (a19+1),17,a21,())
def Dbc (f:Nat) (x:GB) (s:S2) (k:(FE_u f true).T→Tree (Bde (FE_u f))):Tree (Bde (FE_u f)):=Df2 x.1 s.1 s.2.1 fun m=>k ((),(m,(s.2.2,()),()))
def D5k (f:Nat) (x:GB) (s:S2):(FE_u f true).T:=((),xT x s)
theorem Ce5 {f:Nat} (Y:Y2):(Brx (L:=FL_g f) (E:=FE_u f) (fun g=>Y g.2) (fun g=>Dbc f g.2) (pnU f) ([],[],[]))=(Bug (L:=FL_g f) (E:=FE_u f) (fun g=>Y g.2) (fun g=>D5k f g.2) (pnU f) ([],[],[])):=rfl
abbrev spYT (f:Nat) (Y:Y2):SPf:=Bj2 Bj9 (FL_g f) (FE_u f) (Brx (fun g:(FL_g f).T=>Y g.2) (fun g=>Dbc f g.2) (pnU f) ([],[],[]))
theorem Cpd {f:Nat} {g:(FL_g f).T} {z:S2⊕Int} (h:Bl3 g.2=some z):(T_ti f tyG g.2).run=some (Bxt (L:=FL_g f) (E:=FE_u f) (fun g=>D5k f g.2) (pnU f) g z):=by
 unfold Bl3 at h
 cases ho:C57 g.2 with
 | false=>rw [ho] at h;cases h
 | true =>
  rw [ho] at h
  cases h
  obtain ⟨hg,hk,hp⟩:=C58 ho
  unfold T_ti tkF
  show Tree.run (bif gmT g.2.1==4000 then C56 f 3 else thY (Buj g.2) [] (C56 f) fun ms=>D5i f (D5j f tyG g.2 ms))=some (Bxt (L:=FL_g f) (E:=FE_u f) (fun g=>D5k f g.2) (pnU f) g (bif gmT g.2.1==4000 then .inr 3 else match Bap (slE (gmL g.2.1) (gmO g.2.1) (gmW g.2.1) (gmF g.2.1)) 0 (nBx g.2.1) (gmM g.2.1) with
   | .inr e=>.inr e
   | .inl ms=>Bap (tkE (ctG g.2.1)) 0 16 (ms,gmO g.2.1,gk g.2)))
  cases gmT g.2.1==4000 with
  | true=>rfl
  | false =>
   simp only [cond_false]
   have e1:Buj g.2=some (Bap (slE (gmL g.2.1) (gmO g.2.1) (gmW g.2.1) (gmF g.2.1)) 0 (nBx g.2.1) (gmM g.2.1)):=by
    unfold Buj
    rw [Bdo.2 hg]
    rfl
   cases h1:Bap (slE (gmL g.2.1) (gmO g.2.1) (gmW g.2.1) (gmF g.2.1)) 0 (nBx g.2.1) (gmM g.2.1) with
   | inr e=>rw [h1] at e1;rw [Brw e1];rfl
   | inl ms =>
    rw [h1] at e1
    rw [Brv e1]
    have hms:ms.length=nBx g.2.1:=Bay (n:=nBx g.2.1) (Inv:=fun _ (s:Bal)=>s.length=nBx g.2.1) (fun i s s' hi hl h=>Coc (m:=g.2.1) i s s' hi hl h) (nBx g.2.1) 0 _ _ (by omega) hg.ms h1
    have hy:D5j f tyG g.2 ms=some (Buu f g.2 (Bap (tkE (ctG g.2.1)) 0 16 (ms,gmO g.2.1,gk g.2))):=Dba (x:=g.2) (s:=(ms,gmO g.2.1,gk g.2)) (k0:=(gk g.2).length) hg.sz hg.n hp ⟨hms,hg.os,by show (gk g.2).length≤(gk g.2).length+0;omega⟩ hk
    rw [hy]
    simp only
    cases Bap (tkE (ctG g.2.1)) 0 16 (ms,gmO g.2.1,gk g.2) with
    | inl s=>rfl
    | inr e =>
     have h1:isP 49 .i64 (some (Buu f g.2 (.inr e)))=true:=Bme
     have h2:panO 49 .i64 (some (Buu f g.2 (.inr e)))=⟨e,((),())⟩:=Bi0
     unfold D5i
     rw [h1,h2]
     rfl
theorem D5l (Y:TY) (g:(FL_g 53).T):Blu (X_ti 53 Y) (Bcr (X_ti 53 Y) 6) 54 (ofKs (FL_g 53).ks g.1 (FL_g 53).nx) ((FL_g 53).lay.hp g) ((FL_g 53).lay.of g).nx (Bsh (FE_u 53))=T_ti 53 Y g.2:=by kernel_rfl
theorem Cwy:Bbe Tryz.prog 54 (spYT 53 Bl3):=by
 rw [spYT,Ce5]
 exact Bi8 (Ce4 D26 (D5g D26)) 6 Bfy _ _ _ _ (fun g=>T_ti 53 tyG g.2) (D5l tyG) fun _ _ _ h=>Cpd h
theorem D5m (Y:TY) (g:(FL_g 107).T):Blu (X_ti 107 Y) (Bcr (X_ti 107 Y) 6) 54 (ofKs (FL_g 107).ks g.1 (FL_g 107).nx) ((FL_g 107).lay.hp g) ((FL_g 107).lay.of g).nx (Bsh (FE_u 107))=T_ti 107 Y g.2:=by kernel_rfl
theorem Cwz:Bbe Tryz.prog 54 (spYT 107 Bl3):=by
 rw [spYT,Ce5]
 exact Bi8 (Ce4 D27 (D5h D27)) 6 Bfy _ _ _ _ (fun g=>T_ti 107 tyG g.2) (D5m tyG) fun _ _ _ h=>Cpd h
end St
end V
end Go.Proofs.YtcfanlgpkefogaaGreat
namespace Go.Proofs.YtcfanlgpkefogaaGreat
open Go.RowKit
namespace V
theorem Be1 {S B:Type} {f:Nat→S→S⊕B}:∀ (k i:Nat) (s:S) (b:B),Bap f i k s=.inr b→∃ j t,f j t=.inr b
 | 0,_,_,_,h=>by cases h
 | k+1,i,s,b,h=>by
  unfold Bap at h
  cases hf:f i s with
  | inl t=>rw [hf] at h;exact Be1 k (i+1) t b h
  | inr c=>rw [hf] at h;cases h;exact ⟨i,s,hf⟩
namespace St
theorem is_sTick:FnIs Tryz.prog (14,Tryz.f14):=⟨Tryz.func14,by kernel_rfl,by kernel_rfl⟩
theorem is_newGame:FnIs Tryz.prog (45,Tryz.f45):=⟨Tryz.func45,by kernel_rfl,by kernel_rfl⟩
theorem is_sTry:FnIs Tryz.prog (47,Tryz.f47):=⟨Tryz.func47,by kernel_rfl,by kernel_rfl⟩
theorem is_sTry1:FnIs Tryz.prog (97,Tryz.f97):=⟨Tryz.func97,by kernel_rfl,by kernel_rfl⟩
theorem is_clMot:FnIs Tryz.prog (95,Tryz.f95):=⟨Tryz.func95,by kernel_rfl,by kernel_rfl⟩
theorem is_clBool:FnIs Tryz.prog (96,Tryz.f96):=⟨Tryz.func96,by kernel_rfl,by kernel_rfl⟩
theorem D5n {l:TCT Ban} {os:List Bool} {w fl:Int} {i:Nat} {ms:Bal} {e:Int} (h:slE l os w fl i ms=.inr e):e≠0:=by
 unfold slE at h
 cases h1:!Bbu ms os i||Bdb w fl i with
 | true=>rw [h1] at h;cases h
 | false =>
  rw [h1] at h
  cases h2:Be9 l (Bag ms i).1 != 0 with
  | true=>rw [h2] at h;cases h;exact bne_iff_ne.1 h2
  | false =>
   rw [h2] at h
   cases h3:(Bi9 l (Bag ms i)).2.1 != 0 with
   | true=>rw [h3] at h;cases h;decide
   | false=>rw [h3] at h;cases h
theorem D5o {bl:List (TCT No)} {os:List Bool} {i:Nat} {ms:Bal} {e:Int} (h:stE bl os i ms=.inr e):e≠0:=by
 unfold stE at h
 cases h1:!Bbu ms os i with
 | true=>rw [h1] at h;cases h
 | false =>
  rw [h1] at h
  cases h3:(Bja (Bch bl i) (Bag ms i)).2.1 != 0 with
  | true=>rw [h3] at h;cases h;exact bne_iff_ne.1 h3
  | false=>rw [h3] at h;cases h
theorem D5p {bl:List (TCT No)} {l:TCT Ban} {t st:Int} {n:Nat} {s:S2} {e:Int} (h:mvF bl l t st n s=.inr e):e≠0:=by
 unfold mvF at h
 cases h1:Bap (stE bl s.2.1) 0 n s.1 with
 | inr e' =>
  rw [h1] at h
  cases h
  obtain ⟨j,t,hj⟩:=Be1 _ _ _ _ h1
  exact D5o hj
 | inl ms =>
  rw [h1] at h
  obtain ⟨s',hs'⟩:=Bqp (Cdo (l:=l) (t:=t) (st:=st)) n 0 (ms,s.2.1,s.2.2)
  change Bap (lvE l t st) 0 n (ms,s.2.1,s.2.2)=.inr e at h
  rw [hs'] at h
  cases h
theorem Buv {bl:List (TCT No)} {c:TCT Bbv} {t st w fl:Int} {n:Nat} {s:S2} {e:Int} (h:seF bl c t st w fl n s=.inr e):e≠0:=by
 unfold seF at h
 cases he:(seS bl c w fl n s).2.2.1 != 0 with
 | true=>rw [he] at h;cases h;exact bne_iff_ne.1 he
 | false=>rw [he] at h;cases h
theorem D5q {b:TCT No} {c:TCT Bbv} {ps:Dss} {os:List Bool} {w fl t st:Int} {i k:Nat} {s:MK} {e:Int} (h:bpE b c ps os w fl t st i k s=.inr (.inr e)):e≠0:=by
 unfold bpE at h
 cases h1:!Bbu s.1 os i||Bdb w fl i with
 | true=>rw [h1] at h;cases h
 | false =>
  rw [h1] at h
  cases h2:(bmV b (Bag s.1 i) (Bd3 ps k) c).2.1==0 with
  | true=>rw [h2] at h;cases h
  | false =>
   rw [h2] at h
   cases h3:(bmV b (Bag s.1 i) (Bd3 ps k) c).2.1==4 with
   | true =>
    rw [h3] at h
    cases h
    exact beq_eq_false_iff_ne.1 h2
   | false=>rw [h3] at h;cases h
theorem D5r {bl:List (TCT No)} {c:TCT Bbv} {ps:Dss} {t st w fl:Int} {n:Nat} {s:S2} {e:Int} (h:buF bl c ps t st w fl n s=.inr e):e≠0:=by
 unfold buF at h
 obtain ⟨j,u,hj⟩:=Be1 _ _ _ _ h
 unfold boE at hj
 cases hf:Bap (bpE (Bch bl j) c ps s.2.1 w fl t st j) 0 ps.length u with
 | inl a=>rw [hf] at hj;cases hj
 | inr y =>
  rw [hf] at hj
  obtain ⟨k,v,hk⟩:=Be1 _ _ _ _ hf
  have:y=.inr e:=hj
  subst this
  exact D5q hk
theorem D5s {k:CT} {i:Nat} {s:S2} {e:Int} (h:tkE k i s=.inr e):e≠0:=by
 unfold tkE at h
 cases h1:mvF k.bl k.l k.t ((i+1:Nat):Int) k.bl.length s with
 | inr e'=>rw [h1] at h;cases h;exact D5p h1
 | inl s1 =>
  rw [h1] at h
  simp only at h
  cases h2:seF k.bl k.c k.t ((i+1:Nat):Int) k.w k.fl k.bl.length s1 with
  | inr e'=>rw [h2] at h;cases h;exact Buv h2
  | inl s2 =>
   rw [h2] at h
   simp only at h
   cases h3:buF k.bl k.c k.ps k.t ((i+1:Nat):Int) k.w k.fl k.bl.length (s2.1,s1.2.1,s2.2) with
   | inr e'=>rw [h3] at h;cases h;exact D5r h3
   | inl s3=>rw [h3] at h;cases h
theorem Cpe {k:CT} {s:S2} {e:Int} (h:tkF k s=.inr e):e≠0:=by
 unfold tkF at h
 cases h0:k.t==4000 with
 | true=>rw [h0] at h;cases h;decide
 | false =>
  rw [h0] at h
  simp only [cond_false] at h
  cases h1:Bap (slE k.l s.2.1 k.w k.fl) 0 k.bl.length s.1 with
  | inr e' =>
   rw [h1] at h
   cases h
   obtain ⟨j,t,hj⟩:=Be1 _ _ _ _ h1
   exact D5n hj
  | inl ms =>
   rw [h1] at h
   obtain ⟨j,t,hj⟩:=Be1 _ _ _ _ h
   exact D5s hj
def ctS (g:TCT cGr) (s:TCT cSt):CT:=⟨V2 g,g.1,g.2.2.1,postsV g.1,s.2.2.1,s.2.2.2.1,s.2.2.2.2.1⟩
abbrev TkR:Type:=TCTs [cSt,.sl cKn,cI]
def Bfz (e:Int):TkR:=(zS,[],e,())
def tkR (s:TCT cSt):S2⊕Int→TkR
 | .inl r=>((r.1,r.2.1,s.2.2.1,max 0 (W64 (s.2.2.2.1-1)),W64 (s.2.2.2.2.1+1),()),r.2.2,0,())
 | .inr e=>Bfz e
def tkV (g:TCT cGr) (s:TCT cSt):TkR:=tkR s (tkF (ctS g s) (msT s,osT s,[]))
def TickV (g:TCT cGr) (s:TCT cSt):TkR:=bif Be0 g s != 0 then Bfz (Be0 g s) else tkV g s
def Buw (r:TkR):TkR:=(etaS r.1,r.2.1,r.2.2.1,())
abbrev Cx0:PureT:=Bbh [cGr,cSt] [cSt,.sl cKn,cI] (fun x=>decide ((x.1.1.1.size:Int)≤Bb2 .i64)) (fun x=>Buw (TickV x.1 x.2.1))
abbrev TTR:=Tree TkR
def gT (g:TCT cGr) (s:TCT cSt):GB:=((g.1.1,g.1.2.1,g.1.2.2.1,g.1.2.2.2.1,g.1.2.2.2.2.1,g.1.2.2.2.2.2.1.1.1,g.1.2.2.2.2.2.1.1.2.1,g.1.2.2.2.2.2.1.2.1,g.1.2.2.2.2.2.2.1,g.1.2.2.2.2.2.2.2.1,g.1.2.2.2.2.2.2.2.2.1,g.2.1,g.2.2.1.1,g.2.2.1.2.1,postsV g.1,([]++s.1),([]++s.2.1),s.2.2.1,s.2.2.2.1,s.2.2.2.2.1,0,((),(),()),()),([],()),())
def neT {β:Type} {c:Type} (l:List c) (k:Tree β):Tree β:=bif !List.isEmpty l then k else .fail
theorem Bqs {β:Type} {c:Type} {l:List c} {k:Tree β} (h:1≤l.length):neT l k=k:=by
 cases l with
 | nil=>simp at h
 | cons _ _=>rfl
def acT {β:Type} {c:Type} (l:List c) (b:Nat) (k:Tree β):Tree β:=bif Bcs [] l b then k else .fail
theorem Bqt {β:Type} {c:Type} {l:List c} {b:Nat} {k:Tree β} (h:l.length≤1000) (hb:b≤48):acT l b k=k:=by
 unfold acT
 rw [Bi7 (by simp;omega) hb];rfl
def Cx1 (Y:Y2) (g:TCT cGr) (s:TCT cSt):TTR:=szT g.1 (bif Be0 g s != 0 then .leaf (Bfz (Be0 g s)) else szT g.1 (neT (msT s) (acT (msT s) 48 (neT (osT s) (acT (osT s) 1 (
 thY (Y (gT g s)) z2 (fun e=>bif e != 0 then .leaf (Bfz e) else .fail) fun r=>.leaf (tkR s (.inl r))))))))
abbrev plTk:List (Nat×PureT):=(25,C0u)::plGm
theorem puTk:Bcd Tryz.prog plTk:=puOk_cons is_Posts.plain C0v puGm
noncomputable def Df3:List (Nat×Func):=[(14,Tryz.f14),(45,Tryz.f45),(47,Tryz.f47),(97,Tryz.f97),(95,Tryz.f95),(96,Tryz.f96)]
noncomputable def Dbd (Y:Y2):Ctx:=Brf Tryz.prog plTk Df3 [] [(54,spYT 53 Y)]
theorem Cx2 (Y:Y2) (x:TCTs [cGr,cSt]):Bcr (Dbd Y) 8 (.fn 14) (Bdd [cGr,cSt] x) Bbz 0 (Bh7 Tryz.prog [cSt,.sl cKn,cI])=Cx1 Y x.1 x.2.1:=by kernel_rfl
theorem Cx3:CtxOk (Dbd Bl3):=Bfj Bar puTk (fns_cons is_sTick (fns_cons is_newGame (fns_cons is_sTry (fns_cons is_sTry1 (fns_cons is_clMot (fns_cons is_clBool V1)))))) Bhs (fun p hp=>by
 rw [List.mem_singleton] at hp;subst hp;exact ⟨is_gtick.plain,Cwy⟩)
theorem Bux {l:TCT Ban}:(postsV l).length≤25:=by
 unfold postsV
 cases h:Bc3 l==0 with
 | false=>show (0:Nat)≤25;omega
 | true =>
  have k:Bc3 l=0:=beq_iff_eq.1 h
  have hh:(Bb0 l).length≤12:=by
   unfold Bc3 Bkv at k
   cases h1:decide (((Bb0 l).length:Int)<1)||(decide (((Bb0 l).length:Int)>12)||decide (((Bcb l).length:Int)>256)) with
   | true=>rw [h1] at k;cases k
   | false =>
    simp only [Bool.or_eq_false_iff,decide_eq_false_iff_not] at h1
    omega
  show (Bb7 l).length≤25
  rw [Byq]
  omega
structure StaOk (g:TCT cGr) (s:TCT cSt):Prop where
 gr:groE g=0
 n1:1≤(V2 g).length
 n8:(V2 g).length≤8
 m:(msT s).length=(V2 g).length
 o:(osT s).length=(V2 g).length
 ok:Bgf (okS g (osT s)) 0 (msT s)=true
 num:C0z (V2 g).length s=false
theorem C1i {g:TCT cGr} {s:TCT cSt} (h:Be0 g s=0):StaOk g s:=by
 unfold Be0 at h
 cases h1:groE g != 0 with
 | true=>rw [h1,cond_true] at h;exact absurd h (bne_iff_ne.1 h1)
 | false =>
  have hg:groE g=0:=bne_eq_false_iff_eq.1 h1
  rw [h1,cond_false] at h
  unfold vaE at h
  cases h2:Bxq g s with
  | false=>rw [h2] at h;cases h
  | true =>
   rw [h2,cond_true] at h
   cases h3:Bgf (okS g (osT s)) 0 (msT s) with
   | false=>rw [h3] at h;cases h
   | true =>
    rw [h3,cond_true] at h
    cases h4:C0z (V2 g).length s with
    | true=>rw [h4] at h;cases h
    | false =>
     have a:=Cdb hg
     have b:=Bua h2
     exact ⟨hg,a.1,a.2,b.1,b.2,h3,h4⟩
theorem Ce6 {g:TCT cGr} {s:TCT cSt} (hs:(g.1.1.size:Int)≤Bb2 .i64) (h:StaOk g s):C57 (gT g s)=true:=by
 unfold C57 C1e Bn8
 simp only [Bool.and_eq_true,decide_eq_true_eq]
 refine ⟨⟨⟨Bdo.2 ⟨hs,?_,?_,h.n8⟩,by show (0:Nat)≤900000;omega⟩,?_⟩,by show (0:Nat)≤700000;omega⟩
 ·show ([]++s.1:Bal).length=(V2 g).length
  rw [List.nil_append];exact h.m
 ·show ([]++s.2.1:List Bool).length=(V2 g).length
  rw [List.nil_append];exact h.o
 ·have:=Bux (l:=g.1)
  show (postsV g.1).length≤1000
  omega
theorem Cx4 {g:TCT cGr} {s:TCT cSt} (hs:(g.1.1.size:Int)≤Bb2 .i64) (h:StaOk g s):Bl3 (gT g s)=some (tkF (ctS g s) (msT s,osT s,[])):=by
 unfold Bl3
 rw [Ce6 hs h]
 rfl
theorem Cx5 {g:TCT cGr} {s:TCT cSt} (hs:(g.1.1.size:Int)≤Bb2 .i64):(Cx1 Bl3 g s).sat (fun y=>y=Buw (TickV g s)):=by
 unfold Cx1 TickV
 rw [Bce hs,Bce hs]
 cases h1:Be0 g s != 0 with
 | true=>exact rfl
 | false =>
  have h:=C1i (bne_eq_false_iff_eq.1 h1)
  have hn1:=h.n1
  have hn8:=h.n8
  have hm:=h.m
  have ho:=h.o
  simp only [cond_false]
  rw [Bqs (by omega),Bqt (by omega) (by decide),Bqs (by omega),Bqt (by omega) (by decide)]
  have hy:=Cx4 hs h
  unfold tkV
  cases hf:tkF (ctS g s) (msT s,osT s,[]) with
  | inl r=>rw [hf] at hy;rw [Brv hy];exact rfl
  | inr e =>
   rw [hf] at hy
   rw [Brw hy,show (e != 0)=true from bne_iff_ne.2 (Cpe hf)]
   exact rfl
theorem Ce7:Bai Tryz.prog 14 Cx0:=Bbj Cx3 8 (fun x=>Cx1 Bl3 x.1 x.2.1) (Cx2 Bl3) fun x hok _=>Cx5 (of_decide_eq_true hok)
end St
end V
end Go.Proofs.YtcfanlgpkefogaaGreat
namespace Go.Proofs.YtcfanlgpkefogaaGreat
open Go.RowKit
namespace V
namespace St
theorem is_sStrike:FnIs Tryz.prog (11,Tryz.f11):=⟨Tryz.func11,by kernel_rfl,by kernel_rfl⟩
def ex2:Bal:=[((50000,60106,()),(0,190000,()),(0,-12800,()),()),((80000,60000,()),(0,0,()),(0,0,()),())]
end St
end V
end Go.Proofs.YtcfanlgpkefogaaGreat
namespace Go.Proofs.YtcfanlgpkefogaaGreat
open Go.RowKit
namespace V
namespace St
def Cu9 (a b:TCT Bat):Bool:=(a.1.1==b.1.1&&(a.1.2.1==b.1.2.1&&true))&&((a.2.1.1==b.2.1.1&&(a.2.1.2.1==b.2.1.2.1&&true))&&((a.2.2.1.1==b.2.2.1.1&&(a.2.2.1.2.1==b.2.2.1.2.1&&true))&&true))
end St
end V
end Go.Proofs.YtcfanlgpkefogaaGreat
