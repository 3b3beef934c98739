import Derived.Test.YtlangijnealfjaaGreatZy
import Derived.Test.YtlangijnealfjaaGreatAj
import Derived.Test.YtlangijnealfjaaGreatDw
import Derived.Test.YtlangijnealfjaaGreatZn
namespace Go.Proofs.YtlangijnealfjaaGreat
open Go.RowKit
namespace V
namespace Wi
open St Tp
theorem is_TopWitnessed:FnIs Tryz.prog (6,Tryz.f6):=⟨Tryz.func6,by kernel_rfl,by kernel_rfl⟩
theorem is_has9:FnIs Tryz.prog (32,Tryz.f32):=⟨Tryz.func32,by kernel_rfl,by kernel_rfl⟩
def eqS (a b:ByteArray):Bool:=a.data.toList==b.data.toList
noncomputable def Bfo:Code:=(Al (bodyOf Tryz.f32)).getD 0 .skip
def Af0:Lay:={ keys:=[0,1,5],ks:=[.d (.sl .s),.d .s,.d cI],bs:=[],n:=18,nx:=1000,marks:=[] }
def Bjd:Lay:={ keys:=[4],ks:=[.d .b],bs:=[],n:=18,nx:=1000,marks:=[] }
def Bje:Lay:={ keys:=[],ks:=[],bs:=[],n:=18,nx:=1000,marks:=[] }
def Af1:XE→Lay:=fun e=>match e with | .ret=>Bjd | _=>Bje
abbrev CHa:=Af0.T⊕A1 Af1
def Aaz (l:List ByteArray) (t:ByteArray) (i:Int):Af0.T:=((l,t,i,()),())
def Aiy (_:Int):A1 Af1:=⟨.ret,((true,()),())⟩
def Ab0:A1 Af1:=⟨.exit 0,((),())⟩
def A3z (g:Af0.T):Tree CHa:=bif decide (g.1.2.2.1<((g.1.1:List ByteArray).length:Int)) then inN (g.1.1:List ByteArray).length g.1.2.2.1 (bif eqS (As g.1.1 (Int.toNat g.1.2.2.1) (Aq .s)) g.1.2.1 then .leaf (.inr (Aiy 0)) else .leaf (.inl (Aaz g.1.1 g.1.2.1 (W64 (g.1.2.2.1+1))))) else .leaf (.inr Ab0)
def Av5 (g:Af0.T):Nat:=(g.1.1:List ByteArray).length+1
theorem Bjf:Aw Tryz.prog 32 Bfo (Ar Af0 Af1 (D7 [.ret,.exit 0] A3z Av5)):=B8 (X:=ctx Tryz.prog [] []) (Ap Ak puOk_nil A0) 6 _ Af0 Af1 (fun e=>by cases e <;> exact Nat.le_refl _) [.ret,.exit 0] A3z Av5 (fun g=>by kernel_rfl)
def Ll (l:List ByteArray) (t:ByteArray):Bool:=l.any fun x=>eqS x t
theorem Bfp {l:List ByteArray} {t:ByteArray} (hl:(l.length:Int)≤B7 .i64):iter A3z (l.length+1) (Aaz l t 0)=some (bif Ll l t then Aiy 0 else Ab0):=by
 have:=Aj7 (st:=A3z) l (Aq .s) (fun i=>Aaz l t i) (fun x=>eqS x t) (fun _=>Aiy 0) Ab0 hl (fun i hi=>by
  show (bif decide ((i:Int)<(l.length:Int)) then inN l.length (i:Int) (bif eqS (As l (Int.toNat (i:Int)) (Aq .s)) t then .leaf (.inr (Aiy 0)) else .leaf (.inl (Aaz l t (W64 ((i:Int)+1))))) else .leaf (.inr Ab0):Tree CHa).run=_
  rw [decide_eq_true (show (i:Int)<(l.length:Int) by omega),cond_true,F3 (by omega),show Int.toNat (i:Int)=i by omega]
  cases eqS (As l i (Aq .s)) t <;> rfl) (by
  show (bif decide ((l.length:Int)<(l.length:Int)) then _ else .leaf (.inr Ab0):Tree CHa).run=_
  rw [decide_eq_false (Int.lt_irrefl _)];rfl)
 exact this
def Bjg (y:Option (A1 Af1)):Tree (TCTs [.b]):=bif isE .ret y then .leaf ((C2 .ret y).1.1,()) else bif isE (.exit 0) y then .leaf (false,()) else .fail
abbrev Bfq:PureT:=Bj [.sl .s,.s] [.b] (fun _=>true) (fun x=>(Ll x.1 x.2.1,()))
noncomputable def Bjh:Ctx:=G4 Tryz.prog [] [(32,Tryz.f32)] [((32,2),Ar Af0 Af1 (D7 [.ret,.exit 0] A3z Av5))]
theorem B32:CtxOk Bjh:=Bs Ak puOk_nil (fns_cons is_has9 A0) (Cc (by kernel_rfl) (by kernel_rfl) Bjf)
theorem Bji:A6 Tryz.prog 32 Bfq:=Bl B32 6 (fun x=>Bjg (iter A3z (x.1.length+1) (Aaz x.1 x.2.1 0))) (fun x=>by kernel_rfl) fun x _ hw=>by
 rw [Bfp (Dl hw.1)]
 cases Ll x.1 x.2.1 <;> exact rfl
abbrev cs_topWitnessed:List TC:=[.sl F2,Pu,.i .u8,.b]
abbrev Af2:Type:=TCT cGr→TCT cSt→Int→TkR
abbrev Wr:Type:=List (TCT cMk)→Int→Int→List ByteArray×Int
abbrev Bar (P:Af2):PureT:=Bj [cGr,cSt,cI] [cSt,.sl cKn,cI] (fun x=>Bby x.1) (fun x=>A8g (P x.1 x.2.1 x.2.2.1))
abbrev Bas (P:Wr):PureT:=Bj [.sl cMk,cI,cI] [.sl .s,cI] (fun _=>true) (fun x=>((P x.1 x.2.1 x.2.2.1).1,(P x.1 x.2.1 x.2.2.1).2,()))
noncomputable def plTw (G:FGn) (S:FSs) (B:FBb) (W:FBl) (F:FSk) (P:Af2) (A:Wr):List (Nat×PureT):=(27,Anl G S B)::(29,Anm W)::(28,Bbz F)::(30,Bar P)::(31,Bas A)::(32,Bfq)::(13,P1)::[]
theorem puTw:D3 Tryz.prog (plTw Lp N9 Nx Me skV PlayV Nu):=puOk_cons is_set.plain B6o (puOk_cons is_blow.plain B6p (puOk_cons is_sStrike.plain Aka (puOk_cons is_sPlay.plain B07 (puOk_cons is_Facts.plain Bk8 (puOk_cons is_has9.plain Bji (puOk_cons is_works06.plain Amb puOk_nil))))))
end Wi
end V
end Go.Proofs.YtlangijnealfjaaGreat
namespace Go.Proofs.YtlangijnealfjaaGreat
open Go.RowKit
namespace V
namespace Wi
open St Tp
noncomputable def Av6:Code:=(Al (bodyOf Tryz.f6)).getD 0 .skip
noncomputable def Av7:Code:=(Al (bodyOf Tryz.f6)).getD 1 .skip
abbrev bsW:List BK:=[(2,76,kSt),(16,76,kSt)]
def A15:Lay:={ keys:=[0,3,10,15,17,18,19,20],ks:=[.d (.sl F2),.d .b,.p 2 0 0 0,.p 16 0 0 0,.o 98 cMk,.d .b,.d (.sl cKn),.d cI],bs:=bsW,n:=252,nx:=1000,marks:=[] }
def Bfr:Lay:={ keys:=[0,3,10,15,17,18],ks:=[.d (.sl F2),.d .b,.p 2 0 0 0,.p 16 0 0 0,.o 98 cMk,.d .b],bs:=bsW,n:=252,nx:=1000,marks:=[] }
def Bfs:Lay:={ keys:=[8],ks:=[.d .b],bs:=[],n:=252,nx:=1000,marks:=[] }
def Ab1:XE→Lay:=fun e=>match e with | .ret=>Bfs | _=>Bfr
abbrev CW0:=A15.T⊕A1 Ab1
structure QW where
 l:List (TCT F2)
 tw:Bool
 s:SKTs kSt
 u:SKTs kSt
def mkM (k b f t:Int):TCT cMk:=(k,b,f,t,())
def A40 (q:QW) (ms:List (TCT cMk)) (sh:Bool) (ks:Kns) (i:Int):A15.T:=((q.l,q.tw,(),(),ms,sh,ks,i,()),(q.s,q.u,()))
def Aiz (q:QW) (ms:List (TCT cMk)) (sh:Bool):A1 Ab1:=⟨.exit 0,((q.l,q.tw,(),(),ms,sh,()),(q.s,q.u,()))⟩
def Bft (b:Bool):A1 Ab1:=⟨.ret,((b,()),())⟩
def Aj0:Tree CW0:=.leaf (.inr (Bft false))
def Nm (q:QW) (sh:Bool) (ks:Kns) (i:Int) (ms:List (TCT cMk)):Tree CW0:=.leaf (.inl (A40 q ms sh ks (W64 (i+1))))
def Ab2 (ms:List (TCT cMk)) (m:TCT cMk) (k:List (TCT cMk)→Tree CW0):Tree CW0:=bif Df ms [m] 32 then k (ms++[m]) else .fail
def B33 (q:QW) (sh:Bool) (ks:Kns) (i:Int) (x:TCT cKn) (ms:List (TCT cMk)):Tree CW0:=bif x.2.2.1==1 then bif x.2.2.2.1==0 then Ab2 ms (mkM 3 0 x.1 x.1) (Nm q sh ks i) else Nm q sh ks i ms else Nm q sh ks i ms
def Am8 (q:QW) (ks:Kns) (i:Int) (x:TCT cKn) (ms:List (TCT cMk)) (sh:Bool):Tree CW0:=Ab2 ms (mkM 5 x.2.2.2.1 x.1 x.1) fun ms=>bif x.2.2.1==0 then Ab2 ms (mkM 5 x.2.2.2.2.1 x.1 x.1) (B33 q sh ks i x) else B33 q sh ks i x ms
def B34 (q:QW) (ks:Kns) (i:Int) (x:TCT cKn) (ms:List (TCT cMk)) (sh:Bool):Tree CW0:=bif sh then Am8 q ks i x ms true else bif x.2.2.2.1 != 0 then Am8 q ks i x ms true else bif x.2.2.1==0 then Am8 q ks i x ms (x.2.2.2.2.1 != 0) else Am8 q ks i x ms false
def Bat (q:QW) (ks:Kns) (i:Int) (x:TCT cKn) (ms:List (TCT cMk)) (sh:Bool):Tree CW0:=bif decide (x.2.2.2.1<0) then Aj0 else bif decide (x.2.2.2.1≥(q.l.length:Int)) then Aj0 else bif x.2.2.1==0 then bif decide (x.2.2.2.2.1<0) then Aj0 else bif decide (x.2.2.2.2.1≥(q.l.length:Int)) then Aj0 else B34 q ks i x ms sh else B34 q ks i x ms sh
def Ab3 (q:QW) (ms:List (TCT cMk)) (sh:Bool) (ks:Kns) (i:Int):Tree CW0:=bif decide (i<(ks.length:Int)) then inN ks.length i (Bat q ks i (As ks (Int.toNat i) (Aq cKn)) ms sh) else .leaf (.inr (Aiz q ms sh))
def qw0 (g:A15.T):QW:=⟨g.1.1,g.1.2.1,g.2.1,g.2.2.1⟩
def A16 (g:A15.T):Tree CW0:=Ab3 (qw0 g) g.1.2.2.2.2.1 g.1.2.2.2.2.2.1 g.1.2.2.2.2.2.2.1 g.1.2.2.2.2.2.2.2.1
def Av8 (g:A15.T):Nat:=(g.1.2.2.2.2.2.2.1:Kns).length+1
noncomputable def A55:Ctx:=ctx Tryz.prog [] []
theorem Bjj (g:A15.T):evC Tryz.prog (D1 A55 6) A55.pures 6 A55.u (fun _=>none) Av6 (A15.of g) (Db A15 Ab1)=A16 g:=by kernel_rfl
def A17:Lay:={ keys:=[0,3,10,15,18,23,24],ks:=[.d (.sl F2),.d .b,.p 2 0 0 0,.p 16 0 0 0,.d .b,.d (.sl .s),.d cI],bs:=bsW,n:=252,nx:=2000,marks:=[] }
def Bjk:Lay:={ keys:=[3,18,23],ks:=[.d .b,.d .b,.d (.sl .s)],bs:=[],n:=252,nx:=2000,marks:=[] }
def Bfu:Lay:={ keys:=[8],ks:=[.d .b],bs:=[],n:=252,nx:=2000,marks:=[] }
def Ab4:XE→Lay:=fun e=>match e with | .ret=>Bfu | _=>Bjk
abbrev CW1:=A17.T⊕A1 Ab4
def A18 (q:QW) (sh:Bool) (fs:List ByteArray) (i:Int):A17.T:=((q.l,q.tw,(),(),sh,fs,i,()),(q.s,q.u,()))
def B5p (q:QW) (sh:Bool) (fs:List ByteArray):A1 Ab4:=⟨.exit 2,((q.tw,sh,fs,()),())⟩
def Bfv (b:Bool):A1 Ab4:=⟨.ret,((b,()),())⟩
def Av9 (a b:TCT cPt):Bool:=a.1==b.1&&(a.2.1==b.2.1&&true)
def Bau (a b:TCT B0):Bool:=Av9 a.1 b.1&&(Av9 a.2.1 b.2.1&&(Av9 a.2.2.1 b.2.2.1&&true))
def V8 (s:SKTs kSt):Au:=s.1
def Ava (s:SKTs kSt) (i:Int):TCT B0:=A9 (V8 s) (Int.toNat i)
def Aj1 (q:QW) (sh:Bool) (fs:List ByteArray) (i:Int):Tree CW1:=.leaf (.inl (A18 q sh fs (W64 (i+1))))
def Ab5 (q:QW) (sh:Bool) (fs:List ByteArray) (i:Int):Tree CW1:=bif decide (i<(q.l.length:Int)) then bif !sh then inN (V8 q.u).length i (inN (V8 q.s).length i (bif !Bau (Ava q.u i) (Ava q.s i) then .leaf (.inr (Bfv false)) else Aj1 q sh fs i)) else Aj1 q sh fs i else .leaf (.inr (B5p q sh fs))
def qw1 (g:A17.T):QW:=⟨g.1.1,g.1.2.1,g.2.1,g.2.2.1⟩
def A19 (g:A17.T):Tree CW1:=Ab5 (qw1 g) g.1.2.2.2.2.1 g.1.2.2.2.2.2.1 g.1.2.2.2.2.2.2.1
def Avb (g:A17.T):Nat:=(g.1.1:List (TCT F2)).length+1
theorem Bjl (g:A17.T):evC Tryz.prog (D1 A55 6) A55.pures 6 A55.u (fun _=>none) Av7 (A17.of g) (Db A17 Ab4)=A19 g:=by kernel_rfl
end Wi
end V
end Go.Proofs.YtlangijnealfjaaGreat
namespace Go.Proofs.YtlangijnealfjaaGreat
open Go.RowKit
namespace V
namespace Wi
open St Tp
def lfW:Tree Unit:=.leaf ()
def Avc (fs:List ByteArray):Tree Unit:=bif !Ll fs nm2 then lfW else .fail
def Avd (fs:List ByteArray) (x:Bool):Tree Unit:=bif Ll fs nm9==x then Avc fs else .fail
def Ave (tw sh:Bool) (fs:List ByteArray):Tree Unit:=bif Ll fs nm0 then bif Ll fs nm8==sh then bif Ll fs nm1==tw then bif tw then Avd fs sh else Avd fs false else .fail else .fail else .fail
def B5q (y:Option (A1 Ab4)):Tree Unit:=bif isE .ret y then (bif (C2 .ret y).1.1 then lfW else .fail) else bif isE (.exit 2) y then Ave (C2 (.exit 2) y).1.1 (C2 (.exit 2) y).1.2.1 (C2 (.exit 2) y).1.2.2.1 else .fail
def Bav (q:QW) (sh:Bool) (r:List ByteArray×Int):Tree Unit:=bif r.2 != 0 then .fail else bif ((V8 q.u).length:Int)!=(q.l.length:Int) then .fail else B5q (iter A19 (q.l.length+1) (A18 q sh r.1 1))
def Aj2 (A:Wr) (q:QW) (sh:Bool) (ms:List (TCT cMk)):Tree Unit:=Bav q sh (A ms 0 3)
def Avf (A:Wr) (q:QW) (ms:List (TCT cMk)) (sh:Bool):Tree Unit:=bif q.tw then bif Df ms [mkM 0 0 1000 1000] 32 then Aj2 A q sh (ms++[mkM 0 0 1000 1000]) else .fail else Aj2 A q sh ms
def qwx (v:Bfr.T):QW:=⟨v.1.1,v.1.2.1,v.2.1,v.2.2.1⟩
def B5r (A:Wr) (y:Option (A1 Ab1)):Tree Unit:=bif isE .ret y then (bif (C2 .ret y).1.1 then lfW else .fail) else bif isE (.exit 0) y then Avf A (qwx (C2 (.exit 0) y)) (C2 (.exit 0) y).1.2.2.2.2.1 (C2 (.exit 0) y).1.2.2.2.2.2.1 else .fail
def Avg (A:Wr) (q:QW) (ks:Kns):Tree Unit:=bif decide ((ks.length:Int)>25) then lfW else B5r A (iter A16 (ks.length+1) (A40 q [mkM 0 0 0 0] false ks 0))
def B5s (A:Wr) (l:List (TCT F2)) (tw:Bool) (s:TCT cSt) (k1:Kns) (r:TkR):Tree Unit:=bif r.2.2.1 != 0 then bif r.2.2.1==4 then lfW else bif r.2.2.1==6 then lfW else .fail else
 bif Df ([]:Kns) k1 40 then bif Df (([]:Kns)++k1) r.2.1 40 then Avg A ⟨l,tw,Lv s,Lv r.1⟩ ((([]:Kns)++k1)++r.2.1) else .fail else .fail
def B5t (P:Af2) (A:Wr) (l:List (TCT F2)) (tk:Int) (tw:Bool) (g:TCT cGr) (s:TCT cSt) (r:TkR):Tree Unit:=bif r.2.2.1 != 0 then bif r.2.2.1==4 then lfW else .fail else szT g.1 (B5s A l tw s r.2.1 (P g (St.etaS r.1) (Int.tmod (W64 tk) 41)))
def Avh (F:FSk) (P:Af2) (A:Wr) (l:List (TCT F2)) (tk:Int) (tw:Bool) (g:TCT cGr) (s:TCT cSt) (b:Bool) (w:TCT cBl):Tree Unit:=bif !b then lfW else szT g.1 (B5t P A l tk tw g s (F g s w))
def B35 (G:FGn) (S:FSs) (B:FBb) (W:FBl) (F:FSk) (P:Af2) (A:Wr) (l:List (TCT F2)) (w:TCT Pu) (tk:Int) (tw:Bool):Tree Unit :=
 bif (l.length:Int)==0 then lfW else bif decide ((l.length:Int)>4) then lfW else bif decide (l.length≤1000) then Avh F P A l tk tw (B48 (G 6000 0 (700,0,()) l)) (St.etaS (S 6000 0 (700,0,()) l)) (B 6000 0 (700,0,()) l) (B49 (W w 0)) else .fail
end Wi
open Wi
noncomputable def Nn (G:Tp.FGn) (S:Tp.FSs) (B:Tp.FBb) (W:Tp.FBl) (F:Tp.FSk) (P:Af2) (A:Wr):Ctx:=G4 Tryz.prog (plTw G S B W F P A) [(6,Tryz.f6)] [((6,18),fun s=>Ar A15 Ab1 (D7 [.ret,.exit 0] A16 Av8) (fzT [19] s)),((6,36),Ar A17 Ab4 (D7 [.ret,.exit 2] A19 Avb))]
theorem B36 (G:Tp.FGn) (S:Tp.FSs) (B:Tp.FBb) (W:Tp.FBl) (F:Tp.FSk) (P:Af2) (A:Wr) (y:TCTs cs_topWitnessed):D1 (Nn G S B W F P A) 9 (.fn 6) (E7 cs_topWitnessed y) Ce 0 Aex=B35 G S B W F P A y.1 y.2.1 y.2.2.1 y.2.2.2.1:=by kernel_rfl
end V
end Go.Proofs.YtlangijnealfjaaGreat
