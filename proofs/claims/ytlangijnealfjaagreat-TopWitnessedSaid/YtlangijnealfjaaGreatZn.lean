import Derived.Test.YtlangijnealfjaaGreatAg
namespace Go.Proofs.YtlangijnealfjaaGreat
open Go.RowKit
namespace V
open St
theorem is_Replace:FnIs Tryz.prog (20,Tryz.f20):=⟨Tryz.func20,by kernel_rfl,by kernel_rfl⟩
noncomputable def Bay:Code:=(Al (bodyOf Tryz.f20)).getD 0 .skip
def Bg3:List BK:=[bL,(1,28,kP6),(2,28,kP6)]
def Wh:Lay:={ keys:=[2,3,4,5,8,34,35,36],ks:=[.d cI,.d (.sl A4),.p 0 0 0 0,.p 1 0 0 0,.p 2 0 0 0,.d (.sl A4),.d cI,.d cI],bs:=Bg3,n:=94,nx:=1000,marks:=[] }
def Bg4:Lay:={ keys:=[8],ks:=[.p 2 0 0 0],bs:=[(2,28,kP6)],n:=94,nx:=1000,marks:=[] }
def Baz:Lay:={ keys:=[8,9],ks:=[.p 2 0 0 0,.d cI],bs:=[(2,28,kP6)],n:=94,nx:=1000,marks:=[] }
def Wj:XE→Lay
 | .ret=>Baz
 | _=>Bg4
def plRpl:List (Nat×PureT):=(23,An7)::(15,A4l)::(59,P2)::[]
theorem puRpl:D3 Tryz.prog plRpl:=puOk_cons is_May.plain B42 (puOk_cons is_Touch.plain Afo (puOk_cons is_Towards.plain A2b puOk_nil))
def awR (r:Int) (d:TCT A4):Int:=W64 (W64 (r+d.2.1)+2)
def twP (p:TCT cPt) (r:Int) (d:TCT A4):TCT cPt:=((TwR p.1 p.2.1 d.1.1 d.1.2.1 (awR r d)).1.1,(TwR p.1 p.2.1 d.1.1 d.1.2.1 (awR r d)).1.2,())
def rpQ (p:TCT cPt) (r:Int) (d:TCT A4):Option (TCT cPt) :=
 bif decide (A1n ((p.1,p.2.1,()),r,()) d≥0) then none else
 bif !(p.1==d.1.1&&(p.2.1==d.1.2.1&&true)) then bif (TwR p.1 p.2.1 d.1.1 d.1.2.1 (awR r d)).2 != 0 then none else some (twP p r d) else
 some (W64 (d.1.1+awR r d),d.1.2.1,())
def rpF (l:TCT Am) (p:TCT cPt) (r:Int) (o:List (TCT A4)) (d:TCT A4):Option (TCT cPt) :=
 match rpQ p r d with
 | none=>none
 | some q=>bif mayB l q r o&&mayE l q r o==0 then some q else none
def rpS (l:TCT Am) (p:TCT cPt) (r:Int) (o:List (TCT A4)):List (TCT A4)→Option (TCT cPt)
 | []=>none
 | d::ds=>match rpF l p r o d with
  | some q=>some q
  | none=>rpS l p r o ds
structure Crp where
 w:SKTs kLw
 p:SKTs kP6
 q:SKTs kP6
 r:Int
 o:List (TCT A4)
 os:List (TCT A4)
 n:Int
noncomputable def Kn (c:Crp) (i:Int):Wh.T:=((c.r,c.o,(),(),(),c.os,c.n,i,()),(c.w,c.p,c.q,()))
def A41 (q:TCT cPt):A1 Wj:=⟨.ret,(((),0,()),((q.1,q.2.1,()),()))⟩
def Lr (q:SKTs kP6):A1 Wj:=⟨.exit 0,(((),()),(q,()))⟩
abbrev TRp:=Tree (Wh.T⊕A1 Wj)
noncomputable def V9 (c:Crp) (i:Int) (q:TCT cPt):TRp:=szT (Kh c.w) (bif mayB (Kh c.w) q c.r c.o then bif mayE (Kh c.w) q c.r c.o==0 then .leaf (.inr (A41 q)) else .leaf (.inl (Kn c (W64 (i+1)))) else .leaf (.inl (Kn c (W64 (i+1)))))
noncomputable def Avo (c:Crp) (i:Int) (d:TCT A4):TRp :=
 bif decide (A1n ((c.p.1,c.p.2.1,()),c.r,()) d≥0) then .leaf (.inl (Kn c (W64 (i+1)))) else
 bif !(c.p.1==d.1.1&&(c.p.2.1==d.1.2.1&&true)) then bif (TwR c.p.1 c.p.2.1 d.1.1 d.1.2.1 (awR c.r d)).2 != 0 then .leaf (.inl (Kn c (W64 (i+1)))) else V9 c i (twP (c.p.1,c.p.2.1,()) c.r d) else
 V9 c i (W64 (d.1.1+awR c.r d),d.1.2.1,())
noncomputable def Bb0 (c:Crp) (i:Int):TRp:=bif decide (i<c.n) then bif decide (0≤i∧i<(c.os.length:Int)) then Avo c i (As c.os (Int.toNat i) (Aq A4)) else .fail else .leaf (.inr (Lr c.q))
def crp (g:Wh.T):Crp:=⟨g.2.1,g.2.2.1,g.2.2.2.1,g.1.1,g.1.2.1,g.1.2.2.2.2.2.1,g.1.2.2.2.2.2.2.1⟩
noncomputable def Ls (g:Wh.T):TRp:=Bb0 (crp g) g.1.2.2.2.2.2.2.2.1
def Xm (g:Wh.T):Nat:=(g.1.2.2.2.2.2.1:List (TCT A4)).length+1
noncomputable def Ao9:Ctx:=ctx Tryz.prog plRpl []
theorem Xn:CtxOk Ao9:=Ap Ak puRpl A0
theorem Bg5:Aw Tryz.prog 20 Bay (Ar Wh Wj (D7 [.ret,.exit 0] Ls Xm)):=B8 Xn 6 _ Wh Wj (fun e=>by cases e <;> exact Nat.le_refl _) [.ret,.exit 0] Ls Xm (fun g=>by kernel_rfl)
noncomputable def Bg6:Ctx:=G4 Tryz.prog plRpl [(20,Tryz.f20)] [((20,7),Ar Wh Wj (D7 [.ret,.exit 0] Ls Xm))]
theorem Avp:CtxOk Bg6:=Bs Ak puRpl (fns_cons is_Replace A0) (Cc (by kernel_rfl) (by kernel_rfl) Bg5)
def A1b (l:TCT Am) (p:TCT cPt) (r:Int) (o:List (TCT A4)):Crp:=⟨Ec l,(p.1,p.2.1,()),(0,0,()),r,o,o,o.length⟩
def A6b:Option (TCT cPt)→A1 Wj
 | some q=>A41 q
 | none=>Lr (0,0,())
theorem Bg7 {l:TCT Am} {p:TCT cPt} {r:Int} {o:List (TCT A4)} (hs:(l.1.size:Int)≤B7 .i64) (ho:o.length≤60000):iter Ls (o.length+1) (Kn (A1b l p r o) 0)=some (A6b (rpS l p r o o)):=by
 have key:=Fv (st:=Ls) o (fun i (_:Unit)=>Kn (A1b l p r o) (i:Int)) (fun i d s=>match rpF l p r o d with | some q=>some (.inr (A41 q)) | none=>some (.inl ())) (fun _=>some (Lr (0,0,()))) (fun _ _=>True)
  (fun i s hi _=>by
   have hrun:(Ls (Kn (A1b l p r o) (i:Int))).run=some (match rpF l p r o o[i] with | some q=>.inr (A41 q) | none=>.inl (Kn (A1b l p r o) ((i+1:Nat):Int))):=by
    show (bif decide ((i:Int)<(o.length:Int)) then bif decide (0≤(i:Int)∧(i:Int)<(o.length:Int)) then Avo (A1b l p r o) (i:Int) (As o (Int.toNat (i:Int)) (Aq A4)) else .fail else .leaf (.inr (Lr (0,0,()))):TRp).run=_
    rw [decide_eq_true (show (i:Int)<(o.length:Int) by omega),decide_eq_true (show 0≤(i:Int)∧(i:Int)<(o.length:Int) by omega),show Int.toNat (i:Int)=i by omega,De hi]
    simp only [cond_true]
    have hn:(W64 ((i:Int)+1))=((i+1:Nat):Int):=by rw [Be (n:=(i:Int)+1) (by omega) (by omega)];rfl
    have ht:∀ q:TCT cPt,(V9 (A1b l p r o) (i:Int) q).run=some (bif mayB l q r o&&mayE l q r o==0 then .inr (A41 q) else .inl (Kn (A1b l p r o) ((i+1:Nat):Int))):=by
     intro q
     unfold V9
     rw [Ei (l:=Kh (A1b l p r o).w) hs,hn]
     show (bif mayB l q r o then bif mayE l q r o==0 then _ else _ else _:TRp).run=_
     cases mayB l q r o <;> cases mayE l q r o==0 <;> rfl
    unfold Avo rpF rpQ
    rw [hn]
    show (bif decide (A1n ((p.1,p.2.1,()),r,()) o[i]≥0) then _ else bif !(p.1==o[i].1.1&&(p.2.1==o[i].1.2.1&&true)) then bif (TwR p.1 p.2.1 o[i].1.1 o[i].1.2.1 (awR r o[i])).2 != 0 then _ else V9 (A1b l p r o) (i:Int) (twP p r o[i]) else V9 (A1b l p r o) (i:Int) (W64 (o[i].1.1+awR r o[i]),o[i].1.2.1,()):TRp).run=_
    cases decide (A1n ((p.1,p.2.1,()),r,()) o[i]≥0) with
    | true=>rfl
    | false =>
     cases !(p.1==o[i].1.1&&(p.2.1==o[i].1.2.1&&true)) with
     | false =>
      simp only [cond_false]
      rw [ht]
      cases mayB l (W64 (o[i].1.1+awR r o[i]),o[i].1.2.1,()) r o&&mayE l (W64 (o[i].1.1+awR r o[i]),o[i].1.2.1,()) r o==0 <;> rfl
     | true =>
      cases (TwR p.1 p.2.1 o[i].1.1 o[i].1.2.1 (awR r o[i])).2 != 0 with
      | true=>rfl
      | false =>
       simp only [cond_false,cond_true]
       rw [ht]
       cases mayB l (twP p r o[i]) r o&&mayE l (twP p r o[i]) r o==0 <;> rfl
   cases hb:rpF l p r o o[i] with
   | none=>rw [hb] at hrun;exact ⟨hrun,trivial⟩
   | some q=>rw [hb] at hrun;exact hrun)
  (fun s e _ he=>by
   cases he
   show (bif decide ((o.length:Int)<(o.length:Int)) then _ else Tree.leaf (Sum.inr (Lr (0,0,()))):TRp).run=_
   rw [decide_eq_false (show ¬ (o.length:Int)<(o.length:Int) by omega)]
   rfl)
  o.length 0 () (A6b (rpS l p r o o)) (o.length+1) (by omega) (by omega) trivial (by
   rw [List.drop_zero]
   have:∀ (ds:List (TCT A4)) (i:Nat),Rh (fun i d (s:Unit)=>match rpF l p r o d with | some q=>some (.inr (A41 q)) | none=>some (.inl ())) (fun _=>some (Lr (0,0,()))) i ds ()=some (A6b (rpS l p r o ds)):=by
    intro ds
    induction ds with
    | nil=>intro i;rfl
    | cons d ds ih =>
     intro i
     simp only [Rh]
     unfold rpS
     cases rpF l p r o d with
     | some q=>rfl
     | none=>exact ih (i+1)
   exact this o 0)
 exact key
def Bb1 (l:TCT Am) (p:TCT cPt) (r:Int) (o:List (TCT A4)):Int:=bif mayE l p r o != 0 then mayE l p r o else bif mayB l p r o then 0 else bif (rpS l p r o o).isSome then 0 else 15
def Avq (l:TCT Am) (p:TCT cPt) (r:Int) (o:List (TCT A4)):TCT cPt:=bif mayE l p r o != 0 then (0,0,()) else bif mayB l p r o then p else (rpS l p r o o).getD (0,0,())
def rpl (l:TCT Am) (p:TCT cPt) (r:Int) (o:List (TCT A4)):TCTs [cPt,cI]:=(((Avq l p r o).1,(Avq l p r o).2.1,()),Bb1 l p r o,())
abbrev B5y:PureT:=Bj [Am,cPt,cI,.sl A4] [cPt,cI] (fun x=>decide ((x.1.1.size:Int)≤B7 .i64)) (fun x=>(((Avq x.1 x.2.1 x.2.2.1 x.2.2.2.1).1,(Avq x.1 x.2.1 x.2.2.1 x.2.2.2.1).2.1,()),Bb1 x.1 x.2.1 x.2.2.1 x.2.2.2.1,()))
noncomputable def Ab8 (l:TCT Am) (p:TCT cPt) (r:Int) (o:List (TCT A4)):Option (A1 Wj):=iter Ls (o.length+1) (Kn (A1b l p r o) 0)
abbrev TRl:=Tree (TCTs [cPt,cI])
noncomputable def Avr (l:TCT Am) (p:TCT cPt) (r:Int) (o:List (TCT A4)):TRl:=szT l (bif mayE l (p.1,p.2.1,()) r o != 0 then .leaf ((0,0,()),mayE l (p.1,p.2.1,()) r o,()) else
 bif mayB l (p.1,p.2.1,()) r o then .leaf ((p.1,p.2.1,()),0,()) else bif isE .ret (Ab8 l p r o) then .leaf ((C2 .ret (Ab8 l p r o)).2.1,(C2 .ret (Ab8 l p r o)).1.2.1,()) else bif isE (.exit 0) (Ab8 l p r o) then .leaf ((0,0,()),15,()) else .fail)
theorem B3a {l:TCT Am} {p:TCT cPt} {r:Int} {o:List (TCT A4)} (h:mayE l p r o=0):o.length≤12:=by
 unfold mayE Lo at h
 cases h1:Cp l != 0 with
 | true=>rw [h1] at h;exact absurd h (bne_iff_ne.1 h1)
 | false =>
  rw [h1] at h
  cases h2:Hv p.1 p.2.1 != 0 with
  | true=>rw [h2] at h;cases h
  | false =>
   rw [h2] at h
   have h:cbE r o=0:=h
   unfold cbE at h
   cases h3:!St.inR r 1 16384 with
   | true=>rw [h3] at h;cases h
   | false =>
    rw [h3] at h
    cases h4:decide ((o.length:Int)>12) with
    | true=>rw [h4] at h;cases h
    | false=>have:=of_decide_eq_false h4;omega
theorem Avs {l:TCT Am} {p:TCT cPt} {r:Int} {o:List (TCT A4)} (hs:(l.1.size:Int)≤B7 .i64):(Avr l p r o).sat fun y=>y=rpl l p r o:=by
 unfold Avr rpl Avq Bb1
 rw [Ei hs]
 show (bif mayE l p r o != 0 then .leaf ((0,0,()),mayE l p r o,()) else bif mayB l p r o then .leaf ((p.1,p.2.1,()),0,()) else _:TRl).sat _
 cases h:mayE l p r o != 0 with
 | true=>exact An rfl
 | false =>
  simp only [cond_false]
  cases mayB l p r o with
  | true=>exact An rfl
  | false =>
   simp only [cond_false]
   have:=B3a (bne_eq_false_iff_eq.1 h)
   have e:Ab8 l p r o=some (A6b (rpS l p r o o)):=Bg7 hs (by omega)
   rw [e]
   cases rpS l p r o o <;> exact An rfl
theorem Bg8:A6 Tryz.prog 20 B5y:=Bl Avp 8 (fun x=>Avr x.1 x.2.1 x.2.2.1 x.2.2.2.1) (fun x=>by kernel_rfl) fun x hok _=>Avs (of_decide_eq_true hok)
end V
end Go.Proofs.YtlangijnealfjaaGreat
namespace Go.Proofs.YtlangijnealfjaaGreat
open Go.RowKit
namespace V
def fzT (ts:List Nat) (s:St):St:={ s with tm:=fun t=>fzA s.hp (ts.flatMap fun t=>A38 (s.tm t)) (s.tm t),hp:=fzH s.hp (ts.flatMap fun t=>A38 (s.tm t)) }
theorem Ama {P:Program} {fn:FuncId} {c:Code} {f:St→Tree (XE×St)} (ts:List Nat) (h:Aw P fn c f):Aw P fn c (fun s=>f (fzT ts s)):=fun w0 _ s a w R hS hf =>
 G1 (h w0 _ (fzT ts s) a w R (hS.fz _) hf) fun _ _ _ ⟨τ,x,s',h1,h2⟩=>⟨τ,x,s',(Uw hS.h _).trans h1,h2⟩
end V
end Go.Proofs.YtlangijnealfjaaGreat
namespace Go.Proofs.YtlangijnealfjaaGreat
open Go.RowKit
namespace V
namespace Tp
open St
theorem is_works06:FnIs Tryz.prog (13,Tryz.f13):=⟨Tryz.func13,by kernel_rfl,by kernel_rfl⟩
def plW06:List (Nat×PureT):=(46,P1)::(20,B5y)::(8,A47)::[]
theorem puW06:D3 Tryz.prog plW06:=puOk_cons is_works05.plain A2a (puOk_cons is_Replace.plain Bg8 (puOk_cons is_green.plain Afj puOk_nil))
theorem Amb:A6 Tryz.prog 13 P1:=A0h (L6 (u:=20) Ak puW06 Ww) 40 (fun _=>by kernel_rfl)
end Tp
end V
end Go.Proofs.YtlangijnealfjaaGreat
namespace Go.Proofs.YtlangijnealfjaaGreat
open Go.RowKit
namespace V
namespace Tp
open St
theorem is_works07:FnIs Tryz.prog (16,Tryz.f16):=⟨Tryz.func16,by kernel_rfl,by kernel_rfl⟩
theorem is_laws:FnIs Tryz.prog (35,Tryz.f35):=⟨Tryz.func35,by kernel_rfl,by kernel_rfl⟩
abbrev Bju:TC:=.st [cI,.sl .s,.sl .s,.s]
abbrev Bgb:TC:=.st [.s,cI,.sl Bju]
noncomputable def plW07:List (Nat×PureT):=(35,Bg9 (Ab9 20 Tryz.prog [] B7p) 40 35 [] [Bgb])::(46,P1)::[]
theorem puW07:D3 Tryz.prog plW07:=puOk_cons is_laws.plain (B3d (L6 Ak puOk_nil Ww) _ _ _ _) (puOk_cons is_works05.plain A2a puOk_nil)
set_option maxRecDepth 100000 in
theorem q_works07:A6 Tryz.prog 16 P1:=A0h (L6 (u:=20) Ak puW07 Ww) 60 (fun _=>by kernel_rfl)
end Tp
end V
end Go.Proofs.YtlangijnealfjaaGreat
