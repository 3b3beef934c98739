import Derived.Test.YtlangijnealfjaaGreatAg
namespace Go.Proofs.YtlangijnealfjaaGreat
open Go.RowKit
namespace V
open St
theorem is_Replace:FnIs Tryz.prog (20,Tryz.f20):=⟨Tryz.func20,by kernel_rfl,by kernel_rfl⟩
noncomputable def Ap4:Code:=(Ai (bodyOf Tryz.f20)).getD 0 .skip
def As9:List BK:=[bL,(1,28,kP6),(2,28,kP6)]
def Q2:Lay:={ keys:=[2,3,4,5,8,34,35,36],ks:=[.d cI,.d (.sl A1),.p 0 0 0 0,.p 1 0 0 0,.p 2 0 0 0,.d (.sl A1),.d cI,.d cI],bs:=As9,n:=94,nx:=1000,marks:=[] }
def Asa:Lay:={ keys:=[8],ks:=[.p 2 0 0 0],bs:=[(2,28,kP6)],n:=94,nx:=1000,marks:=[] }
def Ap5:Lay:={ keys:=[8,9],ks:=[.p 2 0 0 0,.d cI],bs:=[(2,28,kP6)],n:=94,nx:=1000,marks:=[] }
def Q3:XE→Lay
 | .ret=>Ap5
 | _=>Asa
def plRpl:List (Nat×PureT):=(23,Ac1)::(15,Qk)::(59,Vh)::[]
theorem puRpl:Ca Tryz.prog plRpl:=puOk_cons is_May.plain Alx (puOk_cons is_Touch.plain Y1 (puOk_cons is_Towards.plain A96 puOk_nil))
def awR (r:Int) (d:TCT A1):Int:=W64 (W64 (r+d.2.1)+2)
def twP (p:TCT cPt) (r:Int) (d:TCT A1):TCT cPt:=((TwR p.1 p.2.1 d.1.1 d.1.2.1 (awR r d)).1.1,(TwR p.1 p.2.1 d.1.1 d.1.2.1 (awR r d)).1.2,())
def rpQ (p:TCT cPt) (r:Int) (d:TCT A1):Option (TCT cPt) :=
 bif decide (Jp ((p.1,p.2.1,()),r,()) d≥0) then none else
 bif !(p.1==d.1.1&&(p.2.1==d.1.2.1&&true)) then bif (TwR p.1 p.2.1 d.1.1 d.1.2.1 (awR r d)).2 != 0 then none else some (twP p r d) else
 some (W64 (d.1.1+awR r d),d.1.2.1,())
def rpF (l:TCT Ao) (p:TCT cPt) (r:Int) (o:List (TCT A1)) (d:TCT A1):Option (TCT cPt) :=
 match rpQ p r d with
 | none=>none
 | some q=>bif mayB l q r o&&mayE l q r o==0 then some q else none
def rpS (l:TCT Ao) (p:TCT cPt) (r:Int) (o:List (TCT A1)):List (TCT A1)→Option (TCT cPt)
 | []=>none
 | d::ds=>match rpF l p r o d with
  | some q=>some q
  | none=>rpS l p r o ds
structure Crp where
 w:SKTs kLw
 p:SKTs kP6
 q:SKTs kP6
 r:Int
 o:List (TCT A1)
 os:List (TCT A1)
 n:Int
noncomputable def Hd (c:Crp) (i:Int):Q2.T:=((c.r,c.o,(),(),(),c.os,c.n,i,()),(c.w,c.p,c.q,()))
def Wu (q:TCT cPt):A4 Q3:=⟨.ret,(((),0,()),((q.1,q.2.1,()),()))⟩
def Hy (q:SKTs kP6):A4 Q3:=⟨.exit 0,(((),()),(q,()))⟩
abbrev TRp:=Tree (Q2.T⊕A4 Q3)
noncomputable def P2 (c:Crp) (i:Int) (q:TCT cPt):TRp:=szT (Fo c.w) (bif mayB (Fo c.w) q c.r c.o then bif mayE (Fo c.w) q c.r c.o==0 then .leaf (.inr (Wu q)) else .leaf (.inl (Hd c (W64 (i+1)))) else .leaf (.inl (Hd c (W64 (i+1)))))
noncomputable def Agd (c:Crp) (i:Int) (d:TCT A1):TRp :=
 bif decide (Jp ((c.p.1,c.p.2.1,()),c.r,()) d≥0) then .leaf (.inl (Hd c (W64 (i+1)))) else
 bif !(c.p.1==d.1.1&&(c.p.2.1==d.1.2.1&&true)) then bif (TwR c.p.1 c.p.2.1 d.1.1 d.1.2.1 (awR c.r d)).2 != 0 then .leaf (.inl (Hd c (W64 (i+1)))) else P2 c i (twP (c.p.1,c.p.2.1,()) c.r d) else
 P2 c i (W64 (d.1.1+awR c.r d),d.1.2.1,())
noncomputable def Ap6 (c:Crp) (i:Int):TRp:=bif decide (i<c.n) then bif decide (0≤i∧i<(c.os.length:Int)) then Agd c i (Ar c.os (Int.toNat i) (Ap A1)) else .fail else .leaf (.inr (Hy c.q))
def crp (g:Q2.T):Crp:=⟨g.2.1,g.2.2.1,g.2.2.2.1,g.1.1,g.1.2.1,g.1.2.2.2.2.2.1,g.1.2.2.2.2.2.2.1⟩
noncomputable def Hz (g:Q2.T):TRp:=Ap6 (crp g) g.1.2.2.2.2.2.2.2.1
def Ra (g:Q2.T):Nat:=(g.1.2.2.2.2.2.1:List (TCT A1)).length+1
noncomputable def Ad1:Ctx:=ctx Tryz.prog plRpl []
theorem Rb:CtxOk Ad1:=Aj Ak puRpl A2
theorem Asb:As Tryz.prog 20 Ap4 (Aq Q2 Q3 (Da [.ret,.exit 0] Hz Ra)):=C0 Rb 6 _ Q2 Q3 (fun e=>by cases e <;> exact Nat.le_refl _) [.ret,.exit 0] Hz Ra (fun g=>by kernel_rfl)
noncomputable def Asd:Ctx:=Fu Tryz.prog plRpl [(20,Tryz.f20)] [((20,7),Aq Q2 Q3 (Da [.ret,.exit 0] Hz Ra))]
theorem Age:CtxOk Asd:=Bt Ak puRpl (A0 is_Replace A2) (Bs (by kernel_rfl) (by kernel_rfl) Asb)
def U7 (l:TCT Ao) (p:TCT cPt) (r:Int) (o:List (TCT A1)):Crp:=⟨C3 l,(p.1,p.2.1,()),(0,0,()),r,o,o,o.length⟩
def Z2:Option (TCT cPt)→A4 Q3
 | some q=>Wu q
 | none=>Hy (0,0,())
theorem Ase {l:TCT Ao} {p:TCT cPt} {r:Int} {o:List (TCT A1)} (hs:(l.1.size:Int)≤Au .i64) (ho:o.length≤60000):iter Hz (o.length+1) (Hd (U7 l p r o) 0)=some (Z2 (rpS l p r o o)):=by
 have key:=De (st:=Hz) o (fun i (_:Unit)=>Hd (U7 l p r o) (i:Int)) (fun i d s=>match rpF l p r o d with | some q=>some (.inr (Wu q)) | none=>some (.inl ())) (fun _=>some (Hy (0,0,()))) (fun _ _=>True)
  (fun i s hi _=>by
   have hrun:(Hz (Hd (U7 l p r o) (i:Int))).run=some (match rpF l p r o o[i] with | some q=>.inr (Wu q) | none=>.inl (Hd (U7 l p r o) ((i+1:Nat):Int))):=by
    show (bif decide ((i:Int)<(o.length:Int)) then bif decide (0≤(i:Int)∧(i:Int)<(o.length:Int)) then Agd (U7 l p r o) (i:Int) (Ar o (Int.toNat (i:Int)) (Ap A1)) else .fail else .leaf (.inr (Hy (0,0,()))):TRp).run=_
    rw [decide_eq_true (show (i:Int)<(o.length:Int) by omega),decide_eq_true (show 0≤(i:Int)∧(i:Int)<(o.length:Int) by omega),show Int.toNat (i:Int)=i by omega,Cl hi]
    simp only [cond_true]
    have hn:(W64 ((i:Int)+1))=((i+1:Nat):Int):=by rw [C6 (n:=(i:Int)+1) (by omega) (by omega)];rfl
    have ht:∀ q:TCT cPt,(P2 (U7 l p r o) (i:Int) q).run=some (bif mayB l q r o&&mayE l q r o==0 then .inr (Wu q) else .inl (Hd (U7 l p r o) ((i+1:Nat):Int))):=by
     intro q
     unfold P2
     rw [Dw (l:=Fo (U7 l p r o).w) hs,hn]
     show (bif mayB l q r o then bif mayE l q r o==0 then _ else _ else _:TRp).run=_
     cases mayB l q r o <;> cases mayE l q r o==0 <;> rfl
    unfold Agd rpF rpQ
    rw [hn]
    show (bif decide (Jp ((p.1,p.2.1,()),r,()) o[i]≥0) then _ else bif !(p.1==o[i].1.1&&(p.2.1==o[i].1.2.1&&true)) then bif (TwR p.1 p.2.1 o[i].1.1 o[i].1.2.1 (awR r o[i])).2 != 0 then _ else P2 (U7 l p r o) (i:Int) (twP p r o[i]) else P2 (U7 l p r o) (i:Int) (W64 (o[i].1.1+awR r o[i]),o[i].1.2.1,()):TRp).run=_
    cases decide (Jp ((p.1,p.2.1,()),r,()) o[i]≥0) with
    | true=>rfl
    | false =>
     cases !(p.1==o[i].1.1&&(p.2.1==o[i].1.2.1&&true)) with
     | false =>
      simp only [cond_false]
      rw [ht]
      cases mayB l (W64 (o[i].1.1+awR r o[i]),o[i].1.2.1,()) r o&&mayE l (W64 (o[i].1.1+awR r o[i]),o[i].1.2.1,()) r o==0 <;> rfl
     | true =>
      cases (TwR p.1 p.2.1 o[i].1.1 o[i].1.2.1 (awR r o[i])).2 != 0 with
      | true=>rfl
      | false =>
       simp only [cond_false,cond_true]
       rw [ht]
       cases mayB l (twP p r o[i]) r o&&mayE l (twP p r o[i]) r o==0 <;> rfl
   cases hb:rpF l p r o o[i] with
   | none=>rw [hb] at hrun;exact ⟨hrun,trivial⟩
   | some q=>rw [hb] at hrun;exact hrun)
  (fun s e _ he=>by
   cases he
   show (bif decide ((o.length:Int)<(o.length:Int)) then _ else Tree.leaf (Sum.inr (Hy (0,0,()))):TRp).run=_
   rw [decide_eq_false (show ¬ (o.length:Int)<(o.length:Int) by omega)]
   rfl)
  o.length 0 () (Z2 (rpS l p r o o)) (o.length+1) (by omega) (by omega) trivial (by
   rw [List.drop_zero]
   have:∀ (ds:List (TCT A1)) (i:Nat),Mh (fun i d (s:Unit)=>match rpF l p r o d with | some q=>some (.inr (Wu q)) | none=>some (.inl ())) (fun _=>some (Hy (0,0,()))) i ds ()=some (Z2 (rpS l p r o ds)):=by
    intro ds
    induction ds with
    | nil=>intro i;rfl
    | cons d ds ih =>
     intro i
     simp only [Mh]
     unfold rpS
     cases rpF l p r o d with
     | some q=>rfl
     | none=>exact ih (i+1)
   exact this o 0)
 exact key
def Ap7 (l:TCT Ao) (p:TCT cPt) (r:Int) (o:List (TCT A1)):Int:=bif mayE l p r o != 0 then mayE l p r o else bif mayB l p r o then 0 else bif (rpS l p r o o).isSome then 0 else 15
def Agf (l:TCT Ao) (p:TCT cPt) (r:Int) (o:List (TCT A1)):TCT cPt:=bif mayE l p r o != 0 then (0,0,()) else bif mayB l p r o then p else (rpS l p r o o).getD (0,0,())
def rpl (l:TCT Ao) (p:TCT cPt) (r:Int) (o:List (TCT A1)):TCTs [cPt,cI]:=(((Agf l p r o).1,(Agf l p r o).2.1,()),Ap7 l p r o,())
abbrev Amp:PureT:=B9 [Ao,cPt,cI,.sl A1] [cPt,cI] (fun x=>decide ((x.1.1.size:Int)≤Au .i64)) (fun x=>(((Agf x.1 x.2.1 x.2.2.1 x.2.2.2.1).1,(Agf x.1 x.2.1 x.2.2.1 x.2.2.2.1).2.1,()),Ap7 x.1 x.2.1 x.2.2.1 x.2.2.2.1,()))
noncomputable def A2g (l:TCT Ao) (p:TCT cPt) (r:Int) (o:List (TCT A1)):Option (A4 Q3):=iter Hz (o.length+1) (Hd (U7 l p r o) 0)
abbrev TRl:=Tree (TCTs [cPt,cI])
noncomputable def Agg (l:TCT Ao) (p:TCT cPt) (r:Int) (o:List (TCT A1)):TRl:=szT l (bif mayE l (p.1,p.2.1,()) r o != 0 then .leaf ((0,0,()),mayE l (p.1,p.2.1,()) r o,()) else
 bif mayB l (p.1,p.2.1,()) r o then .leaf ((p.1,p.2.1,()),0,()) else bif isE .ret (A2g l p r o) then .leaf ((Dd .ret (A2g l p r o)).2.1,(Dd .ret (A2g l p r o)).1.2.1,()) else bif isE (.exit 0) (A2g l p r o) then .leaf ((0,0,()),15,()) else .fail)
theorem Al6 {l:TCT Ao} {p:TCT cPt} {r:Int} {o:List (TCT A1)} (h:mayE l p r o=0):o.length≤12:=by
 unfold mayE Gk at h
 cases h1:D2 l != 0 with
 | true=>rw [h1] at h;exact absurd h (bne_iff_ne.1 h1)
 | false =>
  rw [h1] at h
  cases h2:u_ck p.1 p.2.1 != 0 with
  | true=>rw [h2] at h;cases h
  | false =>
   rw [h2] at h
   have h:cbE r o=0:=h
   unfold cbE at h
   cases h3:!St.inR r 1 16384 with
   | true=>rw [h3] at h;cases h
   | false =>
    rw [h3] at h
    cases h4:decide ((o.length:Int)>12) with
    | true=>rw [h4] at h;cases h
    | false=>have:=of_decide_eq_false h4;omega
theorem Agh {l:TCT Ao} {p:TCT cPt} {r:Int} {o:List (TCT A1)} (hs:(l.1.size:Int)≤Au .i64):(Agg l p r o).sat fun y=>y=rpl l p r o:=by
 unfold Agg rpl Agf Ap7
 rw [Dw hs]
 show (bif mayE l p r o != 0 then .leaf ((0,0,()),mayE l p r o,()) else bif mayB l p r o then .leaf ((p.1,p.2.1,()),0,()) else _:TRl).sat _
 cases h:mayE l p r o != 0 with
 | true=>exact A6 rfl
 | false =>
  simp only [cond_false]
  cases mayB l p r o with
  | true=>exact A6 rfl
  | false =>
   simp only [cond_false]
   have:=Al6 (bne_eq_false_iff_eq.1 h)
   have e:A2g l p r o=some (Z2 (rpS l p r o o)):=Ase hs (by omega)
   rw [e]
   cases rpS l p r o o <;> exact A6 rfl
theorem Asf:A5 Tryz.prog 20 Amp:=Bb Age 8 (fun x=>Agg x.1 x.2.1 x.2.2.1 x.2.2.2.1) (fun x=>by kernel_rfl) fun x hok _=>Agh (of_decide_eq_true hok)
end V
end Go.Proofs.YtlangijnealfjaaGreat
namespace Go.Proofs.YtlangijnealfjaaGreat
open Go.RowKit
namespace V
def fzT (ts:List Nat) (s:St):St:={ s with tm:=fun t=>fzA s.hp (ts.flatMap fun t=>W3 (s.tm t)) (s.tm t),hp:=fzH s.hp (ts.flatMap fun t=>W3 (s.tm t)) }
theorem loopOk_fz {P:Program} {fn:FuncId} {c:Code} {f:St→Tree (XE×St)} (ts:List Nat) (h:As P fn c f):As P fn c (fun s=>f (fzT ts s)):=fun w0 _ s a w R hS hf =>
 Dj (h w0 _ (fzT ts s) a w R (hS.fz _) hf) fun _ _ _ ⟨τ,x,s',h1,h2⟩=>⟨τ,x,s',(Ol hS.h _).trans h1,h2⟩
end V
end Go.Proofs.YtlangijnealfjaaGreat
namespace Go.Proofs.YtlangijnealfjaaGreat
open Go.RowKit
namespace V
namespace Tp
open St
theorem is_works06:FnIs Tryz.prog (13,Tryz.f13):=⟨Tryz.func13,by kernel_rfl,by kernel_rfl⟩
def plW06:List (Nat×PureT):=(46,Qh)::(20,Amp)::(8,X8)::[]
theorem puW06:Ca Tryz.prog plW06:=puOk_cons is_works05.plain A95 (puOk_cons is_Replace.plain Asf (puOk_cons is_green.plain A6d puOk_nil))
theorem Aay:A5 Tryz.prog 13 Qh:=A5e (Qv (u:=20) Ak puW06 A76) 40 (fun _=>by kernel_rfl)
end Tp
end V
end Go.Proofs.YtlangijnealfjaaGreat
