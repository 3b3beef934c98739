import Derived.Test.YtlangijnealfjaaGreatAg
namespace Go.Proofs.YtlangijnealfjaaGreat
open Go.RowKit
namespace V
open St
theorem is_Replace:FnIs Tryz.prog (20,Tryz.f20):=⟨Tryz.func20,by kernel_rfl,by kernel_rfl⟩
noncomputable def Au7:Code:=(Ah (bodyOf Tryz.f20)).getD 0 .skip
def Axk:List BK:=[bL,(1,28,kP6),(2,28,kP6)]
def Ri:Lay:={ keys:=[2,3,4,5,8,34,35,36],ks:=[.d cI,.d (.sl A1),.p 0 0 0 0,.p 1 0 0 0,.p 2 0 0 0,.d (.sl A1),.d cI,.d cI],bs:=Axk,n:=94,nx:=1000,marks:=[] }
def Axl:Lay:={ keys:=[8],ks:=[.p 2 0 0 0],bs:=[(2,28,kP6)],n:=94,nx:=1000,marks:=[] }
def Au8:Lay:={ keys:=[8,9],ks:=[.p 2 0 0 0,.d cI],bs:=[(2,28,kP6)],n:=94,nx:=1000,marks:=[] }
def Rj:XE→Lay
 | .ret=>Au8
 | _=>Axl
def plRpl:List (Nat×PureT):=(23,Afg)::(15,S6)::(59,X8)::[]
theorem puRpl:Cd Tryz.prog plRpl:=puOk_cons is_May.plain Aqm (puOk_cons is_Touch.plain S7 (puOk_cons is_Towards.plain Acb puOk_nil))
def awR (r:Int) (d:TCT A1):Int:=W64 (W64 (r+d.2.1)+2)
def twP (p:TCT cPt) (r:Int) (d:TCT A1):TCT cPt:=((TwR p.1 p.2.1 d.1.1 d.1.2.1 (awR r d)).1.1,(TwR p.1 p.2.1 d.1.1 d.1.2.1 (awR r d)).1.2,())
def rpQ (p:TCT cPt) (r:Int) (d:TCT A1):Option (TCT cPt) :=
 bif decide (Ex ((p.1,p.2.1,()),r,()) d≥0) then none else
 bif !(p.1==d.1.1&&(p.2.1==d.1.2.1&&true)) then bif (TwR p.1 p.2.1 d.1.1 d.1.2.1 (awR r d)).2 != 0 then none else some (twP p r d) else
 some (W64 (d.1.1+awR r d),d.1.2.1,())
def rpF (l:TCT Aq) (p:TCT cPt) (r:Int) (o:List (TCT A1)) (d:TCT A1):Option (TCT cPt) :=
 match rpQ p r d with
 | none=>none
 | some q=>bif mayB l q r o&&mayE l q r o==0 then some q else none
def rpS (l:TCT Aq) (p:TCT cPt) (r:Int) (o:List (TCT A1)):List (TCT A1)→Option (TCT cPt)
 | []=>none
 | d::ds=>match rpF l p r o d with
  | some q=>some q
  | none=>rpS l p r o ds
structure Crp where
 w:SKTs kLw
 p:SKTs kP6
 q:SKTs kP6
 r:Int
 o:List (TCT A1)
 os:List (TCT A1)
 n:Int
noncomputable def Hq (c:Crp) (i:Int):Ri.T:=((c.r,c.o,(),(),(),c.os,c.n,i,()),(c.w,c.p,c.q,()))
def Yw (q:TCT cPt):A4 Rj:=⟨.ret,(((),0,()),((q.1,q.2.1,()),()))⟩
def Ic (q:SKTs kP6):A4 Rj:=⟨.exit 0,(((),()),(q,()))⟩
abbrev TRp:=Tree (Ri.T⊕A4 Rj)
noncomputable def Q6 (c:Crp) (i:Int) (q:TCT cPt):TRp:=szT (Ey c.w) (bif mayB (Ey c.w) q c.r c.o then bif mayE (Ey c.w) q c.r c.o==0 then .leaf (.inr (Yw q)) else .leaf (.inl (Hq c (W64 (i+1)))) else .leaf (.inl (Hq c (W64 (i+1)))))
noncomputable def Ajo (c:Crp) (i:Int) (d:TCT A1):TRp :=
 bif decide (Ex ((c.p.1,c.p.2.1,()),c.r,()) d≥0) then .leaf (.inl (Hq c (W64 (i+1)))) else
 bif !(c.p.1==d.1.1&&(c.p.2.1==d.1.2.1&&true)) then bif (TwR c.p.1 c.p.2.1 d.1.1 d.1.2.1 (awR c.r d)).2 != 0 then .leaf (.inl (Hq c (W64 (i+1)))) else Q6 c i (twP (c.p.1,c.p.2.1,()) c.r d) else
 Q6 c i (W64 (d.1.1+awR c.r d),d.1.2.1,())
noncomputable def Au9 (c:Crp) (i:Int):TRp:=bif decide (i<c.n) then bif decide (0≤i∧i<(c.os.length:Int)) then Ajo c i (A7 c.os (Int.toNat i) (A5 A1)) else .fail else .leaf (.inr (Ic c.q))
def crp (g:Ri.T):Crp:=⟨g.2.1,g.2.2.1,g.2.2.2.1,g.1.1,g.1.2.1,g.1.2.2.2.2.2.1,g.1.2.2.2.2.2.2.1⟩
noncomputable def Ie (g:Ri.T):TRp:=Au9 (crp g) g.1.2.2.2.2.2.2.2.1
def Sy (g:Ri.T):Nat:=(g.1.2.2.2.2.2.1:List (TCT A1)).length+1
noncomputable def Agd:Ctx:=ctx Tryz.prog plRpl []
theorem Sz:CtxOk Agd:=An Am puRpl A2
theorem Axm:Av Tryz.prog 20 Au7 (Au Ri Rj (D5 [.ret,.exit 0] Ie Sy)):=Bu Sz 6 _ Ri Rj (fun e=>by cases e <;> exact Nat.le_refl _) [.ret,.exit 0] Ie Sy (fun g=>by kernel_rfl)
noncomputable def Axn:Ctx:=F8 Tryz.prog plRpl [(20,Tryz.f20)] [((20,7),Au Ri Rj (D5 [.ret,.exit 0] Ie Sy))]
theorem Ajp:CtxOk Axn:=Bt Am puRpl (A0 is_Replace A2) (C3 (by kernel_rfl) (by kernel_rfl) Axm)
def Vt (l:TCT Aq) (p:TCT cPt) (r:Int) (o:List (TCT A1)):Crp:=⟨C0 l,(p.1,p.2.1,()),(0,0,()),r,o,o,o.length⟩
def A1g:Option (TCT cPt)→A4 Rj
 | some q=>Yw q
 | none=>Ic (0,0,())
theorem Axo {l:TCT Aq} {p:TCT cPt} {r:Int} {o:List (TCT A1)} (hs:(l.1.size:Int)≤Aw .i64) (ho:o.length≤60000):iter Ie (o.length+1) (Hq (Vt l p r o) 0)=some (A1g (rpS l p r o o)):=by
 have key:=Dp (st:=Ie) o (fun i (_:Unit)=>Hq (Vt l p r o) (i:Int)) (fun i d s=>match rpF l p r o d with | some q=>some (.inr (Yw q)) | none=>some (.inl ())) (fun _=>some (Ic (0,0,()))) (fun _ _=>True)
  (fun i s hi _=>by
   have hrun:(Ie (Hq (Vt l p r o) (i:Int))).run=some (match rpF l p r o o[i] with | some q=>.inr (Yw q) | none=>.inl (Hq (Vt l p r o) ((i+1:Nat):Int))):=by
    show (bif decide ((i:Int)<(o.length:Int)) then bif decide (0≤(i:Int)∧(i:Int)<(o.length:Int)) then Ajo (Vt l p r o) (i:Int) (A7 o (Int.toNat (i:Int)) (A5 A1)) else .fail else .leaf (.inr (Ic (0,0,()))):TRp).run=_
    rw [decide_eq_true (show (i:Int)<(o.length:Int) by omega),decide_eq_true (show 0≤(i:Int)∧(i:Int)<(o.length:Int) by omega),show Int.toNat (i:Int)=i by omega,C7 hi]
    simp only [cond_true]
    have hn:(W64 ((i:Int)+1))=((i+1:Nat):Int):=by rw [B6 (n:=(i:Int)+1) (by omega) (by omega)];rfl
    have ht:∀ q:TCT cPt,(Q6 (Vt l p r o) (i:Int) q).run=some (bif mayB l q r o&&mayE l q r o==0 then .inr (Yw q) else .inl (Hq (Vt l p r o) ((i+1:Nat):Int))):=by
     intro q
     unfold Q6
     rw [Dw (l:=Ey (Vt l p r o).w) hs,hn]
     show (bif mayB l q r o then bif mayE l q r o==0 then _ else _ else _:TRp).run=_
     cases mayB l q r o <;> cases mayE l q r o==0 <;> rfl
    unfold Ajo rpF rpQ
    rw [hn]
    show (bif decide (Ex ((p.1,p.2.1,()),r,()) o[i]≥0) then _ else bif !(p.1==o[i].1.1&&(p.2.1==o[i].1.2.1&&true)) then bif (TwR p.1 p.2.1 o[i].1.1 o[i].1.2.1 (awR r o[i])).2 != 0 then _ else Q6 (Vt l p r o) (i:Int) (twP p r o[i]) else Q6 (Vt l p r o) (i:Int) (W64 (o[i].1.1+awR r o[i]),o[i].1.2.1,()):TRp).run=_
    cases decide (Ex ((p.1,p.2.1,()),r,()) o[i]≥0) with
    | true=>rfl
    | false =>
     cases !(p.1==o[i].1.1&&(p.2.1==o[i].1.2.1&&true)) with
     | false =>
      simp only [cond_false]
      rw [ht]
      cases mayB l (W64 (o[i].1.1+awR r o[i]),o[i].1.2.1,()) r o&&mayE l (W64 (o[i].1.1+awR r o[i]),o[i].1.2.1,()) r o==0 <;> rfl
     | true =>
      cases (TwR p.1 p.2.1 o[i].1.1 o[i].1.2.1 (awR r o[i])).2 != 0 with
      | true=>rfl
      | false =>
       simp only [cond_false,cond_true]
       rw [ht]
       cases mayB l (twP p r o[i]) r o&&mayE l (twP p r o[i]) r o==0 <;> rfl
   cases hb:rpF l p r o o[i] with
   | none=>rw [hb] at hrun;exact ⟨hrun,trivial⟩
   | some q=>rw [hb] at hrun;exact hrun)
  (fun s e _ he=>by
   cases he
   show (bif decide ((o.length:Int)<(o.length:Int)) then _ else Tree.leaf (Sum.inr (Ic (0,0,()))):TRp).run=_
   rw [decide_eq_false (show ¬ (o.length:Int)<(o.length:Int) by omega)]
   rfl)
  o.length 0 () (A1g (rpS l p r o o)) (o.length+1) (by omega) (by omega) trivial (by
   rw [List.drop_zero]
   have:∀ (ds:List (TCT A1)) (i:Nat),N8 (fun i d (s:Unit)=>match rpF l p r o d with | some q=>some (.inr (Yw q)) | none=>some (.inl ())) (fun _=>some (Ic (0,0,()))) i ds ()=some (A1g (rpS l p r o ds)):=by
    intro ds
    induction ds with
    | nil=>intro i;rfl
    | cons d ds ih =>
     intro i
     simp only [N8]
     unfold rpS
     cases rpF l p r o d with
     | some q=>rfl
     | none=>exact ih (i+1)
   exact this o 0)
 exact key
def Aua (l:TCT Aq) (p:TCT cPt) (r:Int) (o:List (TCT A1)):Int:=bif mayE l p r o != 0 then mayE l p r o else bif mayB l p r o then 0 else bif (rpS l p r o o).isSome then 0 else 15
def Ajq (l:TCT Aq) (p:TCT cPt) (r:Int) (o:List (TCT A1)):TCT cPt:=bif mayE l p r o != 0 then (0,0,()) else bif mayB l p r o then p else (rpS l p r o o).getD (0,0,())
def rpl (l:TCT Aq) (p:TCT cPt) (r:Int) (o:List (TCT A1)):TCTs [cPt,cI]:=(((Ajq l p r o).1,(Ajq l p r o).2.1,()),Aua l p r o,())
abbrev Arf:PureT:=Bh [Aq,cPt,cI,.sl A1] [cPt,cI] (fun x=>decide ((x.1.1.size:Int)≤Aw .i64)) (fun x=>(((Ajq x.1 x.2.1 x.2.2.1 x.2.2.2.1).1,(Ajq x.1 x.2.1 x.2.2.1 x.2.2.2.1).2.1,()),Aua x.1 x.2.1 x.2.2.1 x.2.2.2.1,()))
noncomputable def A4y (l:TCT Aq) (p:TCT cPt) (r:Int) (o:List (TCT A1)):Option (A4 Rj):=iter Ie (o.length+1) (Hq (Vt l p r o) 0)
abbrev TRl:=Tree (TCTs [cPt,cI])
noncomputable def Ajr (l:TCT Aq) (p:TCT cPt) (r:Int) (o:List (TCT A1)):TRl:=szT l (bif mayE l (p.1,p.2.1,()) r o != 0 then .leaf ((0,0,()),mayE l (p.1,p.2.1,()) r o,()) else
 bif mayB l (p.1,p.2.1,()) r o then .leaf ((p.1,p.2.1,()),0,()) else bif isE .ret (A4y l p r o) then .leaf ((D4 .ret (A4y l p r o)).2.1,(D4 .ret (A4y l p r o)).1.2.1,()) else bif isE (.exit 0) (A4y l p r o) then .leaf ((0,0,()),15,()) else .fail)
theorem Apf {l:TCT Aq} {p:TCT cPt} {r:Int} {o:List (TCT A1)} (h:mayE l p r o=0):o.length≤12:=by
 unfold mayE H5 at h
 cases h1:Di l != 0 with
 | true=>rw [h1] at h;exact absurd h (bne_iff_ne.1 h1)
 | false =>
  rw [h1] at h
  cases h2:u_ck p.1 p.2.1 != 0 with
  | true=>rw [h2] at h;cases h
  | false =>
   rw [h2] at h
   have h:cbE r o=0:=h
   unfold cbE at h
   cases h3:!St.inR r 1 16384 with
   | true=>rw [h3] at h;cases h
   | false =>
    rw [h3] at h
    cases h4:decide ((o.length:Int)>12) with
    | true=>rw [h4] at h;cases h
    | false=>have:=of_decide_eq_false h4;omega
theorem Ajs {l:TCT Aq} {p:TCT cPt} {r:Int} {o:List (TCT A1)} (hs:(l.1.size:Int)≤Aw .i64):(Ajr l p r o).sat fun y=>y=rpl l p r o:=by
 unfold Ajr rpl Ajq Aua
 rw [Dw hs]
 show (bif mayE l p r o != 0 then .leaf ((0,0,()),mayE l p r o,()) else bif mayB l p r o then .leaf ((p.1,p.2.1,()),0,()) else _:TRl).sat _
 cases h:mayE l p r o != 0 with
 | true=>exact A8 rfl
 | false =>
  simp only [cond_false]
  cases mayB l p r o with
  | true=>exact A8 rfl
  | false =>
   simp only [cond_false]
   have:=Apf (bne_eq_false_iff_eq.1 h)
   have e:A4y l p r o=some (A1g (rpS l p r o o)):=Axo hs (by omega)
   rw [e]
   cases rpS l p r o o <;> exact A8 rfl
theorem Axp:A6 Tryz.prog 20 Arf:=Bj Ajp 8 (fun x=>Ajr x.1 x.2.1 x.2.2.1 x.2.2.2.1) (fun x=>by kernel_rfl) fun x hok _=>Ajs (of_decide_eq_true hok)
end V
end Go.Proofs.YtlangijnealfjaaGreat
namespace Go.Proofs.YtlangijnealfjaaGreat
open Go.RowKit
namespace V
def fzT (ts:List Nat) (s:St):St:={ s with tm:=fun t=>fzA s.hp (ts.flatMap fun t=>Y7 (s.tm t)) (s.tm t),hp:=fzH s.hp (ts.flatMap fun t=>Y7 (s.tm t)) }
theorem Yx {P:Program} {fn:FuncId} {c:Code} {f:St→Tree (XE×St)} (ts:List Nat) (h:Av P fn c f):Av P fn c (fun s=>f (fzT ts s)):=fun w0 _ s a w R hS hf =>
 Dx (h w0 _ (fzT ts s) a w R (hS.fz _) hf) fun _ _ _ ⟨τ,x,s',h1,h2⟩=>⟨τ,x,s',(Pt hS.h _).trans h1,h2⟩
end V
end Go.Proofs.YtlangijnealfjaaGreat
namespace Go.Proofs.YtlangijnealfjaaGreat
open Go.RowKit
namespace V
namespace Tp
open St
theorem is_works06:FnIs Tryz.prog (13,Tryz.f13):=⟨Tryz.func13,by kernel_rfl,by kernel_rfl⟩
def plW06:List (Nat×PureT):=(46,Iz)::(20,Arf)::(8,Zw)::[]
theorem puW06:Cd Tryz.prog plW06:=puOk_cons is_works05.plain X7 (puOk_cons is_Replace.plain Axp (puOk_cons is_green.plain A97 puOk_nil))
theorem Ae5:A6 Tryz.prog 13 Iz:=A1a (M3 (u:=20) Am puW06 S8) 40 (fun _=>by kernel_rfl)
end Tp
end V
end Go.Proofs.YtlangijnealfjaaGreat
