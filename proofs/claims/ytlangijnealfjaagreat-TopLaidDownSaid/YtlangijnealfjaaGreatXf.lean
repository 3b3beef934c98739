import Derived.Test.YtlangijnealfjaaGreatAg
namespace Go.Proofs.YtlangijnealfjaaGreat
open Go.RowKit
namespace V
open St
theorem is_Replace:FnIs Tryz.prog (20,Tryz.f20):=⟨Tryz.func20,by kernel_rfl,by kernel_rfl⟩
noncomputable def B4e:Code:=(Aj (bodyOf Tryz.f20)).getD 0 .skip
def B8p:List BK:=[bL,(1,28,kP6),(2,28,kP6)]
def Ur:Lay:={ keys:=[2,3,4,5,8,34,35,36],ks:=[.d cI,.d (.sl A1),.p 0 0 0 0,.p 1 0 0 0,.p 2 0 0 0,.d (.sl A1),.d cI,.d cI],bs:=B8p,n:=94,nx:=1000,marks:=[] }
def B8q:Lay:={ keys:=[8],ks:=[.p 2 0 0 0],bs:=[(2,28,kP6)],n:=94,nx:=1000,marks:=[] }
def B4f:Lay:={ keys:=[8,9],ks:=[.p 2 0 0 0,.d cI],bs:=[(2,28,kP6)],n:=94,nx:=1000,marks:=[] }
def Us:XE→Lay
 | .ret=>B4f
 | _=>B8q
def plRpl:List (Nat×PureT):=(23,Ajs)::(15,A2q)::(59,A0n)::[]
theorem puRpl:Ci Tryz.prog plRpl:=puOk_cons is_May.plain Ajv (puOk_cons is_Touch.plain Acu (puOk_cons is_Towards.plain Ag7 puOk_nil))
def awR (r:Int) (d:TCT A1):Int:=W64 (W64 (r+d.2.1)+2)
def twP (p:TCT cPt) (r:Int) (d:TCT A1):TCT cPt:=((TwR p.1 p.2.1 d.1.1 d.1.2.1 (awR r d)).1.1,(TwR p.1 p.2.1 d.1.1 d.1.2.1 (awR r d)).1.2,())
def rpQ (p:TCT cPt) (r:Int) (d:TCT A1):Option (TCT cPt) :=
 bif decide (S0 ((p.1,p.2.1,()),r,()) d≥0) then none else
 bif !(p.1==d.1.1&&(p.2.1==d.1.2.1&&true)) then bif (TwR p.1 p.2.1 d.1.1 d.1.2.1 (awR r d)).2 != 0 then none else some (twP p r d) else
 some (W64 (d.1.1+awR r d),d.1.2.1,())
def rpF (l:TCT A8) (p:TCT cPt) (r:Int) (o:List (TCT A1)) (d:TCT A1):Option (TCT cPt) :=
 match rpQ p r d with
 | none=>none
 | some q=>bif mayB l q r o&&mayE l q r o==0 then some q else none
def rpS (l:TCT A8) (p:TCT cPt) (r:Int) (o:List (TCT A1)):List (TCT A1)→Option (TCT cPt)
 | []=>none
 | d::ds=>match rpF l p r o d with
  | some q=>some q
  | none=>rpS l p r o ds
structure Crp where
 w:SKTs kLw
 p:SKTs kP6
 q:SKTs kP6
 r:Int
 o:List (TCT A1)
 os:List (TCT A1)
 n:Int
noncomputable def Jq (c:Crp) (i:Int):Ur.T:=((c.r,c.o,(),(),(),c.os,c.n,i,()),(c.w,c.p,c.q,()))
def A28 (q:TCT cPt):A0 Us:=⟨.ret,(((),0,()),((q.1,q.2.1,()),()))⟩
def Ki (q:SKTs kP6):A0 Us:=⟨.exit 0,(((),()),(q,()))⟩
abbrev TRp:=Tree (Ur.T⊕A0 Us)
noncomputable def Tf (c:Crp) (i:Int) (q:TCT cPt):TRp:=szT (Jk c.w) (bif mayB (Jk c.w) q c.r c.o then bif mayE (Jk c.w) q c.r c.o==0 then .leaf (.inr (A28 q)) else .leaf (.inl (Jq c (W64 (i+1)))) else .leaf (.inl (Jq c (W64 (i+1)))))
noncomputable def Ar6 (c:Crp) (i:Int) (d:TCT A1):TRp :=
 bif decide (S0 ((c.p.1,c.p.2.1,()),c.r,()) d≥0) then .leaf (.inl (Jq c (W64 (i+1)))) else
 bif !(c.p.1==d.1.1&&(c.p.2.1==d.1.2.1&&true)) then bif (TwR c.p.1 c.p.2.1 d.1.1 d.1.2.1 (awR c.r d)).2 != 0 then .leaf (.inl (Jq c (W64 (i+1)))) else Tf c i (twP (c.p.1,c.p.2.1,()) c.r d) else
 Tf c i (W64 (d.1.1+awR c.r d),d.1.2.1,())
noncomputable def B4g (c:Crp) (i:Int):TRp:=bif decide (i<c.n) then bif decide (0≤i∧i<(c.os.length:Int)) then Ar6 c i (Al c.os (Int.toNat i) (Ak A1)) else .fail else .leaf (.inr (Ki c.q))
def crp (g:Ur.T):Crp:=⟨g.2.1,g.2.2.1,g.2.2.2.1,g.1.1,g.1.2.1,g.1.2.2.2.2.2.1,g.1.2.2.2.2.2.2.1⟩
noncomputable def Kj (g:Ur.T):TRp:=B4g (crp g) g.1.2.2.2.2.2.2.2.1
def Vp (g:Ur.T):Nat:=(g.1.2.2.2.2.2.1:List (TCT A1)).length+1
noncomputable def Akq:Ctx:=ctx Tryz.prog plRpl []
theorem Vq:CtxOk Akq:=Ap Am puRpl A3
theorem B8r:Ax Tryz.prog 20 B4e (As Ur Us (De [.ret,.exit 0] Kj Vp)):=Bo Vq 6 _ Ur Us (fun e=>by cases e <;> exact Nat.le_refl _) [.ret,.exit 0] Kj Vp (fun g=>by kernel_rfl)
noncomputable def B8s:Ctx:=Ib Tryz.prog plRpl [(20,Tryz.f20)] [((20,7),As Ur Us (De [.ret,.exit 0] Kj Vp))]
theorem Ar7:CtxOk B8s:=Cj Am puRpl (fns_cons is_Replace A3) (Bw (by kernel_rfl) (by kernel_rfl) B8r)
def Zh (l:TCT A8) (p:TCT cPt) (r:Int) (o:List (TCT A1)):Crp:=⟨Dl l,(p.1,p.2.1,()),(0,0,()),r,o,o,o.length⟩
def A4a:Option (TCT cPt)→A0 Us
 | some q=>A28 q
 | none=>Ki (0,0,())
theorem B8t {l:TCT A8} {p:TCT cPt} {r:Int} {o:List (TCT A1)} (hs:(l.1.size:Int)≤B0 .i64) (ho:o.length≤60000):iter Kj (o.length+1) (Jq (Zh l p r o) 0)=some (A4a (rpS l p r o o)):=by
 have key:=Es (st:=Kj) o (fun i (_:Unit)=>Jq (Zh l p r o) (i:Int)) (fun i d s=>match rpF l p r o d with | some q=>some (.inr (A28 q)) | none=>some (.inl ())) (fun _=>some (Ki (0,0,()))) (fun _ _=>True)
  (fun i s hi _=>by
   have hrun:(Kj (Jq (Zh l p r o) (i:Int))).run=some (match rpF l p r o o[i] with | some q=>.inr (A28 q) | none=>.inl (Jq (Zh l p r o) ((i+1:Nat):Int))):=by
    show (bif decide ((i:Int)<(o.length:Int)) then bif decide (0≤(i:Int)∧(i:Int)<(o.length:Int)) then Ar6 (Zh l p r o) (i:Int) (Al o (Int.toNat (i:Int)) (Ak A1)) else .fail else .leaf (.inr (Ki (0,0,()))):TRp).run=_
    rw [decide_eq_true (show (i:Int)<(o.length:Int) by omega),decide_eq_true (show 0≤(i:Int)∧(i:Int)<(o.length:Int) by omega),show Int.toNat (i:Int)=i by omega,D2 hi]
    simp only [cond_true]
    have hn:(W64 ((i:Int)+1))=((i+1:Nat):Int):=by rw [B5 (n:=(i:Int)+1) (by omega) (by omega)];rfl
    have ht:∀ q:TCT cPt,(Tf (Zh l p r o) (i:Int) q).run=some (bif mayB l q r o&&mayE l q r o==0 then .inr (A28 q) else .inl (Jq (Zh l p r o) ((i+1:Nat):Int))):=by
     intro q
     unfold Tf
     rw [E1 (l:=Jk (Zh l p r o).w) hs,hn]
     show (bif mayB l q r o then bif mayE l q r o==0 then _ else _ else _:TRp).run=_
     cases mayB l q r o <;> cases mayE l q r o==0 <;> rfl
    unfold Ar6 rpF rpQ
    rw [hn]
    show (bif decide (S0 ((p.1,p.2.1,()),r,()) o[i]≥0) then _ else bif !(p.1==o[i].1.1&&(p.2.1==o[i].1.2.1&&true)) then bif (TwR p.1 p.2.1 o[i].1.1 o[i].1.2.1 (awR r o[i])).2 != 0 then _ else Tf (Zh l p r o) (i:Int) (twP p r o[i]) else Tf (Zh l p r o) (i:Int) (W64 (o[i].1.1+awR r o[i]),o[i].1.2.1,()):TRp).run=_
    cases decide (S0 ((p.1,p.2.1,()),r,()) o[i]≥0) with
    | true=>rfl
    | false =>
     cases !(p.1==o[i].1.1&&(p.2.1==o[i].1.2.1&&true)) with
     | false =>
      simp only [cond_false]
      rw [ht]
      cases mayB l (W64 (o[i].1.1+awR r o[i]),o[i].1.2.1,()) r o&&mayE l (W64 (o[i].1.1+awR r o[i]),o[i].1.2.1,()) r o==0 <;> rfl
     | true =>
      cases (TwR p.1 p.2.1 o[i].1.1 o[i].1.2.1 (awR r o[i])).2 != 0 with
      | true=>rfl
      | false =>
       simp only [cond_false,cond_true]
       rw [ht]
       cases mayB l (twP p r o[i]) r o&&mayE l (twP p r o[i]) r o==0 <;> rfl
   cases hb:rpF l p r o o[i] with
   | none=>rw [hb] at hrun;exact ⟨hrun,trivial⟩
   | some q=>rw [hb] at hrun;exact hrun)
  (fun s e _ he=>by
   cases he
   show (bif decide ((o.length:Int)<(o.length:Int)) then _ else Tree.leaf (Sum.inr (Ki (0,0,()))):TRp).run=_
   rw [decide_eq_false (show ¬ (o.length:Int)<(o.length:Int) by omega)]
   rfl)
  o.length 0 () (A4a (rpS l p r o o)) (o.length+1) (by omega) (by omega) trivial (by
   rw [List.drop_zero]
   have:∀ (ds:List (TCT A1)) (i:Nat),Pu (fun i d (s:Unit)=>match rpF l p r o d with | some q=>some (.inr (A28 q)) | none=>some (.inl ())) (fun _=>some (Ki (0,0,()))) i ds ()=some (A4a (rpS l p r o ds)):=by
    intro ds
    induction ds with
    | nil=>intro i;rfl
    | cons d ds ih =>
     intro i
     simp only [Pu]
     unfold rpS
     cases rpF l p r o d with
     | some q=>rfl
     | none=>exact ih (i+1)
   exact this o 0)
 exact key
def Ac9 (l:TCT A8) (p:TCT cPt) (r:Int) (o:List (TCT A1)):Int:=bif mayE l p r o != 0 then mayE l p r o else bif mayB l p r o then 0 else bif (rpS l p r o o).isSome then 0 else 15
def A0i (l:TCT A8) (p:TCT cPt) (r:Int) (o:List (TCT A1)):TCT cPt:=bif mayE l p r o != 0 then (0,0,()) else bif mayB l p r o then p else (rpS l p r o o).getD (0,0,())
def rpl (l:TCT A8) (p:TCT cPt) (r:Int) (o:List (TCT A1)):TCTs [cPt,cI]:=(((A0i l p r o).1,(A0i l p r o).2.1,()),Ac9 l p r o,())
abbrev Azx:PureT:=Be [A8,cPt,cI,.sl A1] [cPt,cI] (fun x=>decide ((x.1.1.size:Int)≤B0 .i64)) (fun x=>(((A0i x.1 x.2.1 x.2.2.1 x.2.2.2.1).1,(A0i x.1 x.2.1 x.2.2.1 x.2.2.2.1).2.1,()),Ac9 x.1 x.2.1 x.2.2.1 x.2.2.2.1,()))
noncomputable def A8v (l:TCT A8) (p:TCT cPt) (r:Int) (o:List (TCT A1)):Option (A0 Us):=iter Kj (o.length+1) (Jq (Zh l p r o) 0)
abbrev TRl:=Tree (TCTs [cPt,cI])
noncomputable def Ar8 (l:TCT A8) (p:TCT cPt) (r:Int) (o:List (TCT A1)):TRl:=szT l (bif mayE l (p.1,p.2.1,()) r o != 0 then .leaf ((0,0,()),mayE l (p.1,p.2.1,()) r o,()) else
 bif mayB l (p.1,p.2.1,()) r o then .leaf ((p.1,p.2.1,()),0,()) else bif isE .ret (A8v l p r o) then .leaf ((C3 .ret (A8v l p r o)).2.1,(C3 .ret (A8v l p r o)).1.2.1,()) else bif isE (.exit 0) (A8v l p r o) then .leaf ((0,0,()),15,()) else .fail)
theorem Ay8 {l:TCT A8} {p:TCT cPt} {r:Int} {o:List (TCT A1)} (h:mayE l p r o=0):o.length≤12:=by
 unfold mayE J3 at h
 cases h1:Cd l != 0 with
 | true=>rw [h1] at h;exact absurd h (bne_iff_ne.1 h1)
 | false =>
  rw [h1] at h
  cases h2:u_ck p.1 p.2.1 != 0 with
  | true=>rw [h2] at h;cases h
  | false =>
   rw [h2] at h
   have h:cbE r o=0:=h
   unfold cbE at h
   cases h3:!St.inR r 1 16384 with
   | true=>rw [h3] at h;cases h
   | false =>
    rw [h3] at h
    cases h4:decide ((o.length:Int)>12) with
    | true=>rw [h4] at h;cases h
    | false=>have:=of_decide_eq_false h4;omega
theorem Ar9 {l:TCT A8} {p:TCT cPt} {r:Int} {o:List (TCT A1)} (hs:(l.1.size:Int)≤B0 .i64):(Ar8 l p r o).sat fun y=>y=rpl l p r o:=by
 unfold Ar8 rpl A0i Ac9
 rw [E1 hs]
 show (bif mayE l p r o != 0 then .leaf ((0,0,()),mayE l p r o,()) else bif mayB l p r o then .leaf ((p.1,p.2.1,()),0,()) else _:TRl).sat _
 cases h:mayE l p r o != 0 with
 | true=>exact Ai rfl
 | false =>
  simp only [cond_false]
  cases mayB l p r o with
  | true=>exact Ai rfl
  | false =>
   simp only [cond_false]
   have:=Ay8 (bne_eq_false_iff_eq.1 h)
   have e:A8v l p r o=some (A4a (rpS l p r o o)):=B8t hs (by omega)
   rw [e]
   cases rpS l p r o o <;> exact Ai rfl
theorem Azy:A7 Tryz.prog 20 Azx:=Bh Ar7 8 (fun x=>Ar8 x.1 x.2.1 x.2.2.1 x.2.2.2.1) (fun x=>by kernel_rfl) fun x hok _=>Ar9 (of_decide_eq_true hok)
end V
end Go.Proofs.YtlangijnealfjaaGreat
namespace Go.Proofs.YtlangijnealfjaaGreat
open Go.RowKit
namespace V
def fzT (ts:List Nat) (s:St):St:={ s with tm:=fun t=>fzA s.hp (ts.flatMap fun t=>Af2 (s.tm t)) (s.tm t),hp:=fzH s.hp (ts.flatMap fun t=>Af2 (s.tm t)) }
theorem Air {P:Program} {fn:FuncId} {c:Code} {f:St→Tree (XE×St)} (ts:List Nat) (h:Ax P fn c f):Ax P fn c (fun s=>f (fzT ts s)):=fun w0 _ s a w R hS hf =>
 Fw (h w0 _ (fzT ts s) a w R (hS.fz _) hf) fun _ _ _ ⟨τ,x,s',h1,h2⟩=>⟨τ,x,s',(Yg hS.h _).trans h1,h2⟩
end V
end Go.Proofs.YtlangijnealfjaaGreat
namespace Go.Proofs.YtlangijnealfjaaGreat
open Go.RowKit
namespace V
namespace Tp
open St
theorem is_works06:FnIs Tryz.prog (13,Tryz.f13):=⟨Tryz.func13,by kernel_rfl,by kernel_rfl⟩
def plW06:List (Nat×PureT):=(46,V3)::(20,Azx)::(8,V2)::[]
theorem puW06:Ci Tryz.prog plW06:=puOk_cons is_works05.plain Ag6 (puOk_cons is_Replace.plain Azy (puOk_cons is_green.plain A2b puOk_nil))
theorem Ais:A7 Tryz.prog 13 V3:=A45 (Rq (u:=20) Am puW06 Adm) 40 (fun _=>by kernel_rfl)
end Tp
end V
end Go.Proofs.YtlangijnealfjaaGreat
namespace Go.Proofs.YtlangijnealfjaaGreat
open Go.RowKit
namespace V
namespace Tp
open St
theorem is_TopLaidDown:FnIs Tryz.prog (5,Tryz.f5):=⟨Tryz.func5,by kernel_rfl,by kernel_rfl⟩
abbrev cs_topLaidDown:List TC:=[.sl Bz]
abbrev Tg:Type:=TCT A8→TCT cPt→Int→List (TCT A1)→TCT cPt×Int
abbrev Rn:Type:=TCT A8→TCT cPt→Int→List (TCT A1)→Bool×Int
abbrev Ro:Type:=TCT cPt→TCT cPt→Int×Int
abbrev A8w:Type:=TCT cGr→List (TCT cPt)→TCT cSt×Int
abbrev A0j:Type:=TCT cGr→TCT cSt→Bool×Int
abbrev Ait (l:TCT A8):Bool:=decide ((l.1.size:Int)≤B0 .i64)
abbrev Ara (R:Tg):PureT:=Be [A8,cPt,cI,.sl A1] [cPt,cI] (fun x=>Ait x.1) (fun x=>(((R x.1 x.2.1 x.2.2.1 x.2.2.2.1).1.1,(R x.1 x.2.1 x.2.2.1 x.2.2.2.1).1.2.1,()),(R x.1 x.2.1 x.2.2.1 x.2.2.2.1).2,()))
abbrev Arb (M:Rn):PureT:=Be [A8,cPt,cI,.sl A1] [.b,cI] (fun x=>Ait x.1) (fun x=>((M x.1 x.2.1 x.2.2.1 x.2.2.2.1).1,(M x.1 x.2.1 x.2.2.1 x.2.2.2.1).2,()))
abbrev Arc (Q:Ro):PureT:=Be [cPt,cPt] [cI,cI] (fun _=>true) (fun x=>((Q x.1 x.2.1).1,(Q x.1 x.2.1).2,()))
abbrev Ard (L:A8w):PureT:=Be [cGr,.sl cPt] [cSt,cI] (fun x=>B0i x.1) (fun x=>(St.etaS (L x.1 x.2.1).1,(L x.1 x.2.1).2,()))
abbrev Are (S:A0j):PureT:=Be [cGr,cSt] [.b,cI] (fun x=>B0i x.1) (fun x=>((S x.1 x.2.1).1,(S x.1 x.2.1).2,()))
def Jj:Tg:=fun l p r o=>(A0i l p r o,Ac9 l p r o)
def Kw:Rn:=fun l p r o=>(mayB l p r o,mayE l p r o)
def Kx:Ro:=fun p q=>SqR p.1 p.2.1 q.1 q.2.1
def Zi:A8w:=fun g p=>((Et g p).1,(Et g p).2.1)
theorem B4h:A7 Tryz.prog 20 (Ara Jj):=Azy
theorem B4i:A7 Tryz.prog 23 (Arb Kw):=Ajv
theorem B4j:A7 Tryz.prog 22 (Arc Kx):=A78
theorem B4k:A7 Tryz.prog 24 (Ard Zi):=Az2
noncomputable def plLd0 (R:Tg) (M:Rn) (Q:Ro):List (Nat×PureT):=(20,Ara R)::(23,Arb M)::(22,Arc Q)::(13,V3)::(8,V2)::(21,A2c)::(9,A98)::[]
theorem puLd0:Ci Tryz.prog (plLd0 Jj Kw Kx):=puOk_cons is_Replace.plain B4h (puOk_cons is_May.plain B4i (puOk_cons is_Square.plain B4j (puOk_cons is_works06.plain Ais (puOk_cons is_green.plain A2b (puOk_cons is_round.plain Aco (puOk_cons is_spot.plain Ajw puOk_nil))))))
noncomputable def Zj:Code:=(Aj (bodyOf Tryz.f5)).getD 0 .skip
noncomputable def Zk:Code:=(Aj (bodyOf Tryz.f5)).getD 1 .skip
noncomputable def Zl:Code:=(Aj (bodyOf Tryz.f5)).getD 2 .skip
def Ay9:List BK:=[(0,64,kGb)]
def Ou:Lay:={ keys:=[0,3,4,5,6],ks:=[.d (.sl Bz),.p 0 0 0 0,.o 28 cPt,.o 30 A1,.d cI],bs:=Ay9,n:=192,nx:=1000,marks:=[] }
def B8u:Lay:={ keys:=[0,3,4,5],ks:=[.d (.sl Bz),.p 0 0 0 0,.o 28 cPt,.o 30 A1],bs:=Ay9,n:=192,nx:=1000,marks:=[] }
def B8v:Lay:={ keys:=[2],ks:=[.d .b],bs:=[],n:=192,nx:=1000,marks:=[] }
def Ut:XE→Lay:=fun e=>match e with | .ret=>B8v | _=>B8u
def B4l:Lay:={ keys:=[2],ks:=[.d .b],bs:=[],n:=192,nx:=2000,marks:=[] }
def Ov:Lay:={ keys:=[0,3,4,5,10],ks:=[.d (.sl Bz),.p 0 0 0 0,.d (.sl cPt),.d (.sl A1),.d cI],bs:=Ay9,n:=192,nx:=2000,marks:=[] }
def B8w:Lay:={ keys:=[0,3,4],ks:=[.d (.sl Bz),.p 0 0 0 0,.d (.sl cPt)],bs:=Ay9,n:=192,nx:=2000,marks:=[] }
def Uu:XE→Lay:=fun e=>match e with | .ret=>B4l | _=>B8w
end Tp
end V
end Go.Proofs.YtlangijnealfjaaGreat
namespace Go.Proofs.YtlangijnealfjaaGreat
open Go.RowKit
namespace V
namespace Tp
open St
abbrev Aiu:=Ou.T⊕A0 Ut
noncomputable def Ng (l:List (TCT Bz)) (g:GbT) (ps:List (TCT cPt)) (os:List (TCT A1)) (i:Int):Ou.T:=((l,(),ps,os,i,()),(g,()))
def Arf (l:List (TCT Bz)) (g:GbT) (ps:List (TCT cPt)) (os:List (TCT A1)):A0 Ut:=⟨.exit 0,((l,(),ps,os,()),(g,()))⟩
def rt_ld0 (b:Bool):A0 Ut:=⟨.ret,((b,()),())⟩
noncomputable def Aca (l:List (TCT Bz)) (g:GbT) (ps:List (TCT cPt)) (os:List (TCT A1)) (i:Int) (p:TCT cPt):Tree Aiu :=
 bif D4 (blb g) [K5] 16 then bif D4 ps [p] 16 then bif D4 os [Bd p] 24 then .leaf (.inl (Ng l (wbl g (blb g++[K5])) (ps++[p]) (os++[Bd p]) (W64 (i+1)))) else .fail else .fail else .fail
noncomputable def Azz (l:List (TCT Bz)) (g:GbT) (ps:List (TCT cPt)) (os:List (TCT A1)) (i:Int) (p:TCT cPt) (f:Int×Int):Tree Aiu :=
 bif f.2 != 0 then .leaf (.inr (rt_ld0 false)) else bif decide (f.1>144000000) then .leaf (.inr (rt_ld0 false)) else Aca l g ps os i p
noncomputable def A8x (Q:Ro) (l:List (TCT Bz)) (g:GbT) (ps:List (TCT cPt)) (os:List (TCT A1)) (i:Int) (s:TCT cPt) (r:TCT cPt×Int):Tree Aiu :=
 bif r.2 != 0 then bif r.2==15 then .leaf (.inr (rt_ld0 true)) else .leaf (.inr (rt_ld0 false)) else inN l.length i (Azz l g ps os i (r.1.1,r.1.2.1,()) (Q (r.1.1,r.1.2.1,()) s))
noncomputable def Zm (R:Tg) (Q:Ro) (l:List (TCT Bz)) (g:GbT) (ps:List (TCT cPt)) (os:List (TCT A1)) (i:Int):Tree Aiu :=
 bif decide (i<(l.length:Int)) then inN l.length i (inN l.length i (bif Ait (lwb g) then A8x Q l g ps os i (spt (Al l (Int.toNat i) (Ak Bz))) (R (lwb g) (spt (Al l (Int.toNat i) (Ak Bz))) 2946 os) else .fail)) else .leaf (.inr (Arf l g ps os))
noncomputable def Pq (R:Tg) (Q:Ro) (x:Ou.T):Tree Aiu:=Zm R Q x.1.1 x.2.1 x.1.2.2.1 x.1.2.2.2.1 x.1.2.2.2.2.1
def Acb (x:Ou.T):Nat:=(x.1.1:List (TCT Bz)).length+1
noncomputable def Kf (R:Tg) (M:Rn) (Q:Ro):Ctx:=ctx Tryz.prog (plLd0 R M Q) []
theorem B8x (R:Tg) (M:Rn) (Q:Ro) (g:Ou.T):evC Tryz.prog (Dh (Kf R M Q) 6) (Kf R M Q).pures 5 (Kf R M Q).u (fun _=>none) Zj (Ou.of g) (Ew Ou Ut)=Pq R Q g:=by kernel_rfl
abbrev B4m:=Ov.T⊕A0 Uu
noncomputable def Zn (l:List (TCT Bz)) (g:GbT) (ps:List (TCT cPt)) (os:List (TCT A1)) (i:Int):Ov.T:=((l,(),ps,os,i,()),(g,()))
def A4b (l:List (TCT Bz)) (g:GbT) (ps:List (TCT cPt)):A0 Uu:=⟨.exit 2,((l,(),ps,()),(g,()))⟩
def Arh (b:Bool):A0 Uu:=⟨.ret,((b,()),())⟩
def rsL (os:List (TCT A1)) (i:Int):List (TCT A1):=([]++List.take (Int.toNat i) os)++List.drop (Int.toNat (W64 (i+1))) os
noncomputable def B00 (l:List (TCT Bz)) (g:GbT) (ps:List (TCT cPt)) (os:List (TCT A1)) (i:Int) (m:Bool×Int):Tree B4m :=
 bif m.2 != 0 then .leaf (.inr (Arh false)) else bif !m.1 then .leaf (.inr (Arh false)) else .leaf (.inl (Zn l g ps os (W64 (i+1))))
noncomputable def Zo (M:Rn) (l:List (TCT Bz)) (g:GbT) (ps:List (TCT cPt)) (os:List (TCT A1)) (i:Int):Tree B4m :=
 bif decide (i<(l.length:Int)) then bif decide (0≤i∧i≤(os.length:Int)) then bif decide (0≤i∧i≤(os.length:Int)) then bif decide (0≤W64 (i+1)∧W64 (i+1)≤(os.length:Int)) then
 bif D4 ([]:List (TCT A1)) (List.take (Int.toNat i) os) 24 then bif D4 (([]:List (TCT A1))++List.take (Int.toNat i) os) (List.drop (Int.toNat (W64 (i+1))) os) 24 then
 inN ps.length i (inN ps.length i (bif Ait (lwb g) then B00 l g ps os i (M (lwb g) (Al ps (Int.toNat i) (Ak cPt)) 2946 (rsL os i)) else .fail)) else .fail else .fail else .fail else .fail else .fail else .leaf (.inr (A4b l g ps))
noncomputable def Pr (M:Rn) (x:Ov.T):Tree B4m:=Zo M x.1.1 x.2.1 x.1.2.2.1 x.1.2.2.2.1 x.1.2.2.2.2.1
def Acc (x:Ov.T):Nat:=(x.1.1:List (TCT Bz)).length+1
theorem B8y (R:Tg) (M:Rn) (Q:Ro) (g:Ov.T):evC Tryz.prog (Dh (Kf R M Q) 6) (Kf R M Q).pures 5 (Kf R M Q).u (fun _=>none) Zk (Ov.of g) (Ew Ov Uu)=Pr M g:=by kernel_rfl
def B8z:List BK:=[(2002,76,kSt)]
def Ow:Lay:={ keys:=[0,4,16,21],ks:=[.d (.sl Bz),.d (.sl cPt),.p 2002 0 0 0,.d cI],bs:=B8z,n:=192,nx:=3000,marks:=[] }
def B90:Lay:={ keys:=[],ks:=[],bs:=[],n:=192,nx:=3000,marks:=[] }
def B4n:Lay:={ keys:=[2],ks:=[.d .b],bs:=[],n:=192,nx:=3000,marks:=[] }
def Uv:XE→Lay:=fun e=>match e with | .ret=>B4n | _=>B90
abbrev B91:=Ow.T⊕A0 Uv
noncomputable def Zp (l:List (TCT Bz)) (ps:List (TCT cPt)) (t:SKTs kSt) (i:Int):Ow.T:=((l,ps,(),i,()),(t,()))
def Acd:A0 Uv:=⟨.exit 4,((),())⟩
def B4o (b:Bool):A0 Uv:=⟨.ret,((b,()),())⟩
noncomputable def Zq (l:List (TCT Bz)) (ps:List (TCT cPt)) (t:SKTs kSt) (i:Int):Tree B91 :=
 bif decide (i<(l.length:Int)) then inN (msT (St.stOf t)).length i (inN ps.length i (bif !((Al (msT (St.stOf t)) (Int.toNat i) (Ak Au)).1.1==(Al ps (Int.toNat i) (Ak cPt)).1&&((Al (msT (St.stOf t)) (Int.toNat i) (Ak Au)).1.2.1==(Al ps (Int.toNat i) (Ak cPt)).2.1&&true)) then .leaf (.inr (B4o false)) else .leaf (.inl (Zp l ps t (W64 (i+1)))))) else .leaf (.inr Acd)
noncomputable def Pt (x:Ow.T):Tree B91:=Zq x.1.1 x.1.2.1 x.2.1 x.1.2.2.2.1
def Ace (x:Ow.T):Nat:=(x.1.1:List (TCT Bz)).length+1
theorem B92 (R:Tg) (M:Rn) (Q:Ro) (g:Ow.T):evC Tryz.prog (Dh (Kf R M Q) 6) (Kf R M Q).pures 5 (Kf R M Q).u (fun _=>none) Zl (Ow.of g) (Ew Ow Uv)=Pt g:=by kernel_rfl
noncomputable def plLd (R:Tg) (M:Rn) (Q:Ro) (L:A8w) (U:FTk) (S:A0j):List (Nat×PureT):=(24,Ard L)::(25,B5d U)::(26,Are S)::plLd0 R M Q
end Tp
end V
end Go.Proofs.YtlangijnealfjaaGreat
namespace Go.Proofs.YtlangijnealfjaaGreat
open Go.RowKit
namespace V
namespace Tp
open St
def Aiv:Tree Unit:=.leaf ()
def Ti:A0j:=fun g s=>(bif Gq g s != 0 then false else Df s,Gq g s)
theorem B4p:A7 Tryz.prog 26 (Are Ti):=Aue
theorem puLd:Ci Tryz.prog (plLd Jj Kw Kx Zi TickV Ti):=puOk_cons is_sLie.plain B4k (puOk_cons is_sTick.plain Avk (puOk_cons is_sStill.plain B4p puLd0))
theorem Tj:CtxOk (Kf Jj Kw Kx):=Ap Am puLd0 A3
theorem B93:Ax Tryz.prog 5 Zj (As Ou Ut (De [.ret,.exit 0] (Pq Jj Kx) Acb)):=Bo Tj 6 _ Ou Ut (fun e=>by cases e <;> exact Nat.le_refl _) [.ret,.exit 0] _ Acb (B8x Jj Kw Kx)
theorem B94:Ax Tryz.prog 5 Zk (fun s=>As Ov Uu (De [.ret,.exit 2] (Pr Kw) Acc) (fzT [4,5] s)):=Air [4,5] (Bo Tj 6 _ Ov Uu (fun e=>by cases e <;> exact Nat.le_refl _) [.ret,.exit 2] _ Acc (B8y Jj Kw Kx))
theorem B95:Ax Tryz.prog 5 Zl (As Ow Uv (De [.ret,.exit 4] Pt Ace)):=Bo Tj 6 _ Ow Uv (fun e=>by cases e <;> exact Nat.le_refl _) [.ret,.exit 4] _ Ace (B92 Jj Kw Kx)
theorem Ari:Aj (bodyOf Tryz.f5)=[Zj,Zk,Zl]:=by kernel_rfl
theorem Aya:keyOf Zj=7:=by kernel_rfl
theorem Ayb:keyOf Zk=19:=by kernel_rfl
theorem Ayc:keyOf Zl=31:=by kernel_rfl
noncomputable def B01 (y:Option (A0 Uv)):Tree Unit:=bif isE .ret y then (bif (C3 .ret y).1.1 then Aiv else .fail) else bif isE (.exit 4) y then Aiv else .fail
noncomputable def Arj (l:List (TCT Bz)) (ps:List (TCT cPt)) (r:TkR) (s:Bool×Int):Tree Unit :=
 bif s.2 != 0 then .fail else bif (r.2.1.length:Int)!=0 then .fail else bif !s.1 then .fail else bif ((msT r.1).length:Int)!=(l.length:Int) then .fail else B01 (iter Pt (l.length+1) (Zp l ps (M9 r.1) 0))
noncomputable def Ark (S:A0j) (l:List (TCT Bz)) (g:TCT cGr) (ps:List (TCT cPt)) (u:TCT cSt×Int) (r:TkR):Tree Unit :=
 szT g.1 (bif u.2 != 0 then .fail else bif r.2.2.1 != 0 then .fail else Arj l ps r (S g (St.etaS r.1)))
noncomputable def Arl (U:FTk) (S:A0j) (l:List (TCT Bz)) (g:TCT cGr) (ps:List (TCT cPt)) (u:TCT cSt×Int):Tree Unit:=szT g.1 (Ark S l g ps u (U g (St.etaS u.1)))
noncomputable def Arm (L:A8w) (U:FTk) (S:A0j) (y:Option (A0 Uu)):Tree Unit:=bif isE .ret y then (bif (C3 .ret y).1.1 then Aiv else .fail) else bif isE (.exit 2) y then
 szT (lwb (C3 (.exit 2) y).2.1) (Arl U S (C3 (.exit 2) y).1.1 (grb (C3 (.exit 2) y).2.1) (C3 (.exit 2) y).1.2.2.1 (L (grb (C3 (.exit 2) y).2.1) (C3 (.exit 2) y).1.2.2.1)) else .fail
noncomputable def B96 (M:Rn) (L:A8w) (U:FTk) (S:A0j) (y:Option (A0 Ut)):Tree Unit:=bif isE .ret y then (bif (C3 .ret y).1.1 then Aiv else .fail) else bif isE (.exit 0) y then
 Arm L U S (iter (Pr M) ((C3 (.exit 0) y).1.1.length+1) (Zn (C3 (.exit 0) y).1.1 (C3 (.exit 0) y).2.1 (C3 (.exit 0) y).1.2.2.1 (C3 (.exit 0) y).1.2.2.2.1 0)) else .fail
noncomputable def Ayd (R:Tg) (M:Rn) (Q:Ro) (L:A8w) (U:FTk) (S:A0j) (l:List (TCT Bz)):Tree Unit :=
 bif (l.length:Int)==0 then Aiv else bif decide ((l.length:Int)>4) then Aiv else B96 M L U S (iter (Pq R Q) (l.length+1) (Ng l (gb0 6000 0 (0,0,())) [] [] 0))
end Tp
open Tp
noncomputable def Nh (R:Tg) (M:Rn) (Q:Ro) (L:A8w) (U:FTk) (S:A0j):Ctx:=Ib Tryz.prog (plLd R M Q L U S) [(5,Tryz.f5)] [((5,7),As Ou Ut (De [.ret,.exit 0] (Pq R Q) Acb)),((5,19),fun s=>As Ov Uu (De [.ret,.exit 2] (Pr M) Acc) (fzT [4,5] s)),((5,31),As Ow Uv (De [.ret,.exit 4] Pt Ace))]
noncomputable def X_topLaidDown:Ctx:=Nh Jj Kw Kx Zi St.TickV Ti
theorem X_topLaidDown_ok:CtxOk X_topLaidDown:=Cj Am puLd (fns_cons is_TopLaidDown A3) (Ej (Mg (ds:=[Zj,Zk,Zl]) Ari ⟨Gs (k:=7) Aya rfl B93,Gs (k:=19) Ayb rfl B94,Gs (k:=31) Ayc rfl B95,trivial⟩) Iv)
theorem Aye (R:Tg) (M:Rn) (Q:Ro) (L:A8w) (U:FTk) (S:A0j) (y:TCTs cs_topLaidDown):Dh (Nh R M Q L U S) 7 (.fn 5) (Eg cs_topLaidDown y) C4 0 Ac5=Ayd R M Q L U S y.1:=by kernel_rfl
end V
end Go.Proofs.YtlangijnealfjaaGreat
