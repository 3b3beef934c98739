import Derived.Test.YtlangijnealfjaaGreatXq
import Derived.Test.YtlangijnealfjaaGreatXc
namespace Go.Proofs.YtlangijnealfjaaGreat
open Go.RowKit
namespace V
open St
theorem is_Direct:FnIs Tryz.prog (10,Tryz.f10):=⟨Tryz.func10,by kernel_rfl,by kernel_rfl⟩
theorem is_newPair:FnIs Tryz.prog (38,Tryz.f38):=⟨Tryz.func38,by kernel_rfl,by kernel_rfl⟩
theorem is_pdirect:FnIs Tryz.prog (39,Tryz.f39):=⟨Tryz.func39,by kernel_rfl,by kernel_rfl⟩
theorem is_pdirect1:FnIs Tryz.prog (100,Tryz.f100):=⟨Tryz.func100,by kernel_rfl,by kernel_rfl⟩
abbrev C2:Type:=TCT cPt→TCT cPt→TCT A1→Bool×Int
abbrev F6:Type:=TCT A1→List (TCT cPt)×Int
abbrev Ah1 (P:C2):PureT:=B9 [cPt,cPt,A1] [.b,cI] (fun _=>true) (fun x=>((P x.1 x.2.1 x.2.2.1).1,(P x.1 x.2.1 x.2.2.1).2,()))
abbrev A61 (R:F6):PureT:=B9 [A1] [.sl cPt,cI] (fun _=>true) (fun x=>((R x.1).1,(R x.1).2,()))
def Br:C2:=fun p q d=>((Rg.PassR (p,q,d,())).1,(Rg.PassR (p,q,d,())).2.1)
def Bg:F6:=fun d=>((Rg.RingR d.1.1 d.1.2.1 d.2.1).1,(Rg.RingR d.1.1 d.1.2.1 d.2.1).2.1)
theorem Apj:A5 Tryz.prog 18 (Ah1 Br):=Rg.q_Passes
theorem Ah2:A5 Tryz.prog 12 (A61 Bg):=Rg.q_Ring
abbrev plDi (P:C2) (R:F6):List (Nat×PureT):=(18,Ah1 P)::(12,A61 R)::(15,Qk)::[]
theorem puDi:Ca Tryz.prog (plDi Br Bg):=puOk_cons Rg.is_Passes.plain Apj (puOk_cons Rg.is_Ring.plain Ah2 (puOk_cons is_Touch.plain Y1 puOk_nil))
noncomputable def Apk:List (Nat×Func):=[(10,Tryz.f10),(38,Tryz.f38),(39,Tryz.f39),(100,Tryz.f100)]
theorem A8c:∀ p ∈ Apk,FnIs Tryz.prog p:=A0 is_Direct (A0 is_newPair (A0 is_pdirect (A0 is_pdirect1 A2)))
noncomputable def Nv:Code:=(Ai (bodyOf Tryz.f100)).getD 0 .skip
noncomputable def Uk:Code:=(Ai (bodyOf Tryz.f100)).getD 1 .skip
abbrev c2:TC:=.st [cI,cI]
abbrev kPr:List SK:=[.d cI,.d cI,.d cI,.d cI,.d cI,.d cI,.d (.sl cPt),.d (.sl cPt)]
abbrev bkP:BK:=(4,224,kPr)
abbrev bkO:BK:=(5,38,[.o 48 c2])
abbrev bkX:BK:=(6,133,[.p 4 0 0 0])
noncomputable def P5:LK:={ id:=8,keys:=[8],ks:=[.p 5 0 0 0],n:=31,fn:=10,params:=[21],assign:=(rangeAt Tryz.f10 0).1,body:=(rangeAt Tryz.f10 0).2,df:=7,st:=some 0 }
noncomputable def Qb:Lay2:={ keys:=[0,1,14,15,16],ks:=[.y 8,.p 6 0 0 0,.d (.sl cPt),.d cI,.d cI],bs:=[bkP,bkO,bkX],ls:=[P5],n:=69,nx:=1000,marks:=[],ds:=[7] }
noncomputable def Auh:Lay2:={ keys:=[],ks:=[],bs:=[bkO],ls:=[P5],n:=69,nx:=1000,marks:=[],ds:=[7] }
noncomputable def Vd:XE→Lay2:=fun _=>Auh
noncomputable def P6:Lay2:={ keys:=[0,1,3,4,14,15,16,24,25,26],ks:=[.y 8,.p 6 0 0 0,.d cI,.p 1001 0 0 0,.d (.sl cPt),.d cI,.d cI,.d (.sl cPt),.d cI,.d cI],bs:=[bkP,bkO,bkX,(1001,28,kP6)],ls:=[P5],n:=69,nx:=2000,marks:=[],ds:=[7] }
noncomputable def Aui:Lay2:={ keys:=[0,1,14,15,16],ks:=[.y 8,.p 6 0 0 0,.d (.sl cPt),.d cI,.d cI],bs:=[bkP,bkO,bkX],ls:=[P5],n:=69,nx:=2000,marks:=[],ds:=[7] }
noncomputable def Qc:XE→Lay2:=fun _=>Aui
noncomputable def Ul (P:C2) (R:F6):Ctx:=ctx Tryz.prog (plDi P R) Apk
noncomputable def Alk:LTs [P5]:=(((((),()):SKTs P5.ks),((():Unit):StT P5.st)),())
end V
end Go.Proofs.YtlangijnealfjaaGreat
namespace Go.Proofs.YtlangijnealfjaaGreat
open Go.RowKit
namespace V
open St
def dA8 (pr:SKTs kPr):TCT A1:=((pr.1,pr.2.1,()),pr.2.2.1,())
def dB8 (pr:SKTs kPr):TCT A1:=((pr.2.2.2.1,pr.2.2.2.2.1,()),pr.2.2.2.2.2.1,())
def lB8 (pr:SKTs kPr):List (TCT cPt):=pr.2.2.2.2.2.2.2.1
def lnB (P:C2) (a b:TCT A1) (p q:TCT cPt):Bool:=!(P p q a).1&&!(P p q b).1
noncomputable def A8d (pr:SKTs kPr) (p:SKTs kP6) (o:List (TCT c2)) (i0:Int) (la:List (TCT cPt)) (na ia:Int) (lb:List (TCT cPt)) (nb ib:Int):P6.T:=(((),(),i0,(),la,na,ia,lb,nb,ib,()),(pr,(o,()),((),()),p,()),Alk)
noncomputable def A2w (pr:SKTs kPr) (o:List (TCT c2)) (la:List (TCT cPt)) (na ia:Int):Bj Qc:=⟨.exit 2,(((),(),la,na,ia,()),(pr,(o,()),((),()),()),Alk)⟩
abbrev TDi:=Tree (P6.T⊕Bj Qc)
noncomputable def A8e (pr:SKTs kPr) (p:SKTs kP6) (o:List (TCT c2)) (i0:Int) (la:List (TCT cPt)) (na ia:Int) (lb:List (TCT cPt)) (nb ib:Int):TDi:=.need (E2 [P5]) (.leaf (.inl (A8d pr p o i0 la na ia lb nb (W64 (ib+1)))))
noncomputable def Amt (P:C2) (pr:SKTs kPr) (p:SKTs kP6) (o:List (TCT c2)) (i0:Int) (la:List (TCT cPt)) (na ia:Int) (lb:List (TCT cPt)) (nb ib:Int) (q:TCT cPt):TDi :=
 bif !(P (Di p) q (dA8 pr)).1 then bif !(P (Di p) q (dB8 pr)).1 then bif Dv o [(i0,ib,())] 16 then A8e pr p (o++[(i0,ib,())]) i0 la na ia lb nb ib else .fail else A8e pr p o i0 la na ia lb nb ib else A8e pr p o i0 la na ia lb nb ib
noncomputable def A2x (P:C2) (pr:SKTs kPr) (p:SKTs kP6) (o:List (TCT c2)) (i0:Int) (la:List (TCT cPt)) (na ia:Int) (lb:List (TCT cPt)) (nb ib:Int):TDi :=
 bif decide (ib<nb) then bif decide (0≤ib∧ib<(lb.length:Int)) then Amt P pr p o i0 la na ia lb nb ib (Ar lb (Int.toNat ib) (Ap cPt)) else .fail else .need (E2 [P5]) (.leaf (.inr (A2w pr o la na ia)))
noncomputable def A2y (P:C2) (g:P6.T):TDi:=A2x P g.2.1.1 g.2.1.2.2.2.1 g.2.1.2.1.1 g.1.2.2.1 g.1.2.2.2.2.1 g.1.2.2.2.2.2.1 g.1.2.2.2.2.2.2.1 g.1.2.2.2.2.2.2.2.1 g.1.2.2.2.2.2.2.2.2.1 g.1.2.2.2.2.2.2.2.2.2.1
theorem Auj (P:C2) (R:F6) (g:P6.T):evC Tryz.prog (D7 (Ul P R) 9) (Ul P R).pures 100 (Ul P R).u (fun _=>none) Uk (P6.of g) (E3 P6 Qc)=A2y P g:=by kernel_rfl
def Ia (P:C2) (a b:TCT A1) (p:TCT cPt) (i:Int):List (TCT cPt)→Int→List (TCT c2)
 | [],_=>[]
 | q::l,k=>bif lnB P a b p q then (i,k,())::Ia P a b p i l (k+1) else Ia P a b p i l (k+1)
def Ab6 (o:List (TCT c2)) (lb:List (TCT cPt)) (nb ib:Int):Bool:=decide (nb=(lb.length:Int)∧ib=0)&&decide (lb.length≤1000∧o.length≤100000)
noncomputable def A62 (P:C2) (g:P6.T):Tree (Bj Qc):=.br (Ab6 g.2.1.2.1.1 g.1.2.2.2.2.2.2.2.1 g.1.2.2.2.2.2.2.2.2.1 g.1.2.2.2.2.2.2.2.2.2.1)
 (.leaf (A2w g.2.1.1 (g.2.1.2.1.1++Ia P (dA8 g.2.1.1) (dB8 g.2.1.1) (Di g.2.1.2.2.2.1) g.1.2.2.1 g.1.2.2.2.2.2.2.2.1 0) g.1.2.2.2.2.1 g.1.2.2.2.2.2.1 g.1.2.2.2.2.2.2.1)) .fail
theorem A8f {P:C2} {pr:SKTs kPr} {p:SKTs kP6} {i0:Int} {la:List (TCT cPt)} {na ia:Int} {lb:List (TCT cPt)} {R:Bj Qc→Prop} (hb:lb.length≤1000):∀ (n i:Nat) (o:List (TCT c2)),i+n=lb.length→o.length≤100000+i →
  R (A2w pr (o++Ia P (dA8 pr) (dB8 pr) (Di p) i0 (lb.drop i) (i:Int)) la na ia)→Hl P6 Qc (A2y P) R (n+1) (A8d pr p o i0 la na ia lb lb.length (i:Int))
 | 0,i,o,hn,ho,hr=>by
  intro _
  have e:i=lb.length:=by omega
  subst e
  show (A2x P pr p o i0 la na ia lb lb.length (lb.length:Int)).sat _
  unfold A2x
  rw [decide_eq_false (Int.lt_irrefl _),cond_false]
  refine ⟨Bp _,fun _=>?_⟩
  rw [List.drop_length] at hr
  rw [show o++Ia P (dA8 pr) (dB8 pr) (Di p) i0 [] ((lb.length:Nat):Int)=o from List.append_nil o] at hr
  exact hr
 | n+1,i,o,hn,ho,hr=>by
  intro _
  have hi:i<lb.length:=by omega
  show (A2x P pr p o i0 la na ia lb lb.length (i:Int)).sat _
  unfold A2x
  rw [decide_eq_true (show (i:Int)<(lb.length:Int) by omega),decide_eq_true (show 0≤(i:Int)∧(i:Int)<(lb.length:Int) by omega),cond_true,cond_true,show Int.toNat (i:Int)=i by omega,Cl hi]
  have hd:lb.drop i=lb[i]::lb.drop (i+1):=List.drop_eq_getElem_cons hi
  rw [hd] at hr
  have go:∀ o':List (TCT c2),o'.length≤100000+(i+1)→R (A2w pr (o'++Ia P (dA8 pr) (dB8 pr) (Di p) i0 (lb.drop (i+1)) ((i+1:Nat):Int)) la na ia)→(A8e pr p o' i0 la na ia lb lb.length (i:Int)).sat (fun x=>match x with | .inl g'=>Hl P6 Qc (A2y P) R (n+1) g' | .inr x=>(Qc x.1).WF x.2→R x):=by
   intro o' h1 h2
   refine ⟨Bp _,?_⟩
   show Hl P6 Qc (A2y P) R (n+1) (A8d pr p o' i0 la na ia lb lb.length (W64 ((i:Int)+1)))
   rw [C6 (n:=(i:Int)+1) (by omega) (by omega)]
   exact A8f hb n (i+1) o' (by omega) h1 h2
  unfold Amt
  have ha:Dv o [((i0,(i:Int),()):TCT c2)] 16=true:=Aeo (by rw [List.length_singleton];omega) (by decide)
  have hr:R (A2w pr (o++(bif lnB P (dA8 pr) (dB8 pr) (Di p) lb[i] then (i0,(i:Int),())::Ia P (dA8 pr) (dB8 pr) (Di p) i0 (lb.drop (i+1)) ((i:Int)+1) else Ia P (dA8 pr) (dB8 pr) (Di p) i0 (lb.drop (i+1)) ((i:Int)+1))) la na ia):=hr
  unfold lnB at hr
  cases h1:(P (Di p) lb[i] (dA8 pr)).1 with
  | true =>
   rw [h1] at hr
   exact go o (by omega) hr
  | false =>
   rw [h1] at hr
   cases h2:(P (Di p) lb[i] (dB8 pr)).1 with
   | true =>
    rw [h2] at hr
    exact go o (by omega) hr
   | false =>
    rw [h2] at hr
    simp only [Bool.not_false,cond_true]
    rw [ha]
    refine go (o++[(i0,(i:Int),())]) (by rw [List.length_append,List.length_singleton];omega) ?_
    rw [List.append_assoc]
    exact hr
theorem A2z:CtxOk (Ul Br Bg):=Aj Ak puDi A8c
theorem Auk:As Tryz.prog 100 Uk (Dc P6 Qc (A62 Br)):=by
 refine Gx A2z 9 _ (fun _=>none) (fun _ _ f h=>by simp at h) P6 Qc (fun _=>Nat.le_refl _) (A62 Br) (A2y Br) (Auj Br Bg) ?_
 intro g R _ hf
 obtain ⟨hf,h0⟩:=hf
 cases hc:Ab6 g.2.1.2.1.1 g.1.2.2.2.2.2.2.2.1 g.1.2.2.2.2.2.2.2.2.1 g.1.2.2.2.2.2.2.2.2.2.1 with
 | false=>exact (h0 hc).elim
 | true =>
  have hr:=hf hc
  unfold Ab6 at hc
  rw [Bool.and_eq_true,decide_eq_true_eq,decide_eq_true_eq] at hc
  obtain ⟨⟨k1,k2⟩,k3,k4⟩:=hc
  have:=A8f (P:=Br) (pr:=g.2.1.1) (p:=g.2.1.2.2.2.1) (i0:=g.1.2.2.1) (la:=g.1.2.2.2.2.1) (na:=g.1.2.2.2.2.2.1) (ia:=g.1.2.2.2.2.2.2.1) (lb:=g.1.2.2.2.2.2.2.2.1) (R:=R) k3 _ 0 g.2.1.2.1.1 (Nat.zero_add _) (by omega) (by rw [List.drop_zero];exact hr)
  refine ⟨(g.1.2.2.2.2.2.2.2.1:List (TCT cPt)).length+1,?_⟩
  have e:A8d g.2.1.1 g.2.1.2.2.2.1 g.2.1.2.1.1 g.1.2.2.1 g.1.2.2.2.2.1 g.1.2.2.2.2.2.1 g.1.2.2.2.2.2.2.1 g.1.2.2.2.2.2.2.2.1 ((g.1.2.2.2.2.2.2.2.1:List (TCT cPt)).length:Int) (((0:Nat)):Int)=g:=by
   rw [← k1]
   have k2':(((0:Nat)):Int)=g.1.2.2.2.2.2.2.2.2.2.1:=k2.symm
   rw [k2']
   rfl
  rw [← e]
  exact this
noncomputable def A8g (pr:SKTs kPr) (o:List (TCT c2)) (la:List (TCT cPt)) (na ia:Int):Qb.T:=(((),(),la,na,ia,()),(pr,(o,()),((),()),()),Alk)
noncomputable def Ah3 (o:List (TCT c2)):Bj Vd:=⟨.exit 0,((),((o,()),()),Alk)⟩
abbrev TDo:=Tree (Qb.T⊕Bj Vd)
noncomputable def Asl (P:C2) (pr:SKTs kPr) (o:List (TCT c2)) (la:List (TCT cPt)) (na ia:Int) (p:TCT cPt):TDo :=
 .need (E2 [P5]) (bif Ab6 o (lB8 pr) ((lB8 pr).length:Int) 0 then .need (E2 [P5]) (.leaf (.inl (A8g pr (o++Ia P (dA8 pr) (dB8 pr) (p.1,p.2.1,()) ia (lB8 pr) 0) la na (W64 (ia+1))))) else .fail)
noncomputable def A30 (P:C2) (pr:SKTs kPr) (o:List (TCT c2)) (la:List (TCT cPt)) (na ia:Int):TDo :=
 bif decide (ia<na) then bif decide (0≤ia∧ia<(la.length:Int)) then Asl P pr o la na ia (Ar la (Int.toNat ia) (Ap cPt)) else .fail else .need (E2 [P5]) (.leaf (.inr (Ah3 o)))
noncomputable def A8h (P:C2) (g:Qb.T):TDo:=A30 P g.2.1.1 g.2.1.2.1.1 g.1.2.2.1 g.1.2.2.2.1 g.1.2.2.2.2.1
noncomputable def Amu (P:C2):Je:=fun k=>bif Nat.beq k 4 then some (Dc P6 Qc (A62 P)) else none
theorem Aul (P:C2) (R:F6) (g:Qb.T):evC Tryz.prog (D7 (Ul P R) 9) (Ul P R).pures 100 (Ul P R).u (Amu P) Nv (Qb.of g) (E3 Qb Vd)=A8h P g:=by kernel_rfl
end V
end Go.Proofs.YtlangijnealfjaaGreat
namespace Go.Proofs.YtlangijnealfjaaGreat
open Go.RowKit
namespace V
open St
def Le (P:C2) (a b:TCT A1) (lb:List (TCT cPt)):List (TCT cPt)→Int→List (TCT c2)
 | [],_=>[]
 | p::l,i=>Ia P a b (p.1,p.2.1,()) i lb 0++Le P a b lb l (i+1)
theorem Um {P:C2} {a b:TCT A1} {p:TCT cPt} {i:Int}:∀ (l:List (TCT cPt)) (k:Int),(Ia P a b p i l k).length≤l.length
 | [],_=>Nat.le_refl _
 | q::l,k=>by
  have:=Um (P:=P) (a:=a) (b:=b) (p:=p) (i:=i) l (k+1)
  show (bif lnB P a b p q then (i,k,())::Ia P a b p i l (k+1) else Ia P a b p i l (k+1)).length≤l.length+1
  cases lnB P a b p q with
  | true=>rw [cond_true,List.length_cons];omega
  | false=>rw [cond_false];omega
def Ab7 (o:List (TCT c2)) (la lb:List (TCT cPt)) (na ia:Int):Bool:=decide (na=(la.length:Int)∧ia=0)&&decide (la.length≤100∧lb.length≤100∧o.length=0)
noncomputable def A63 (P:C2) (g:Qb.T):Tree (Bj Vd):=.br (Ab7 g.2.1.2.1.1 g.1.2.2.1 (lB8 g.2.1.1) g.1.2.2.2.1 g.1.2.2.2.2.1)
 (.leaf (Ah3 (g.2.1.2.1.1++Le P (dA8 g.2.1.1) (dB8 g.2.1.1) (lB8 g.2.1.1) g.1.2.2.1 0))) .fail
theorem A8i {P:C2} {pr:SKTs kPr} {la:List (TCT cPt)} {R:Bj Vd→Prop} (ha:la.length≤100) (hb:(lB8 pr).length≤100):∀ (n i:Nat) (o:List (TCT c2)),i+n=la.length→o.length≤100*i →
  R (Ah3 (o++Le P (dA8 pr) (dB8 pr) (lB8 pr) (la.drop i) (i:Int)))→Hl Qb Vd (A8h P) R (n+1) (A8g pr o la la.length (i:Int))
 | 0,i,o,hn,ho,hr=>by
  intro _
  have e:i=la.length:=by omega
  subst e
  show (A30 P pr o la la.length (la.length:Int)).sat _
  unfold A30
  rw [decide_eq_false (Int.lt_irrefl _),cond_false]
  refine ⟨Bp _,fun _=>?_⟩
  rw [List.drop_length] at hr
  rw [show o++Le P (dA8 pr) (dB8 pr) (lB8 pr) [] ((la.length:Nat):Int)=o from List.append_nil o] at hr
  exact hr
 | n+1,i,o,hn,ho,hr=>by
  intro _
  have hi:i<la.length:=by omega
  show (A30 P pr o la la.length (i:Int)).sat _
  unfold A30
  rw [decide_eq_true (show (i:Int)<(la.length:Int) by omega),decide_eq_true (show 0≤(i:Int)∧(i:Int)<(la.length:Int) by omega),cond_true,cond_true,show Int.toNat (i:Int)=i by omega,Cl hi]
  have hd:la.drop i=la[i]::la.drop (i+1):=List.drop_eq_getElem_cons hi
  rw [hd] at hr
  unfold Asl
  have hk:Ab6 o (lB8 pr) ((lB8 pr).length:Int) 0=true:=by
   unfold Ab6
   rw [decide_eq_true (show ((lB8 pr).length:Int)=((lB8 pr).length:Int)∧(0:Int)=0 from ⟨rfl,rfl⟩),decide_eq_true (show (lB8 pr).length≤1000∧o.length≤100000 by omega)];rfl
  rw [hk]
  refine ⟨Bp _,Bp _,?_⟩
  show Hl Qb Vd (A8h P) R (n+1) (A8g pr (o++Ia P (dA8 pr) (dB8 pr) (la[i].1,la[i].2.1,()) (i:Int) (lB8 pr) 0) la la.length (W64 ((i:Int)+1)))
  rw [C6 (n:=(i:Int)+1) (by omega) (by omega)]
  have hl:=Um (P:=P) (a:=dA8 pr) (b:=dB8 pr) (p:=(la[i].1,la[i].2.1,())) (i:=(i:Int)) (lB8 pr) 0
  refine A8i ha hb n (i+1) _ (by omega) (by rw [List.length_append];omega) ?_
  rw [List.append_assoc]
  exact hr
theorem A31:Ai Nv=[Uk]:=by kernel_rfl
theorem A32:Ai (bodyOf Tryz.f100)=[Nv,Uk]:=by kernel_rfl
theorem Z5:keyOf Uk=4:=by kernel_rfl
theorem key_do:keyOf Nv=1:=by kernel_rfl
theorem Aum:As Tryz.prog 100 Nv (Dc Qb Vd (A63 Br)):=by
 refine Gx A2z 9 _ (Amu Br) (fun d hd f hf=>by
  rw [A31,List.mem_singleton] at hd
  subst hd
  rw [Z5] at hf
  cases hf
  exact Auk) Qb Vd (fun _=>Nat.le_refl _) (A63 Br) (A8h Br) (Aul Br Bg) ?_
 intro g R _ hf
 obtain ⟨hf,h0⟩:=hf
 cases hc:Ab7 g.2.1.2.1.1 g.1.2.2.1 (lB8 g.2.1.1) g.1.2.2.2.1 g.1.2.2.2.2.1 with
 | false=>exact (h0 hc).elim
 | true =>
  have hr:=hf hc
  unfold Ab7 at hc
  rw [Bool.and_eq_true,decide_eq_true_eq,decide_eq_true_eq] at hc
  obtain ⟨⟨k1,k2⟩,k3,k4,k5⟩:=hc
  have:=A8i (P:=Br) (pr:=g.2.1.1) (la:=g.1.2.2.1) (R:=R) k3 k4 _ 0 g.2.1.2.1.1 (Nat.zero_add _) (by omega) (by rw [List.drop_zero];exact hr)
  refine ⟨(g.1.2.2.1:List (TCT cPt)).length+1,?_⟩
  have e:A8g g.2.1.1 g.2.1.2.1.1 g.1.2.2.1 ((g.1.2.2.1:List (TCT cPt)).length:Int) (((0:Nat)):Int)=g:=by
   rw [← k1]
   have k2':(((0:Nat)):Int)=g.1.2.2.2.2.1:=k2.symm
   rw [k2']
   rfl
  rw [← e]
  exact this
noncomputable def Amv (P:C2) (R:F6):Ctx:=Fu Tryz.prog (plDi P R) Apk [((100,1),Dc Qb Vd (A63 P))]
theorem All:CtxOk (Amv Br Bg):=Bt Ak puDi A8c (Bu (D9 (by kernel_rfl)) (Bu (D9 (by kernel_rfl)) (Bu (D9 (by kernel_rfl)) (Bu (Rm (f:=100) (fn:=Tryz.f100) (la:=Nv) (k:=1) (fun d hd hk=>by
 rw [A32,List.mem_cons,List.mem_singleton] at hd
 rcases hd with rfl | rfl
 ·rfl
 ·rw [Z5] at hk;cases hk) Aum _ (List.mem_singleton.2 rfl)) Ko))))
abbrev A33:Type:=TCT A1→TCT A1→List (TCT c2)×Int
def Ab8 (R:F6) (a b:TCT A1):Bool:=(R a).2 != 0||((R b).2 != 0||(decide (a.2.1>16384)||(decide (b.2.1>16384)||decide (Jp a b<0))))
def Qd (P:C2) (R:F6):A33:=fun a b=>bif Ab8 R a b then ([],2) else (Le P a b (R b).1 (R a).1 0,0)
abbrev Ah4 (D:A33):PureT:=B9 [A1,A1] [.sl c2,cI] (fun _=>true) (fun x=>((D x.1 x.2.1).1,(D x.1 x.2.1).2,()))
abbrev TDr:=Tree (TCTs [.sl c2,cI])
def erD:TDr:=.leaf ([],2,())
noncomputable def Alm (P:C2) (R:F6) (a b:TCT A1):TDr:=bif (R a).2 != 0 then erD else bif (R b).2 != 0 then erD else bif decide (a.2.1>16384) then erD else bif decide (b.2.1>16384) then erD else bif decide (Jp ((a.1.1,a.1.2.1,()),a.2.1,()) ((b.1.1,b.1.2.1,()),b.2.1,())<0) then erD else
 .need (E2 [P5]) (bif Ab7 [] (R a).1 (R b).1 ((R a).1.length:Int) 0 then .leaf ([]++Le P ((a.1.1,a.1.2.1,()),a.2.1,()) ((b.1.1,b.1.2.1,()),b.2.1,()) (R b).1 (R a).1 0,0,()) else .fail)
theorem Aln (P:C2) (R:F6) (x:TCTs [A1,A1]):D7 (Amv P R) 10 (.fn 10) (D5 [A1,A1] x) Bz 0 (Ge Tryz.prog [.sl c2,cI])=Alm P R x.1 x.2.1:=by kernel_rfl
theorem Alo {P:C2} {R:F6} {a b:TCT A1} (h:∀ d,(R d).1.length≤100):(Alm P R a b).sat fun y=>y=((Qd P R a b).1,(Qd P R a b).2,()):=by
 unfold Alm Qd Ab8
 cases (R a).2 != 0 with
 | true=>exact rfl
 | false =>
  cases (R b).2 != 0 with
  | true=>exact rfl
  | false =>
   cases decide (a.2.1>16384) with
   | true=>exact rfl
   | false =>
    cases decide (b.2.1>16384) with
    | true=>exact rfl
    | false =>
     simp only [cond_false,Bool.false_or]
     show (bif decide (Jp a b<0) then erD else _:TDr).sat _
     cases decide (Jp a b<0) with
     | true=>exact rfl
     | false =>
      have ho:Ab7 [] (R a).1 (R b).1 ((R a).1.length:Int) 0=true:=by
       have h1:=h a
       have h2:=h b
       unfold Ab7
       rw [decide_eq_true (show ((R a).1.length:Int)=((R a).1.length:Int)∧(0:Int)=0 from ⟨rfl,rfl⟩),decide_eq_true (show (R a).1.length≤100∧(R b).1.length≤100∧([]:List (TCT c2)).length=0 from ⟨h1,h2,rfl⟩)];rfl
      rw [ho]
      exact ⟨Bp _,rfl⟩
theorem A8j (d:TCT A1):(Bg d).1.length≤100:=by
 show (Rg.RingR d.1.1 d.1.2.1 d.2.1).1.length≤100
 unfold Rg.RingR
 cases Jt d.1.1 d.1.2.1 d.2.1 != 0 with
 | true=>exact Nat.zero_le _
 | false =>
  cases !(Rg.ringW d.1.1 d.1.2.1 d.2.1).all Rg.fp with
  | true=>exact Nat.zero_le _
  | false =>
   show (Rg.ringW d.1.1 d.1.2.1 d.2.1).length≤100
   rw [Rg.ringW_len];decide
theorem Apl:A5 Tryz.prog 10 (Ah4 (Qd Br Bg)):=Bb All 10 (fun x=>Alm Br Bg x.1 x.2.1) (Aln Br Bg) fun _ _ _=>Alo A8j
end V
end Go.Proofs.YtlangijnealfjaaGreat
