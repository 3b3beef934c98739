import Derived.Test.YtlangijnealfjaaGreatXq
import Derived.Test.YtlangijnealfjaaGreatXc
namespace Go.Proofs.YtlangijnealfjaaGreat
open Go.RowKit
namespace V
open St
theorem is_Direct:FnIs Tryz.prog (10,Tryz.f10):=⟨Tryz.func10,by kernel_rfl,by kernel_rfl⟩
theorem is_newPair:FnIs Tryz.prog (38,Tryz.f38):=⟨Tryz.func38,by kernel_rfl,by kernel_rfl⟩
theorem is_pdirect:FnIs Tryz.prog (39,Tryz.f39):=⟨Tryz.func39,by kernel_rfl,by kernel_rfl⟩
theorem is_pdirect1:FnIs Tryz.prog (100,Tryz.f100):=⟨Tryz.func100,by kernel_rfl,by kernel_rfl⟩
abbrev Ax:Type:=TCT cPt→TCT cPt→TCT A1→Bool×Int
abbrev Dg:Type:=TCT A1→List (TCT cPt)×Int
abbrev A8l (P:Ax):PureT:=Bh [cPt,cPt,A1] [.b,cI] (fun _=>true) (fun x=>((P x.1 x.2.1 x.2.2.1).1,(P x.1 x.2.1 x.2.2.1).2,()))
abbrev A1j (R:Dg):PureT:=Bh [A1] [.sl cPt,cI] (fun _=>true) (fun x=>((R x.1).1,(R x.1).2,()))
def Ao:Ax:=fun p q d=>((Rg.PassR (p,q,d,())).1,(Rg.PassR (p,q,d,())).2.1)
def Al:Dg:=fun d=>((Rg.RingR d.1.1 d.1.2.1 d.2.1).1,(Rg.RingR d.1.1 d.1.2.1 d.2.1).2.1)
theorem Akc:A6 Tryz.prog 18 (A8l Ao):=Rg.q_Passes
theorem A8m:A6 Tryz.prog 12 (A1j Al):=Rg.q_Ring
abbrev plDi (P:Ax) (R:Dg):List (Nat×PureT):=(18,A8l P)::(12,A1j R)::(15,S6)::[]
theorem puDi:Cd Tryz.prog (plDi Ao Al):=puOk_cons Rg.is_Passes.plain Akc (puOk_cons Rg.is_Ring.plain A8m (puOk_cons is_Touch.plain S7 puOk_nil))
noncomputable def Auj:List (Nat×Func):=[(10,Tryz.f10),(38,Tryz.f38),(39,Tryz.f39),(100,Tryz.f100)]
theorem Ab5:∀ p ∈ Auj,FnIs Tryz.prog p:=A0 is_Direct (A0 is_newPair (A0 is_pdirect (A0 is_pdirect1 A2)))
noncomputable def Jz:Code:=(Ah (bodyOf Tryz.f100)).getD 0 .skip
noncomputable def Ot:Code:=(Ah (bodyOf Tryz.f100)).getD 1 .skip
abbrev c2:TC:=.st [cI,cI]
abbrev kPr:List SK:=[.d cI,.d cI,.d cI,.d cI,.d cI,.d cI,.d (.sl cPt),.d (.sl cPt)]
abbrev bkP:BK:=(4,224,kPr)
abbrev bkO:BK:=(5,38,[.o 48 c2])
abbrev bkX:BK:=(6,133,[.p 4 0 0 0])
noncomputable def Q8:LK:={ id:=8,keys:=[8],ks:=[.p 5 0 0 0],n:=31,fn:=10,params:=[21],assign:=(rangeAt Tryz.f10 0).1,body:=(rangeAt Tryz.f10 0).2,df:=7,st:=some 0 }
noncomputable def Rw:Lay2:={ keys:=[0,1,14,15,16],ks:=[.y 8,.p 6 0 0 0,.d (.sl cPt),.d cI,.d cI],bs:=[bkP,bkO,bkX],ls:=[Q8],n:=69,nx:=1000,marks:=[],ds:=[7] }
noncomputable def B02:Lay2:={ keys:=[],ks:=[],bs:=[bkO],ls:=[Q8],n:=69,nx:=1000,marks:=[],ds:=[7] }
noncomputable def X2:XE→Lay2:=fun _=>B02
noncomputable def Q9:Lay2:={ keys:=[0,1,3,4,14,15,16,24,25,26],ks:=[.y 8,.p 6 0 0 0,.d cI,.p 1001 0 0 0,.d (.sl cPt),.d cI,.d cI,.d (.sl cPt),.d cI,.d cI],bs:=[bkP,bkO,bkX,(1001,28,kP6)],ls:=[Q8],n:=69,nx:=2000,marks:=[],ds:=[7] }
noncomputable def B03:Lay2:={ keys:=[0,1,14,15,16],ks:=[.y 8,.p 6 0 0 0,.d (.sl cPt),.d cI,.d cI],bs:=[bkP,bkO,bkX],ls:=[Q8],n:=69,nx:=2000,marks:=[],ds:=[7] }
noncomputable def Rx:XE→Lay2:=fun _=>B03
noncomputable def Vx (P:Ax) (R:Dg):Ctx:=ctx Tryz.prog (plDi P R) Auj
noncomputable def Aps:LTs [Q8]:=(((((),()):SKTs Q8.ks),((():Unit):StT Q8.st)),())
end V
end Go.Proofs.YtlangijnealfjaaGreat
namespace Go.Proofs.YtlangijnealfjaaGreat
open Go.RowKit
namespace V
open St
def dA8 (pr:SKTs kPr):TCT A1:=((pr.1,pr.2.1,()),pr.2.2.1,())
def dB8 (pr:SKTs kPr):TCT A1:=((pr.2.2.2.1,pr.2.2.2.2.1,()),pr.2.2.2.2.2.1,())
def lB8 (pr:SKTs kPr):List (TCT cPt):=pr.2.2.2.2.2.2.2.1
def lnB (P:Ax) (a b:TCT A1) (p q:TCT cPt):Bool:=!(P p q a).1&&!(P p q b).1
noncomputable def Ab6 (pr:SKTs kPr) (p:SKTs kP6) (o:List (TCT c2)) (i0:Int) (la:List (TCT cPt)) (na ia:Int) (lb:List (TCT cPt)) (nb ib:Int):Q9.T:=(((),(),i0,(),la,na,ia,lb,nb,ib,()),(pr,(o,()),((),()),p,()),Aps)
noncomputable def A5c (pr:SKTs kPr) (o:List (TCT c2)) (la:List (TCT cPt)) (na ia:Int):Bc Rx:=⟨.exit 2,(((),(),la,na,ia,()),(pr,(o,()),((),()),()),Aps)⟩
abbrev TDi:=Tree (Q9.T⊕Bc Rx)
noncomputable def Ab7 (pr:SKTs kPr) (p:SKTs kP6) (o:List (TCT c2)) (i0:Int) (la:List (TCT cPt)) (na ia:Int) (lb:List (TCT cPt)) (nb ib:Int):TDi:=.need (Dc [Q8]) (.leaf (.inl (Ab6 pr p o i0 la na ia lb nb (W64 (ib+1)))))
noncomputable def Ark (P:Ax) (pr:SKTs kPr) (p:SKTs kP6) (o:List (TCT c2)) (i0:Int) (la:List (TCT cPt)) (na ia:Int) (lb:List (TCT cPt)) (nb ib:Int) (q:TCT cPt):TDi :=
 bif !(P (Cp p) q (dA8 pr)).1 then bif !(P (Cp p) q (dB8 pr)).1 then bif Dy o [(i0,ib,())] 16 then Ab7 pr p (o++[(i0,ib,())]) i0 la na ia lb nb ib else .fail else Ab7 pr p o i0 la na ia lb nb ib else Ab7 pr p o i0 la na ia lb nb ib
noncomputable def A5d (P:Ax) (pr:SKTs kPr) (p:SKTs kP6) (o:List (TCT c2)) (i0:Int) (la:List (TCT cPt)) (na ia:Int) (lb:List (TCT cPt)) (nb ib:Int):TDi :=
 bif decide (ib<nb) then bif decide (0≤ib∧ib<(lb.length:Int)) then Ark P pr p o i0 la na ia lb nb ib (A7 lb (Int.toNat ib) (A5 cPt)) else .fail else .need (Dc [Q8]) (.leaf (.inr (A5c pr o la na ia)))
noncomputable def A5e (P:Ax) (g:Q9.T):TDi:=A5d P g.2.1.1 g.2.1.2.2.2.1 g.2.1.2.1.1 g.1.2.2.1 g.1.2.2.2.2.1 g.1.2.2.2.2.2.1 g.1.2.2.2.2.2.2.1 g.1.2.2.2.2.2.2.2.1 g.1.2.2.2.2.2.2.2.2.1 g.1.2.2.2.2.2.2.2.2.2.1
theorem B04 (P:Ax) (R:Dg) (g:Q9.T):evC Tryz.prog (Ck (Vx P R) 9) (Vx P R).pures 100 (Vx P R).u (fun _=>none) Ot (Q9.of g) (Do Q9 Rx)=A5e P g:=by kernel_rfl
def Ir (P:Ax) (a b:TCT A1) (p:TCT cPt) (i:Int):List (TCT cPt)→Int→List (TCT c2)
 | [],_=>[]
 | q::l,k=>bif lnB P a b p q then (i,k,())::Ir P a b p i l (k+1) else Ir P a b p i l (k+1)
def Aee (o:List (TCT c2)) (lb:List (TCT cPt)) (nb ib:Int):Bool:=decide (nb=(lb.length:Int)∧ib=0)&&decide (lb.length≤1000∧o.length≤100000)
noncomputable def A8n (P:Ax) (g:Q9.T):Tree (Bc Rx):=.br (Aee g.2.1.2.1.1 g.1.2.2.2.2.2.2.2.1 g.1.2.2.2.2.2.2.2.2.1 g.1.2.2.2.2.2.2.2.2.2.1)
 (.leaf (A5c g.2.1.1 (g.2.1.2.1.1++Ir P (dA8 g.2.1.1) (dB8 g.2.1.1) (Cp g.2.1.2.2.2.1) g.1.2.2.1 g.1.2.2.2.2.2.2.2.1 0) g.1.2.2.2.2.1 g.1.2.2.2.2.2.1 g.1.2.2.2.2.2.2.1)) .fail
theorem Ab8 {P:Ax} {pr:SKTs kPr} {p:SKTs kP6} {i0:Int} {la:List (TCT cPt)} {na ia:Int} {lb:List (TCT cPt)} {R:Bc Rx→Prop} (hb:lb.length≤1000):∀ (n i:Nat) (o:List (TCT c2)),i+n=lb.length→o.length≤100000+i →
  R (A5c pr (o++Ir P (dA8 pr) (dB8 pr) (Cp p) i0 (lb.drop i) (i:Int)) la na ia)→F4 Q9 Rx (A5e P) R (n+1) (Ab6 pr p o i0 la na ia lb lb.length (i:Int))
 | 0,i,o,hn,ho,hr=>by
  intro _
  have e:i=lb.length:=by omega
  subst e
  show (A5d P pr p o i0 la na ia lb lb.length (lb.length:Int)).sat _
  unfold A5d
  rw [decide_eq_false (Int.lt_irrefl _),cond_false]
  refine ⟨Bb _,fun _=>?_⟩
  rw [List.drop_length] at hr
  rw [show o++Ir P (dA8 pr) (dB8 pr) (Cp p) i0 [] ((lb.length:Nat):Int)=o from List.append_nil o] at hr
  exact hr
 | n+1,i,o,hn,ho,hr=>by
  intro _
  have hi:i<lb.length:=by omega
  show (A5d P pr p o i0 la na ia lb lb.length (i:Int)).sat _
  unfold A5d
  rw [decide_eq_true (show (i:Int)<(lb.length:Int) by omega),decide_eq_true (show 0≤(i:Int)∧(i:Int)<(lb.length:Int) by omega),cond_true,cond_true,show Int.toNat (i:Int)=i by omega,C7 hi]
  have hd:lb.drop i=lb[i]::lb.drop (i+1):=List.drop_eq_getElem_cons hi
  rw [hd] at hr
  have go:∀ o':List (TCT c2),o'.length≤100000+(i+1)→R (A5c pr (o'++Ir P (dA8 pr) (dB8 pr) (Cp p) i0 (lb.drop (i+1)) ((i+1:Nat):Int)) la na ia)→(Ab7 pr p o' i0 la na ia lb lb.length (i:Int)).sat (fun x=>match x with | .inl g'=>F4 Q9 Rx (A5e P) R (n+1) g' | .inr x=>(Rx x.1).WF x.2→R x):=by
   intro o' h1 h2
   refine ⟨Bb _,?_⟩
   show F4 Q9 Rx (A5e P) R (n+1) (Ab6 pr p o' i0 la na ia lb lb.length (W64 ((i:Int)+1)))
   rw [B6 (n:=(i:Int)+1) (by omega) (by omega)]
   exact Ab8 hb n (i+1) o' (by omega) h1 h2
  unfold Ark
  have ha:Dy o [((i0,(i:Int),()):TCT c2)] 16=true:=A72 (by rw [List.length_singleton];omega) (by decide)
  have hr:R (A5c pr (o++(bif lnB P (dA8 pr) (dB8 pr) (Cp p) lb[i] then (i0,(i:Int),())::Ir P (dA8 pr) (dB8 pr) (Cp p) i0 (lb.drop (i+1)) ((i:Int)+1) else Ir P (dA8 pr) (dB8 pr) (Cp p) i0 (lb.drop (i+1)) ((i:Int)+1))) la na ia):=hr
  unfold lnB at hr
  cases h1:(P (Cp p) lb[i] (dA8 pr)).1 with
  | true =>
   rw [h1] at hr
   exact go o (by omega) hr
  | false =>
   rw [h1] at hr
   cases h2:(P (Cp p) lb[i] (dB8 pr)).1 with
   | true =>
    rw [h2] at hr
    exact go o (by omega) hr
   | false =>
    rw [h2] at hr
    simp only [Bool.not_false,cond_true]
    rw [ha]
    refine go (o++[(i0,(i:Int),())]) (by rw [List.length_append,List.length_singleton];omega) ?_
    rw [List.append_assoc]
    exact hr
theorem A5f:CtxOk (Vx Ao Al):=An Am puDi Ab5
theorem B05:Av Tryz.prog 100 Ot (Cn Q9 Rx (A8n Ao)):=by
 refine Em A5f 9 _ (fun _=>none) (fun _ _ f h=>by simp at h) Q9 Rx (fun _=>Nat.le_refl _) (A8n Ao) (A5e Ao) (B04 Ao Al) ?_
 intro g R _ hf
 obtain ⟨hf,h0⟩:=hf
 cases hc:Aee g.2.1.2.1.1 g.1.2.2.2.2.2.2.2.1 g.1.2.2.2.2.2.2.2.2.1 g.1.2.2.2.2.2.2.2.2.2.1 with
 | false=>exact (h0 hc).elim
 | true =>
  have hr:=hf hc
  unfold Aee at hc
  rw [Bool.and_eq_true,decide_eq_true_eq,decide_eq_true_eq] at hc
  obtain ⟨⟨k1,k2⟩,k3,k4⟩:=hc
  have:=Ab8 (P:=Ao) (pr:=g.2.1.1) (p:=g.2.1.2.2.2.1) (i0:=g.1.2.2.1) (la:=g.1.2.2.2.2.1) (na:=g.1.2.2.2.2.2.1) (ia:=g.1.2.2.2.2.2.2.1) (lb:=g.1.2.2.2.2.2.2.2.1) (R:=R) k3 _ 0 g.2.1.2.1.1 (Nat.zero_add _) (by omega) (by rw [List.drop_zero];exact hr)
  refine ⟨(g.1.2.2.2.2.2.2.2.1:List (TCT cPt)).length+1,?_⟩
  have e:Ab6 g.2.1.1 g.2.1.2.2.2.1 g.2.1.2.1.1 g.1.2.2.1 g.1.2.2.2.2.1 g.1.2.2.2.2.2.1 g.1.2.2.2.2.2.2.1 g.1.2.2.2.2.2.2.2.1 ((g.1.2.2.2.2.2.2.2.1:List (TCT cPt)).length:Int) (((0:Nat)):Int)=g:=by
   rw [← k1]
   have k2':(((0:Nat)):Int)=g.1.2.2.2.2.2.2.2.2.2.1:=k2.symm
   rw [k2']
   rfl
  rw [← e]
  exact this
noncomputable def Ab9 (pr:SKTs kPr) (o:List (TCT c2)) (la:List (TCT cPt)) (na ia:Int):Rw.T:=(((),(),la,na,ia,()),(pr,(o,()),((),()),()),Aps)
noncomputable def Akd (o:List (TCT c2)):Bc X2:=⟨.exit 0,((),((o,()),()),Aps)⟩
abbrev TDo:=Tree (Rw.T⊕Bc X2)
noncomputable def Axu (P:Ax) (pr:SKTs kPr) (o:List (TCT c2)) (la:List (TCT cPt)) (na ia:Int) (p:TCT cPt):TDo :=
 .need (Dc [Q8]) (bif Aee o (lB8 pr) ((lB8 pr).length:Int) 0 then .need (Dc [Q8]) (.leaf (.inl (Ab9 pr (o++Ir P (dA8 pr) (dB8 pr) (p.1,p.2.1,()) ia (lB8 pr) 0) la na (W64 (ia+1))))) else .fail)
noncomputable def A5g (P:Ax) (pr:SKTs kPr) (o:List (TCT c2)) (la:List (TCT cPt)) (na ia:Int):TDo :=
 bif decide (ia<na) then bif decide (0≤ia∧ia<(la.length:Int)) then Axu P pr o la na ia (A7 la (Int.toNat ia) (A5 cPt)) else .fail else .need (Dc [Q8]) (.leaf (.inr (Akd o)))
noncomputable def Aba (P:Ax) (g:Rw.T):TDo:=A5g P g.2.1.1 g.2.1.2.1.1 g.1.2.2.1 g.1.2.2.2.1 g.1.2.2.2.2.1
noncomputable def Arl (P:Ax):Ht:=fun k=>bif Nat.beq k 4 then some (Cn Q9 Rx (A8n P)) else none
theorem B06 (P:Ax) (R:Dg) (g:Rw.T):evC Tryz.prog (Ck (Vx P R) 9) (Vx P R).pures 100 (Vx P R).u (Arl P) Jz (Rw.of g) (Do Rw X2)=Aba P g:=by kernel_rfl
end V
end Go.Proofs.YtlangijnealfjaaGreat
namespace Go.Proofs.YtlangijnealfjaaGreat
open Go.RowKit
namespace V
open St
def M5 (P:Ax) (a b:TCT A1) (lb:List (TCT cPt)):List (TCT cPt)→Int→List (TCT c2)
 | [],_=>[]
 | p::l,i=>Ir P a b (p.1,p.2.1,()) i lb 0++M5 P a b lb l (i+1)
theorem Vy {P:Ax} {a b:TCT A1} {p:TCT cPt} {i:Int}:∀ (l:List (TCT cPt)) (k:Int),(Ir P a b p i l k).length≤l.length
 | [],_=>Nat.le_refl _
 | q::l,k=>by
  have:=Vy (P:=P) (a:=a) (b:=b) (p:=p) (i:=i) l (k+1)
  show (bif lnB P a b p q then (i,k,())::Ir P a b p i l (k+1) else Ir P a b p i l (k+1)).length≤l.length+1
  cases lnB P a b p q with
  | true=>rw [cond_true,List.length_cons];omega
  | false=>rw [cond_false];omega
def Aef (o:List (TCT c2)) (la lb:List (TCT cPt)) (na ia:Int):Bool:=decide (na=(la.length:Int)∧ia=0)&&decide (la.length≤100∧lb.length≤100∧o.length=0)
noncomputable def A8o (P:Ax) (g:Rw.T):Tree (Bc X2):=.br (Aef g.2.1.2.1.1 g.1.2.2.1 (lB8 g.2.1.1) g.1.2.2.2.1 g.1.2.2.2.2.1)
 (.leaf (Akd (g.2.1.2.1.1++M5 P (dA8 g.2.1.1) (dB8 g.2.1.1) (lB8 g.2.1.1) g.1.2.2.1 0))) .fail
theorem Abb {P:Ax} {pr:SKTs kPr} {la:List (TCT cPt)} {R:Bc X2→Prop} (ha:la.length≤100) (hb:(lB8 pr).length≤100):∀ (n i:Nat) (o:List (TCT c2)),i+n=la.length→o.length≤100*i →
  R (Akd (o++M5 P (dA8 pr) (dB8 pr) (lB8 pr) (la.drop i) (i:Int)))→F4 Rw X2 (Aba P) R (n+1) (Ab9 pr o la la.length (i:Int))
 | 0,i,o,hn,ho,hr=>by
  intro _
  have e:i=la.length:=by omega
  subst e
  show (A5g P pr o la la.length (la.length:Int)).sat _
  unfold A5g
  rw [decide_eq_false (Int.lt_irrefl _),cond_false]
  refine ⟨Bb _,fun _=>?_⟩
  rw [List.drop_length] at hr
  rw [show o++M5 P (dA8 pr) (dB8 pr) (lB8 pr) [] ((la.length:Nat):Int)=o from List.append_nil o] at hr
  exact hr
 | n+1,i,o,hn,ho,hr=>by
  intro _
  have hi:i<la.length:=by omega
  show (A5g P pr o la la.length (i:Int)).sat _
  unfold A5g
  rw [decide_eq_true (show (i:Int)<(la.length:Int) by omega),decide_eq_true (show 0≤(i:Int)∧(i:Int)<(la.length:Int) by omega),cond_true,cond_true,show Int.toNat (i:Int)=i by omega,C7 hi]
  have hd:la.drop i=la[i]::la.drop (i+1):=List.drop_eq_getElem_cons hi
  rw [hd] at hr
  unfold Axu
  have hk:Aee o (lB8 pr) ((lB8 pr).length:Int) 0=true:=by
   unfold Aee
   rw [decide_eq_true (show ((lB8 pr).length:Int)=((lB8 pr).length:Int)∧(0:Int)=0 from ⟨rfl,rfl⟩),decide_eq_true (show (lB8 pr).length≤1000∧o.length≤100000 by omega)];rfl
  rw [hk]
  refine ⟨Bb _,Bb _,?_⟩
  show F4 Rw X2 (Aba P) R (n+1) (Ab9 pr (o++Ir P (dA8 pr) (dB8 pr) (la[i].1,la[i].2.1,()) (i:Int) (lB8 pr) 0) la la.length (W64 ((i:Int)+1)))
  rw [B6 (n:=(i:Int)+1) (by omega) (by omega)]
  have hl:=Vy (P:=P) (a:=dA8 pr) (b:=dB8 pr) (p:=(la[i].1,la[i].2.1,())) (i:=(i:Int)) (lB8 pr) 0
  refine Abb ha hb n (i+1) _ (by omega) (by rw [List.length_append];omega) ?_
  rw [List.append_assoc]
  exact hr
theorem Vz:Ah Jz=[Ot]:=by kernel_rfl
theorem W0:Ah (bodyOf Tryz.f100)=[Jz,Ot]:=by kernel_rfl
theorem Qa:keyOf Ot=4:=by kernel_rfl
theorem key_do:keyOf Jz=1:=by kernel_rfl
theorem B07:Av Tryz.prog 100 Jz (Cn Rw X2 (A8o Ao)):=by
 refine Em A5f 9 _ (Arl Ao) (fun d hd f hf=>by
  rw [Vz,List.mem_singleton] at hd
  subst hd
  rw [Qa] at hf
  cases hf
  exact B05) Rw X2 (fun _=>Nat.le_refl _) (A8o Ao) (Aba Ao) (B06 Ao Al) ?_
 intro g R _ hf
 obtain ⟨hf,h0⟩:=hf
 cases hc:Aef g.2.1.2.1.1 g.1.2.2.1 (lB8 g.2.1.1) g.1.2.2.2.1 g.1.2.2.2.2.1 with
 | false=>exact (h0 hc).elim
 | true =>
  have hr:=hf hc
  unfold Aef at hc
  rw [Bool.and_eq_true,decide_eq_true_eq,decide_eq_true_eq] at hc
  obtain ⟨⟨k1,k2⟩,k3,k4,k5⟩:=hc
  have:=Abb (P:=Ao) (pr:=g.2.1.1) (la:=g.1.2.2.1) (R:=R) k3 k4 _ 0 g.2.1.2.1.1 (Nat.zero_add _) (by omega) (by rw [List.drop_zero];exact hr)
  refine ⟨(g.1.2.2.1:List (TCT cPt)).length+1,?_⟩
  have e:Ab9 g.2.1.1 g.2.1.2.1.1 g.1.2.2.1 ((g.1.2.2.1:List (TCT cPt)).length:Int) (((0:Nat)):Int)=g:=by
   rw [← k1]
   have k2':(((0:Nat)):Int)=g.1.2.2.2.2.1:=k2.symm
   rw [k2']
   rfl
  rw [← e]
  exact this
noncomputable def Arm (P:Ax) (R:Dg):Ctx:=F8 Tryz.prog (plDi P R) Auj [((100,1),Cn Rw X2 (A8o P))]
theorem Apt:CtxOk (Arm Ao Al):=Bt Am puDi Ab5 (B5 (By (by kernel_rfl)) (B5 (By (by kernel_rfl)) (B5 (By (by kernel_rfl)) (B5 (Nq (f:=100) (fn:=Tryz.f100) (la:=Jz) (k:=1) (fun d hd hk=>by
 rw [W0,List.mem_cons,List.mem_singleton] at hd
 rcases hd with rfl | rfl
 ·rfl
 ·rw [Qa] at hk;cases hk) B07 _ (List.mem_singleton.2 rfl)) Gv))))
abbrev A5h:Type:=TCT A1→TCT A1→List (TCT c2)×Int
def N6 (R:Dg) (a b:TCT A1):Bool:=(R a).2 != 0||((R b).2 != 0||(decide (a.2.1>16384)||(decide (b.2.1>16384)||decide (Ex a b<0))))
def Ry (P:Ax) (R:Dg):A5h:=fun a b=>bif N6 R a b then ([],2) else (M5 P a b (R b).1 (R a).1 0,0)
abbrev Ake (D:A5h):PureT:=Bh [A1,A1] [.sl c2,cI] (fun _=>true) (fun x=>((D x.1 x.2.1).1,(D x.1 x.2.1).2,()))
abbrev TDr:=Tree (TCTs [.sl c2,cI])
def erD:TDr:=.leaf ([],2,())
noncomputable def Apu (P:Ax) (R:Dg) (a b:TCT A1):TDr:=bif (R a).2 != 0 then erD else bif (R b).2 != 0 then erD else bif decide (a.2.1>16384) then erD else bif decide (b.2.1>16384) then erD else bif decide (Ex ((a.1.1,a.1.2.1,()),a.2.1,()) ((b.1.1,b.1.2.1,()),b.2.1,())<0) then erD else
 .need (Dc [Q8]) (bif Aef [] (R a).1 (R b).1 ((R a).1.length:Int) 0 then .leaf ([]++M5 P ((a.1.1,a.1.2.1,()),a.2.1,()) ((b.1.1,b.1.2.1,()),b.2.1,()) (R b).1 (R a).1 0,0,()) else .fail)
theorem Apv (P:Ax) (R:Dg) (x:TCTs [A1,A1]):Ck (Arm P R) 10 (.fn 10) (Cs [A1,A1] x) Bs 0 (Fq Tryz.prog [.sl c2,cI])=Apu P R x.1 x.2.1:=by kernel_rfl
theorem Apw {P:Ax} {R:Dg} {a b:TCT A1} (h:∀ d,(R d).1.length≤100):(Apu P R a b).sat fun y=>y=((Ry P R a b).1,(Ry P R a b).2,()):=by
 unfold Apu Ry N6
 cases (R a).2 != 0 with
 | true=>exact rfl
 | false =>
  cases (R b).2 != 0 with
  | true=>exact rfl
  | false =>
   cases decide (a.2.1>16384) with
   | true=>exact rfl
   | false =>
    cases decide (b.2.1>16384) with
    | true=>exact rfl
    | false =>
     simp only [cond_false,Bool.false_or]
     show (bif decide (Ex a b<0) then erD else _:TDr).sat _
     cases decide (Ex a b<0) with
     | true=>exact rfl
     | false =>
      have ho:Aef [] (R a).1 (R b).1 ((R a).1.length:Int) 0=true:=by
       have h1:=h a
       have h2:=h b
       unfold Aef
       rw [decide_eq_true (show ((R a).1.length:Int)=((R a).1.length:Int)∧(0:Int)=0 from ⟨rfl,rfl⟩),decide_eq_true (show (R a).1.length≤100∧(R b).1.length≤100∧([]:List (TCT c2)).length=0 from ⟨h1,h2,rfl⟩)];rfl
      rw [ho]
      exact ⟨Bb _,rfl⟩
theorem A1k (d:TCT A1):(Al d).1.length≤100:=by
 show (Rg.RingR d.1.1 d.1.2.1 d.2.1).1.length≤100
 unfold Rg.RingR
 cases K1 d.1.1 d.1.2.1 d.2.1 != 0 with
 | true=>exact Nat.zero_le _
 | false =>
  cases !(Rg.ringW d.1.1 d.1.2.1 d.2.1).all Rg.fp with
  | true=>exact Nat.zero_le _
  | false =>
   show (Rg.ringW d.1.1 d.1.2.1 d.2.1).length≤100
   rw [Rg.ringW_len];decide
theorem Auk:A6 Tryz.prog 10 (Ake (Ry Ao Al)):=Bj Apt 10 (fun x=>Apu Ao Al x.1 x.2.1) (Apv Ao Al) fun _ _ _=>Apw A1k
end V
end Go.Proofs.YtlangijnealfjaaGreat
