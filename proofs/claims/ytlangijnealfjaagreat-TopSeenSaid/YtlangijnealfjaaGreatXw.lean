import Derived.Test.YtlangijnealfjaaGreatXt
namespace Go.Proofs.YtlangijnealfjaaGreat
open Go.RowKit
namespace V
open St
theorem is_Open:FnIs Tryz.prog (11,Tryz.f11):=⟨Tryz.func11,by kernel_rfl,by kernel_rfl⟩
theorem is_Cut:FnIs Tryz.prog (19,Tryz.f19):=⟨Tryz.func19,by kernel_rfl,by kernel_rfl⟩
theorem is_view:FnIs Tryz.prog (40,Tryz.f40):=⟨Tryz.func40,by kernel_rfl,by kernel_rfl⟩
abbrev K6:Type:=TCT Aq→List (TCT A1)×Int
abbrev Akf (O:K6):PureT:=Bh [Aq] [.sl A1,cI] (fun x=>decide ((x.1.1.size:Int)≤Aw .i64)) (fun x=>((O x.1).1,(O x.1).2,()))
abbrev plOp (P:Ax) (R:Dg) (O:K6):List (Nat×PureT):=(101,Akf O)::(41,Ab4)::(58,Ab1)::plDi P R
noncomputable def Apx:List (Nat×Func):=[(11,Tryz.f11),(19,Tryz.f19),(40,Tryz.f40),(38,Tryz.f38),(39,Tryz.f39),(100,Tryz.f100)]
theorem A1l:∀ p ∈ Apx,FnIs Tryz.prog p:=A0 is_Open (A0 is_Cut (A0 is_view (A0 is_newPair (A0 is_pdirect (A0 is_pdirect1 A2)))))
abbrev bo3:List BK:=[(3,3,[.d cI]),(4,3,[.d cI]),(5,39,[.d cI])]
abbrev bo6:List BK:=[(3,3,[.d cI]),(4,3,[.d cI]),(5,39,[.d cI]),(11,224,kPr),(12,55,[.d (.sl A1)]),(13,133,[.p 11 0 0 0])]
abbrev bo7:List BK:=[(3,3,[.d cI]),(4,3,[.d cI]),(5,39,[.d cI]),(11,224,kPr),(12,55,[.d (.sl A1)]),(13,133,[.p 11 0 0 0]),(1000,28,kP6)]
noncomputable def W1:LK:={ id:=15,keys:=[6,7,8,10],ks:=[.p 3 0 0 0,.p 4 0 0 0,.p 5 0 0 0,.p 12 0 0 0],n:=36,fn:=11,params:=[26],assign:=(rangeAt Tryz.f11 0).1,body:=(rangeAt Tryz.f11 0).2,df:=14,st:=some 0 }
noncomputable def A5i:LK:={ id:=15,keys:=[],ks:=[],n:=36,fn:=11,params:=[26],assign:=(rangeAt Tryz.f11 0).1,body:=(rangeAt Tryz.f11 0).2,df:=14,st:=some 0 }
noncomputable def Z0:LK:={ id:=15,keys:=[],ks:=[],n:=36,fn:=11,params:=[26],assign:=(rangeAt Tryz.f11 0).1,body:=(rangeAt Tryz.f11 0).2,df:=14,st:=some 1 }
noncomputable def Rz:Lay2:={ keys:=[0,1,14,15,16],ks:=[.y 15,.p 13 0 0 0,.d (.sl cPt),.d cI,.d cI],bs:=bo6,ls:=[W1],n:=69,nx:=1000,marks:=[],ds:=[14] }
noncomputable def B08:Lay2:={ keys:=[],ks:=[],bs:=bo3,ls:=[A5i],n:=69,nx:=2000,marks:=[],ds:=[14] }
noncomputable def Arn:Lay2:={ keys:=[],ks:=[],bs:=bo3,ls:=[Z0],n:=69,nx:=2000,marks:=[],ds:=[14] }
noncomputable def Qb:XE→Lay2:=fun e=>match e with | .ret=>Arn | _=>B08
noncomputable def Qc:Lay2:={ keys:=[0,1,3,4,14,15,16,24,25,26],ks:=[.y 15,.p 13 0 0 0,.d cI,.p 1000 0 0 0,.d (.sl cPt),.d cI,.d cI,.d (.sl cPt),.d cI,.d cI],bs:=bo7,ls:=[W1],n:=69,nx:=2000,marks:=[],ds:=[14] }
noncomputable def B09:Lay2:={ keys:=[0,1,14,15,16],ks:=[.y 15,.p 13 0 0 0,.d (.sl cPt),.d cI,.d cI],bs:=bo6,ls:=[W1],n:=69,nx:=2000,marks:=[],ds:=[14] }
noncomputable def N7:XE→Lay2:=fun e=>match e with | .ret=>Arn | _=>B09
noncomputable def Iu (P:Ax) (R:Dg) (O:K6):Ctx:=ctx Tryz.prog (plOp P R O) Apx
noncomputable def Aul:LTs [W1]:=(((((),(),(),(),()):SKTs W1.ks),((():Unit):StT W1.st)),())
noncomputable def Axv:LTs [A5i]:=(((():SKTs A5i.ks),((():Unit):StT A5i.st)),())
noncomputable def Aro:LTs [Z0]:=(((():SKTs Z0.ks),((():Unit):StT Z0.st)),())
structure COp where
 x:Int
 y:Int
 e:Int
 pr:SKTs kPr
 po:List (TCT A1)
noncomputable def Abc (c:COp) (p:SKTs kP6) (i0:Int) (la:List (TCT cPt)) (na ia:Int) (lb:List (TCT cPt)) (nb ib:Int):Qc.T:=(((),(),i0,(),la,na,ia,lb,nb,ib,()),((c.x,()),(c.y,()),(c.e,()),c.pr,(c.po,()),((),()),p,()),Aul)
noncomputable def Akg (c:COp) (la:List (TCT cPt)) (na ia:Int):Bc N7:=⟨.exit 2,(((),(),la,na,ia,()),((c.x,()),(c.y,()),(c.e,()),c.pr,(c.po,()),((),()),()),Aul)⟩
noncomputable def Akh (i k:Int):Bc N7:=⟨.ret,((),((i,()),(k,()),(0,()),()),Aro)⟩
abbrev TOi:=Tree (Qc.T⊕Bc N7)
def ctS (po:List (TCT A1)) (s:TCT A8g):Bool:=po.any (Cx (s,()))
noncomputable def Abd (c:COp) (p:SKTs kP6) (i0:Int) (la:List (TCT cPt)) (na ia:Int) (lb:List (TCT cPt)) (nb ib:Int):TOi:=.need (Dc [W1]) (.leaf (.inl (Abc c p i0 la na ia lb nb (W64 (ib+1)))))
noncomputable def Arp (P:Ax) (c:COp) (p:SKTs kP6) (i0:Int) (la:List (TCT cPt)) (na ia:Int) (lb:List (TCT cPt)) (nb ib:Int) (q:TCT cPt):TOi :=
 bif !(P (Cp p) q (dA8 c.pr)).1 then bif !(P (Cp p) q (dB8 c.pr)).1 then bif !ctS c.po (i0,ib,Cp p,(q.1,q.2.1,()),()) then .need (Dc [Z0]) (.leaf (.inr (Akh i0 ib))) else Abd c p i0 la na ia lb nb ib else Abd c p i0 la na ia lb nb ib else Abd c p i0 la na ia lb nb ib
noncomputable def A5j (P:Ax) (c:COp) (p:SKTs kP6) (i0:Int) (la:List (TCT cPt)) (na ia:Int) (lb:List (TCT cPt)) (nb ib:Int):TOi :=
 bif decide (ib<nb) then bif decide (0≤ib∧ib<(lb.length:Int)) then Arp P c p i0 la na ia lb nb ib (A7 lb (Int.toNat ib) (A5 cPt)) else .fail else .need (Dc [W1]) (.leaf (.inr (Akg c la na ia)))
def cop (b:BTs bo6):COp:=⟨b.1.1,b.2.1.1,b.2.2.1.1,b.2.2.2.1,b.2.2.2.2.1.1⟩
def A8p (b:BTs bo7):COp:=⟨b.1.1,b.2.1.1,b.2.2.1.1,b.2.2.2.1,b.2.2.2.2.1.1⟩
noncomputable def A5k (P:Ax) (g:Qc.T):TOi:=A5j P (A8p g.2.1) g.2.1.2.2.2.2.2.2.1 g.1.2.2.1 g.1.2.2.2.2.1 g.1.2.2.2.2.2.1 g.1.2.2.2.2.2.2.1 g.1.2.2.2.2.2.2.2.1 g.1.2.2.2.2.2.2.2.2.1 g.1.2.2.2.2.2.2.2.2.2.1
theorem B0a (P:Ax) (R:Dg) (O:K6) (g:Qc.T):evC Tryz.prog (Ck (Iu P R O) 9) (Iu P R O).pures 100 (Iu P R O).u (fun _=>none) Ot (Qc.of g) (Do Qc N7)=A5k P g:=by kernel_rfl
end V
end Go.Proofs.YtlangijnealfjaaGreat
namespace Go.Proofs.YtlangijnealfjaaGreat
open Go.RowKit
namespace V
open St
def Ou (P:Ax) (a b:TCT A1) (po:List (TCT A1)) (p:TCT cPt) (i:Int):List (TCT cPt)→Int→Option Int
 | [],_=>none
 | q::l,k=>bif lnB P a b p q&&!ctS po (i,k,p,(q.1,q.2.1,()),()) then some k else Ou P a b po p i l (k+1)
noncomputable def Abe (c:COp) (i0:Int) (la:List (TCT cPt)) (na ia:Int):Option Int→Bc N7
 | some k=>Akh i0 k
 | none=>Akg c la na ia
def Aeg (lb:List (TCT cPt)) (nb ib:Int):Bool:=decide (nb=(lb.length:Int)∧ib=0)&&decide (lb.length≤1000)
def Rl (P:Ax) (c:COp) (p:SKTs kP6) (i0:Int) (lb:List (TCT cPt)):Option Int:=Ou P (dA8 c.pr) (dB8 c.pr) c.po (Cp p) i0 lb 0
noncomputable def Abf (P:Ax) (c:COp) (p:SKTs kP6) (i0:Int) (la:List (TCT cPt)) (na ia:Int) (lb:List (TCT cPt)) (nb ib:Int):Tree (Bc N7) :=
 .br (Aeg lb nb ib) (.br (Rl P c p i0 lb).isSome (.leaf (Akh i0 ((Rl P c p i0 lb).getD 0))) (.leaf (Akg c la na ia))) .fail
noncomputable def A1m (P:Ax) (g:Qc.T):Tree (Bc N7):=Abf P (A8p g.2.1) g.2.1.2.2.2.2.2.2.1 g.1.2.2.1 g.1.2.2.2.2.1 g.1.2.2.2.2.2.1 g.1.2.2.2.2.2.2.1 g.1.2.2.2.2.2.2.2.1 g.1.2.2.2.2.2.2.2.2.1 g.1.2.2.2.2.2.2.2.2.2.1
theorem Abg {P:Ax} {c:COp} {p:SKTs kP6} {i0:Int} {la:List (TCT cPt)} {na ia:Int} {lb:List (TCT cPt)} {R:Bc N7→Prop} (hb:lb.length≤1000):∀ (n i:Nat),i+n=lb.length →
  R (Abe c i0 la na ia (Ou P (dA8 c.pr) (dB8 c.pr) c.po (Cp p) i0 (lb.drop i) (i:Int)))→F4 Qc N7 (A5k P) R (n+1) (Abc c p i0 la na ia lb lb.length (i:Int))
 | 0,i,hn,hr=>by
  intro _
  have e:i=lb.length:=by omega
  subst e
  show (A5j P c p i0 la na ia lb lb.length (lb.length:Int)).sat _
  unfold A5j
  rw [decide_eq_false (Int.lt_irrefl _),cond_false]
  refine ⟨Bb _,fun _=>?_⟩
  rw [List.drop_length] at hr
  exact hr
 | n+1,i,hn,hr=>by
  intro _
  have hi:i<lb.length:=by omega
  show (A5j P c p i0 la na ia lb lb.length (i:Int)).sat _
  unfold A5j
  rw [decide_eq_true (show (i:Int)<(lb.length:Int) by omega),decide_eq_true (show 0≤(i:Int)∧(i:Int)<(lb.length:Int) by omega),cond_true,cond_true,show Int.toNat (i:Int)=i by omega,C7 hi]
  have hd:lb.drop i=lb[i]::lb.drop (i+1):=List.drop_eq_getElem_cons hi
  rw [hd] at hr
  have go:R (Abe c i0 la na ia (Ou P (dA8 c.pr) (dB8 c.pr) c.po (Cp p) i0 (lb.drop (i+1)) ((i+1:Nat):Int)))→(Abd c p i0 la na ia lb lb.length (i:Int)).sat (fun x=>match x with | .inl g'=>F4 Qc N7 (A5k P) R (n+1) g' | .inr x=>(N7 x.1).WF x.2→R x):=by
   intro h2
   refine ⟨Bb _,?_⟩
   show F4 Qc N7 (A5k P) R (n+1) (Abc c p i0 la na ia lb lb.length (W64 ((i:Int)+1)))
   rw [B6 (n:=(i:Int)+1) (by omega) (by omega)]
   exact Abg hb n (i+1) (by omega) h2
  unfold Arp
  have hr:R (Abe c i0 la na ia (bif lnB P (dA8 c.pr) (dB8 c.pr) (Cp p) lb[i]&&!ctS c.po (i0,(i:Int),Cp p,(lb[i].1,lb[i].2.1,()),()) then some (i:Int) else Ou P (dA8 c.pr) (dB8 c.pr) c.po (Cp p) i0 (lb.drop (i+1)) ((i:Int)+1))):=hr
  unfold lnB at hr
  cases h1:(P (Cp p) lb[i] (dA8 c.pr)).1 with
  | true =>
   rw [h1] at hr
   exact go hr
  | false =>
   rw [h1] at hr
   cases h2:(P (Cp p) lb[i] (dB8 c.pr)).1 with
   | true =>
    rw [h2] at hr
    exact go hr
   | false =>
    rw [h2] at hr
    simp only [Bool.not_false,cond_true,Bool.true_and] at hr ⊢
    cases h3:ctS c.po (i0,(i:Int),Cp p,(lb[i].1,lb[i].2.1,()),()) with
    | true =>
     rw [h3] at hr
     exact go hr
    | false =>
     rw [h3] at hr
     exact ⟨Bb _,fun _=>hr⟩
def Cb:K6:=fun l=>(Fc l,Di l)
theorem Aum:A6 Tryz.prog 101 (Akf Cb):=Anh
theorem puOp:Cd Tryz.prog (plOp Ao Al Cb):=puOk_cons is_Posts.plain Aum (puOk_cons is_cfSeg.plain Apr (puOk_cons is_ixSeg.plain Ab3 puDi))
theorem Ov:CtxOk (Iu Ao Al Cb):=An Am puOp A1l
theorem B0b:Av Tryz.prog 100 Ot (Cn Qc N7 (A1m Ao)):=by
 refine Em Ov 9 _ (fun _=>none) (fun _ _ f h=>by simp at h) Qc N7 (fun e=>by cases e <;> exact Nat.le_refl _) (A1m Ao) (A5k Ao) (B0a Ao Al Cb) ?_
 intro g R _ hf
 unfold A1m Abf at hf
 generalize hlb:(g.1.2.2.2.2.2.2.2.1:List (TCT cPt))=lb at hf
 obtain ⟨hf,h0⟩:=hf
 cases hc:Aeg lb g.1.2.2.2.2.2.2.2.2.1 g.1.2.2.2.2.2.2.2.2.2.1 with
 | false=>exact (h0 hc).elim
 | true =>
  obtain ⟨h1,h2⟩:=hf hc
  unfold Aeg at hc
  rw [Bool.and_eq_true,decide_eq_true_eq,decide_eq_true_eq] at hc
  obtain ⟨⟨k1,k2⟩,k3⟩:=hc
  have hr:R (Abe (A8p g.2.1) g.1.2.2.1 g.1.2.2.2.2.1 g.1.2.2.2.2.2.1 g.1.2.2.2.2.2.2.1 (Rl Ao (A8p g.2.1) g.2.1.2.2.2.2.2.2.1 g.1.2.2.1 lb)):=by
   cases hz:Rl Ao (A8p g.2.1) g.2.1.2.2.2.2.2.2.1 g.1.2.2.1 lb with
   | none=>rw [hz] at h2;exact h2 rfl
   | some k=>rw [hz] at h1;exact h1 rfl
  have:=Abg (P:=Ao) (c:=A8p g.2.1) (p:=g.2.1.2.2.2.2.2.2.1) (i0:=g.1.2.2.1) (la:=g.1.2.2.2.2.1) (na:=g.1.2.2.2.2.2.1) (ia:=g.1.2.2.2.2.2.2.1) (lb:=lb) (R:=R) k3 _ 0 (Nat.zero_add _) (by rw [List.drop_zero];exact hr)
  refine ⟨lb.length+1,?_⟩
  have e:Abc (A8p g.2.1) g.2.1.2.2.2.2.2.2.1 g.1.2.2.1 g.1.2.2.2.2.1 g.1.2.2.2.2.2.1 g.1.2.2.2.2.2.2.1 lb (lb.length:Int) (((0:Nat)):Int)=g:=by
   rw [← k1,← hlb]
   have k2':(((0:Nat)):Int)=g.1.2.2.2.2.2.2.2.2.2.1:=k2.symm
   rw [k2']
   rfl
  rw [← e]
  exact this
noncomputable def Abh (c:COp) (la:List (TCT cPt)) (na ia:Int):Rz.T:=(((),(),la,na,ia,()),((c.x,()),(c.y,()),(c.e,()),c.pr,(c.po,()),((),()),()),Aul)
noncomputable def Aki (c:COp):Bc Qb:=⟨.exit 0,((),((c.x,()),(c.y,()),(c.e,()),()),Axv)⟩
noncomputable def Akj (i k:Int):Bc Qb:=⟨.ret,((),((i,()),(k,()),(0,()),()),Aro)⟩
abbrev TOo:=Tree (Rz.T⊕Bc Qb)
noncomputable def Axw (P:Ax) (c:COp) (la:List (TCT cPt)) (na ia:Int) (p:TCT cPt):TOo :=
 .need (Dc [W1]) (bif Aeg (lB8 c.pr) ((lB8 c.pr).length:Int) 0 then bif (Rl P c (p.1,p.2.1,()) ia (lB8 c.pr)).isSome then .need (Dc [Z0]) (.leaf (.inr (Akj ia ((Rl P c (p.1,p.2.1,()) ia (lB8 c.pr)).getD 0)))) else .need (Dc [W1]) (.leaf (.inl (Abh c la na (W64 (ia+1))))) else .fail)
noncomputable def A5l (P:Ax) (c:COp) (la:List (TCT cPt)) (na ia:Int):TOo :=
 bif decide (ia<na) then bif decide (0≤ia∧ia<(la.length:Int)) then Axw P c la na ia (A7 la (Int.toNat ia) (A5 cPt)) else .fail else .need (Dc [A5i]) (.leaf (.inr (Aki c)))
noncomputable def Abi (P:Ax) (g:Rz.T):TOo:=A5l P (cop g.2.1) g.1.2.2.1 g.1.2.2.2.1 g.1.2.2.2.2.1
noncomputable def Arq (P:Ax):Ht:=fun k=>bif Nat.beq k 4 then some (Cn Qc N7 (A1m P)) else none
theorem B0c (P:Ax) (R:Dg) (O:K6) (g:Rz.T):evC Tryz.prog (Ck (Iu P R O) 9) (Iu P R O).pures 100 (Iu P R O).u (Arq P) Jz (Rz.of g) (Do Rz Qb)=Abi P g:=by kernel_rfl
end V
end Go.Proofs.YtlangijnealfjaaGreat
namespace Go.Proofs.YtlangijnealfjaaGreat
open Go.RowKit
namespace V
open St
def Iv (P:Ax) (a b:TCT A1) (po:List (TCT A1)) (lb:List (TCT cPt)):List (TCT cPt)→Int→Option (Int×Int)
 | [],_=>none
 | p::l,i=>match Ou P a b po (p.1,p.2.1,()) i lb 0 with
  | some k=>some (i,k)
  | none=>Iv P a b po lb l (i+1)
noncomputable def Akk (c:COp):Option (Int×Int)→Bc Qb
 | some x=>Akj x.1 x.2
 | none=>Aki c
def Aeh (la lb:List (TCT cPt)) (na ia:Int):Bool:=decide (na=(la.length:Int)∧ia=0)&&decide (la.length≤100∧lb.length≤100)
def Ow (P:Ax) (c:COp) (la:List (TCT cPt)):Option (Int×Int):=Iv P (dA8 c.pr) (dB8 c.pr) c.po (lB8 c.pr) la 0
noncomputable def Abj (P:Ax) (c:COp) (la:List (TCT cPt)) (na ia:Int):Tree (Bc Qb) :=
 .br (Aeh la (lB8 c.pr) na ia) (.br (Ow P c la).isSome (.leaf (Akj ((Ow P c la).getD (0,0)).1 ((Ow P c la).getD (0,0)).2)) (.leaf (Aki c))) .fail
noncomputable def A1n (P:Ax) (g:Rz.T):Tree (Bc Qb):=Abj P (cop g.2.1) g.1.2.2.1 g.1.2.2.2.1 g.1.2.2.2.2.1
theorem Abk {P:Ax} {c:COp} {la:List (TCT cPt)} {R:Bc Qb→Prop} (hb:(lB8 c.pr).length≤100) (ha:la.length≤100):∀ (n i:Nat),i+n=la.length →
  R (Akk c (Iv P (dA8 c.pr) (dB8 c.pr) c.po (lB8 c.pr) (la.drop i) (i:Int)))→F4 Rz Qb (Abi P) R (n+1) (Abh c la la.length (i:Int))
 | 0,i,hn,hr=>by
  intro _
  have e:i=la.length:=by omega
  subst e
  show (A5l P c la la.length (la.length:Int)).sat _
  unfold A5l
  rw [decide_eq_false (Int.lt_irrefl _),cond_false]
  refine ⟨Bb _,fun _=>?_⟩
  rw [List.drop_length] at hr
  exact hr
 | n+1,i,hn,hr=>by
  intro _
  have hi:i<la.length:=by omega
  show (A5l P c la la.length (i:Int)).sat _
  unfold A5l
  rw [decide_eq_true (show (i:Int)<(la.length:Int) by omega),decide_eq_true (show 0≤(i:Int)∧(i:Int)<(la.length:Int) by omega),cond_true,cond_true,show Int.toNat (i:Int)=i by omega,C7 hi]
  have hd:la.drop i=la[i]::la.drop (i+1):=List.drop_eq_getElem_cons hi
  rw [hd] at hr
  unfold Axw
  have hk:Aeg (lB8 c.pr) ((lB8 c.pr).length:Int) 0=true:=by
   unfold Aeg
   rw [decide_eq_true (show ((lB8 c.pr).length:Int)=((lB8 c.pr).length:Int)∧(0:Int)=0 from ⟨rfl,rfl⟩),decide_eq_true (show (lB8 c.pr).length≤1000 by omega)];rfl
  rw [hk]
  refine ⟨Bb _,?_⟩
  have hr:R (Akk c (match Rl P c (la[i].1,la[i].2.1,()) (i:Int) (lB8 c.pr) with | some k=>some ((i:Int),k) | none=>Iv P (dA8 c.pr) (dB8 c.pr) c.po (lB8 c.pr) (la.drop (i+1)) ((i:Int)+1))):=hr
  cases hz:Rl P c (la[i].1,la[i].2.1,()) (i:Int) (lB8 c.pr) with
  | some k =>
   rw [hz] at hr
   exact ⟨Bb _,fun _=>hr⟩
  | none =>
   rw [hz] at hr
   refine ⟨Bb _,?_⟩
   show F4 Rz Qb (Abi P) R (n+1) (Abh c la la.length (W64 ((i:Int)+1)))
   rw [B6 (n:=(i:Int)+1) (by omega) (by omega)]
   exact Abk hb ha n (i+1) (by omega) hr
theorem B0d:Av Tryz.prog 100 Jz (Cn Rz Qb (A1n Ao)):=by
 refine Em Ov 9 _ (Arq Ao) (fun d hd f hf=>by
  rw [Vz,List.mem_singleton] at hd
  subst hd
  rw [Qa] at hf
  cases hf
  exact B0b) Rz Qb (fun e=>by cases e <;> exact (by decide:(1000:Nat)≤2000)) (A1n Ao) (Abi Ao) (B0c Ao Al Cb) ?_
 intro g R _ hf
 unfold A1n Abj at hf
 obtain ⟨hf,h0⟩:=hf
 cases hc:Aeh g.1.2.2.1 (lB8 (cop g.2.1).pr) g.1.2.2.2.1 g.1.2.2.2.2.1 with
 | false=>exact (h0 hc).elim
 | true =>
  obtain ⟨h1,h2⟩:=hf hc
  unfold Aeh at hc
  rw [Bool.and_eq_true,decide_eq_true_eq,decide_eq_true_eq] at hc
  obtain ⟨⟨k1,k2⟩,k3,k4⟩:=hc
  have hr:R (Akk (cop g.2.1) (Ow Ao (cop g.2.1) g.1.2.2.1)):=by
   cases hz:Ow Ao (cop g.2.1) g.1.2.2.1 with
   | none=>rw [hz] at h2;exact h2 rfl
   | some k=>rw [hz] at h1;exact h1 rfl
  have:=Abk (P:=Ao) (c:=cop g.2.1) (la:=g.1.2.2.1) (R:=R) k4 k3 _ 0 (Nat.zero_add _) (by rw [List.drop_zero];exact hr)
  refine ⟨(g.1.2.2.1:List (TCT cPt)).length+1,?_⟩
  have e:Abh (cop g.2.1) g.1.2.2.1 ((g.1.2.2.1:List (TCT cPt)).length:Int) (((0:Nat)):Int)=g:=by
   rw [← k1]
   have k2':(((0:Nat)):Int)=g.1.2.2.2.2.1:=k2.symm
   rw [k2']
   rfl
  rw [← e]
  exact this
noncomputable def Ars (P:Ax) (R:Dg) (O:K6):Ctx:=F8 Tryz.prog (plOp P R O) Apx [((100,1),Cn Rz Qb (A1n P))]
theorem Apy:CtxOk (Ars Ao Al Cb):=Bt Am puOp A1l (B5 (By (by kernel_rfl)) (B5 (By (by kernel_rfl)) (B5 (By (by kernel_rfl)) (B5 (By (by kernel_rfl)) (B5 (By (by kernel_rfl)) (B5 (Nq (f:=100) (fn:=Tryz.f100) (la:=Jz) (k:=1) (fun d hd hk=>by
 rw [W0,List.mem_cons,List.mem_singleton] at hd
 rcases hd with rfl | rfl
 ·rfl
 ·rw [Qa] at hk;cases hk) B0d _ (List.mem_singleton.2 rfl)) Gv))))))
abbrev L9:Type:=TCT Aq→TCT A1→TCT A1→Int×Int×Int
def Gd (P:Ax) (R:Dg) (O:K6):L9:=fun l a b=>bif (O l).2 != 0 then (0,0,(O l).2) else bif N6 R a b then (0,0,2) else
 match Iv P a b (O l).1 (R b).1 (R a).1 0 with
 | some x=>(x.1,x.2,0)
 | none=>(0,0,19)
abbrev A8q (D:L9):PureT:=Bh [Aq,A1,A1] [cI,cI,cI] (fun x=>decide ((x.1.1.size:Int)≤Aw .i64)) (fun x=>((D x.1 x.2.1 x.2.2.1).1,(D x.1 x.2.1 x.2.2.1).2.1,(D x.1 x.2.1 x.2.2.1).2.2,()))
abbrev TOp:=Tree (TCTs [cI,cI,cI])
def erO (e:Int):TOp:=.leaf (0,0,e,())
def prO (a b:TCT A1) (ra rb:List (TCT cPt)):SKTs kPr:=(a.1.1,a.1.2.1,a.2.1,b.1.1,b.1.2.1,b.2.1,ra,rb,())
noncomputable def Akl (P:Ax) (c:COp) (la:List (TCT cPt)):TOp :=
 .need (Dc [W1]) (bif Aeh la (lB8 c.pr) (la.length:Int) 0 then bif (Ow P c la).isSome then .leaf (((Ow P c la).getD (0,0)).1,((Ow P c la).getD (0,0)).2,0,()) else erO 19 else .fail)
noncomputable def Apz (P:Ax) (R:Dg) (O:K6) (l:TCT Aq) (a b:TCT A1):TOp:=szT l (bif (O l).2 != 0 then bif (O l).2 != 0 then erO (O l).2 else .fail else bif (R a).2 != 0 then erO 2 else bif (R b).2 != 0 then erO 2 else bif decide (a.2.1>16384) then erO 2 else bif decide (b.2.1>16384) then erO 2 else
 bif decide (Ex ((a.1.1,a.1.2.1,()),a.2.1,()) ((b.1.1,b.1.2.1,()),b.2.1,())<0) then erO 2 else Akl P ⟨0,0,0,prO a b (R a).1 (R b).1,(O l).1⟩ (R a).1)
theorem Aq0 (P:Ax) (R:Dg) (O:K6) (x:TCTs [Aq,A1,A1]):Ck (Ars P R O) 10 (.fn 11) (Cs [Aq,A1,A1] x) Bs 0 (Fq Tryz.prog [cI,cI,cI])=Apz P R O x.1 x.2.1 x.2.2.1:=by kernel_rfl
theorem Aq1 {P:Ax} {R:Dg} {O:K6} {l:TCT Aq} {a b:TCT A1} (hs:(l.1.size:Int)≤Aw .i64) (h:∀ d,(R d).1.length≤100):(Apz P R O l a b).sat fun y=>y=((Gd P R O l a b).1,(Gd P R O l a b).2.1,(Gd P R O l a b).2.2,()):=by
 unfold Apz Gd N6
 rw [Dw hs]
 cases (O l).2 != 0 with
 | true=>exact rfl
 | false =>
  simp only [cond_false]
  cases (R a).2 != 0 with
  | true=>exact rfl
  | false =>
   cases (R b).2 != 0 with
   | true=>exact rfl
   | false =>
    cases decide (a.2.1>16384) with
    | true=>exact rfl
    | false =>
     cases decide (b.2.1>16384) with
     | true=>exact rfl
     | false =>
      simp only [cond_false,Bool.false_or]
      show (bif decide (Ex a b<0) then erO 2 else _:TOp).sat _
      cases decide (Ex a b<0) with
      | true=>exact rfl
      | false =>
       have ho:Aeh (R a).1 (R b).1 ((R a).1.length:Int) 0=true:=by
        have h1:=h a
        have h2:=h b
        unfold Aeh
        rw [decide_eq_true (show ((R a).1.length:Int)=((R a).1.length:Int)∧(0:Int)=0 from ⟨rfl,rfl⟩),decide_eq_true (show (R a).1.length≤100∧(R b).1.length≤100 from ⟨h1,h2⟩)];rfl
       show (Akl P ⟨0,0,0,prO a b (R a).1 (R b).1,(O l).1⟩ (R a).1).sat _
       unfold Akl
       rw [show lB8 (COp.mk 0 0 0 (prO a b (R a).1 (R b).1) (O l).1).pr=(R b).1 from rfl,ho]
       refine ⟨Bb _,?_⟩
       have e:Ow P ⟨0,0,0,prO a b (R a).1 (R b).1,(O l).1⟩ (R a).1=Iv P a b (O l).1 (R b).1 (R a).1 0:=rfl
       rw [e]
       cases Iv P a b (O l).1 (R b).1 (R a).1 0 <;> exact rfl
theorem Akm:A6 Tryz.prog 11 (A8q (Gd Ao Al Cb)):=Bj Apy 10 (fun x=>Apz Ao Al Cb x.1 x.2.1 x.2.2.1) (Aq0 Ao Al Cb) fun _ hok _=>Aq1 (of_decide_eq_true hok) A1k
end V
end Go.Proofs.YtlangijnealfjaaGreat
