import Derived.Test.YtlangijnealfjaaGreatXw
namespace Go.Proofs.YtlangijnealfjaaGreat
open Go.RowKit
namespace V
open St
abbrev bc3:List BK:=[(3,49,[.d (.sl cI)]),(4,39,[.d cI]),(12,49,[.o 3 cI])]
abbrev bcr:List BK:=[(3,49,[.d (.sl cI)]),(4,39,[.d cI])]
abbrev bc6:List BK:=[(3,49,[.d (.sl cI)]),(4,39,[.d cI]),(12,49,[.o 3 cI]),(10,224,kPr),(11,55,[.d (.sl A1)]),(13,133,[.p 10 0 0 0])]
abbrev bc7:List BK:=[(3,49,[.d (.sl cI)]),(4,39,[.d cI]),(12,49,[.o 3 cI]),(10,224,kPr),(11,55,[.d (.sl A1)]),(13,133,[.p 10 0 0 0]),(1001,28,kP6)]
noncomputable def W5:LK:={ id:=15,keys:=[6,7,9,11],ks:=[.p 3 0 0 0,.p 4 0 0 0,.p 11 0 0 0,.p 12 0 0 0],n:=39,fn:=19,params:=[27],assign:=(rangeAt Tryz.f19 0).1,body:=(rangeAt Tryz.f19 0).2,df:=14,st:=some 0 }
noncomputable def A5v:LK:={ id:=15,keys:=[],ks:=[],n:=39,fn:=19,params:=[27],assign:=(rangeAt Tryz.f19 0).1,body:=(rangeAt Tryz.f19 0).2,df:=14,st:=some 0 }
noncomputable def Z6:LK:={ id:=15,keys:=[],ks:=[],n:=39,fn:=19,params:=[27],assign:=(rangeAt Tryz.f19 0).1,body:=(rangeAt Tryz.f19 0).2,df:=14,st:=some 1 }
noncomputable def S0:Lay2:={ keys:=[0,1,14,15,16],ks:=[.y 15,.p 13 0 0 0,.d (.sl cPt),.d cI,.d cI],bs:=bc6,ls:=[W5],n:=69,nx:=1000,marks:=[],ds:=[14] }
noncomputable def B0j:Lay2:={ keys:=[],ks:=[],bs:=bc3,ls:=[A5v],n:=69,nx:=2000,marks:=[],ds:=[14] }
noncomputable def Arv:Lay2:={ keys:=[],ks:=[],bs:=bcr,ls:=[Z6],n:=69,nx:=2000,marks:=[],ds:=[14] }
noncomputable def Qg:XE→Lay2:=fun e=>match e with | .ret=>Arv | _=>B0j
noncomputable def Qh:Lay2:={ keys:=[0,1,3,4,14,15,16,24,25,26],ks:=[.y 15,.p 13 0 0 0,.d cI,.p 1001 0 0 0,.d (.sl cPt),.d cI,.d cI,.d (.sl cPt),.d cI,.d cI],bs:=bc7,ls:=[W5],n:=69,nx:=2000,marks:=[],ds:=[14] }
noncomputable def B0k:Lay2:={ keys:=[0,1,14,15,16],ks:=[.y 15,.p 13 0 0 0,.d (.sl cPt),.d cI,.d cI],bs:=bc6,ls:=[W5],n:=69,nx:=2000,marks:=[],ds:=[14] }
noncomputable def N9:XE→Lay2:=fun e=>match e with | .ret=>Arv | _=>B0k
noncomputable def Auu:LTs [W5]:=(((((),(),(),(),()):SKTs W5.ks),((():Unit):StT W5.st)),())
noncomputable def Ay0:LTs [A5v]:=(((():SKTs A5v.ks),((():Unit):StT A5v.st)),())
noncomputable def Arw:LTs [Z6]:=(((():SKTs Z6.ks),((():Unit):StT Z6.st)),())
structure CCu where
 x:List Int
 e:Int
 pr:SKTs kPr
 po:List (TCT A1)
noncomputable def Abp (c:CCu) (o:List Int) (p:SKTs kP6) (i0:Int) (la:List (TCT cPt)) (na ia:Int) (lb:List (TCT cPt)) (nb ib:Int):Qh.T:=(((),(),i0,(),la,na,ia,lb,nb,ib,()),((c.x,()),(c.e,()),(o,()),c.pr,(c.po,()),((),()),p,()),Auu)
noncomputable def Aku (c:CCu) (o:List Int) (la:List (TCT cPt)) (na ia:Int):Bc N9:=⟨.exit 2,(((),(),la,na,ia,()),((c.x,()),(c.e,()),(o,()),c.pr,(c.po,()),((),()),()),Auu)⟩
noncomputable def Akv:Bc N9:=⟨.ret,((),(([],()),(5,()),()),Arw)⟩
abbrev TCi:=Tree (Qh.T⊕Bc N9)
def ixS (po:List (TCT A1)) (s:TCT A8g):Int:=bif po.any (Cx (s,())) then (po.findIdx (Cx (s,())):Int) else -1
noncomputable def Abq (c:CCu) (o:List Int) (p:SKTs kP6) (i0:Int) (la:List (TCT cPt)) (na ia:Int) (lb:List (TCT cPt)) (nb ib:Int):TCi:=.need (Dc [W5]) (.leaf (.inl (Abp c o p i0 la na ia lb nb (W64 (ib+1)))))
noncomputable def Arx (c:CCu) (o:List Int) (p:SKTs kP6) (i0:Int) (la:List (TCT cPt)) (na ia:Int) (lb:List (TCT cPt)) (nb ib:Int) (n:Int):TCi :=
 bif decide (n<0) then .need (Dc [Z6]) (.leaf (.inr Akv)) else bif Dy o [n] 8 then Abq c (o++[n]) p i0 la na ia lb nb ib else .fail
noncomputable def Ary (P:Ax) (c:CCu) (o:List Int) (p:SKTs kP6) (i0:Int) (la:List (TCT cPt)) (na ia:Int) (lb:List (TCT cPt)) (nb ib:Int) (q:TCT cPt):TCi :=
 bif !(P (Cp p) q (dA8 c.pr)).1 then bif !(P (Cp p) q (dB8 c.pr)).1 then Arx c o p i0 la na ia lb nb ib (ixS c.po (i0,ib,Cp p,(q.1,q.2.1,()),())) else Abq c o p i0 la na ia lb nb ib else Abq c o p i0 la na ia lb nb ib
noncomputable def A5w (P:Ax) (c:CCu) (o:List Int) (p:SKTs kP6) (i0:Int) (la:List (TCT cPt)) (na ia:Int) (lb:List (TCT cPt)) (nb ib:Int):TCi :=
 bif decide (ib<nb) then bif decide (0≤ib∧ib<(lb.length:Int)) then Ary P c o p i0 la na ia lb nb ib (A7 lb (Int.toNat ib) (A5 cPt)) else .fail else .need (Dc [W5]) (.leaf (.inr (Aku c o la na ia)))
def ccu (b:BTs bc6):CCu:=⟨b.1.1,b.2.1.1,b.2.2.2.1,b.2.2.2.2.1.1⟩
def A8s (b:BTs bc7):CCu:=⟨b.1.1,b.2.1.1,b.2.2.2.1,b.2.2.2.2.1.1⟩
noncomputable def A5x (P:Ax) (g:Qh.T):TCi:=A5w P (A8s g.2.1) g.2.1.2.2.1.1 g.2.1.2.2.2.2.2.2.1 g.1.2.2.1 g.1.2.2.2.2.1 g.1.2.2.2.2.2.1 g.1.2.2.2.2.2.2.1 g.1.2.2.2.2.2.2.2.1 g.1.2.2.2.2.2.2.2.2.1 g.1.2.2.2.2.2.2.2.2.2.1
theorem B0l (P:Ax) (R:Dg) (O:K6) (g:Qh.T):evC Tryz.prog (Ck (Iu P R O) 9) (Iu P R O).pures 100 (Iu P R O).u (fun _=>none) Ot (Qh.of g) (Do Qh N9)=A5x P g:=by kernel_rfl
end V
end Go.Proofs.YtlangijnealfjaaGreat
namespace Go.Proofs.YtlangijnealfjaaGreat
open Go.RowKit
namespace V
open St
def Iw (P:Ax) (a b:TCT A1) (po:List (TCT A1)) (p:TCT cPt) (i:Int):List (TCT cPt)→Int→List Int→Option (List Int)
 | [],_,o=>some o
 | q::l,k,o=>bif lnB P a b p q then bif decide (ixS po (i,k,p,(q.1,q.2.1,()),())<0) then none else Iw P a b po p i l (k+1) (o++[ixS po (i,k,p,(q.1,q.2.1,()),())]) else Iw P a b po p i l (k+1) o
noncomputable def Abr (c:CCu) (la:List (TCT cPt)) (na ia:Int):Option (List Int)→Bc N9
 | some o=>Aku c o la na ia
 | none=>Akv
def Aek (o:List Int) (lb:List (TCT cPt)) (nb ib:Int):Bool:=decide (nb=(lb.length:Int)∧ib=0)&&decide (lb.length≤1000∧o.length≤100000)
def Rm (P:Ax) (c:CCu) (p:SKTs kP6) (i0:Int) (lb:List (TCT cPt)) (o:List Int):Option (List Int):=Iw P (dA8 c.pr) (dB8 c.pr) c.po (Cp p) i0 lb 0 o
noncomputable def Abs (P:Ax) (c:CCu) (o:List Int) (p:SKTs kP6) (i0:Int) (la:List (TCT cPt)) (na ia:Int) (lb:List (TCT cPt)) (nb ib:Int):Tree (Bc N9) :=
 .br (Aek o lb nb ib) (.br (Rm P c p i0 lb o).isSome (.leaf (Aku c ((Rm P c p i0 lb o).getD []) la na ia)) (.leaf Akv)) .fail
noncomputable def A1o (P:Ax) (g:Qh.T):Tree (Bc N9):=Abs P (A8s g.2.1) g.2.1.2.2.1.1 g.2.1.2.2.2.2.2.2.1 g.1.2.2.1 g.1.2.2.2.2.1 g.1.2.2.2.2.2.1 g.1.2.2.2.2.2.2.1 g.1.2.2.2.2.2.2.2.1 g.1.2.2.2.2.2.2.2.2.1 g.1.2.2.2.2.2.2.2.2.2.1
theorem Abt {P:Ax} {c:CCu} {p:SKTs kP6} {i0:Int} {la:List (TCT cPt)} {na ia:Int} {lb:List (TCT cPt)} {R:Bc N9→Prop} (hb:lb.length≤1000):∀ (n i:Nat) (o:List Int),i+n=lb.length→o.length≤100000+i →
  R (Abr c la na ia (Iw P (dA8 c.pr) (dB8 c.pr) c.po (Cp p) i0 (lb.drop i) (i:Int) o))→F4 Qh N9 (A5x P) R (n+1) (Abp c o p i0 la na ia lb lb.length (i:Int))
 | 0,i,o,hn,ho,hr=>by
  intro _
  have e:i=lb.length:=by omega
  subst e
  show (A5w P c o p i0 la na ia lb lb.length (lb.length:Int)).sat _
  unfold A5w
  rw [decide_eq_false (Int.lt_irrefl _),cond_false]
  refine ⟨Bb _,fun _=>?_⟩
  rw [List.drop_length] at hr
  exact hr
 | n+1,i,o,hn,ho,hr=>by
  intro _
  have hi:i<lb.length:=by omega
  show (A5w P c o p i0 la na ia lb lb.length (i:Int)).sat _
  unfold A5w
  rw [decide_eq_true (show (i:Int)<(lb.length:Int) by omega),decide_eq_true (show 0≤(i:Int)∧(i:Int)<(lb.length:Int) by omega),cond_true,cond_true,show Int.toNat (i:Int)=i by omega,C7 hi]
  have hd:lb.drop i=lb[i]::lb.drop (i+1):=List.drop_eq_getElem_cons hi
  rw [hd] at hr
  have go:∀ o':List Int,o'.length≤100000+(i+1)→R (Abr c la na ia (Iw P (dA8 c.pr) (dB8 c.pr) c.po (Cp p) i0 (lb.drop (i+1)) ((i+1:Nat):Int) o'))→(Abq c o' p i0 la na ia lb lb.length (i:Int)).sat (fun x=>match x with | .inl g'=>F4 Qh N9 (A5x P) R (n+1) g' | .inr x=>(N9 x.1).WF x.2→R x):=by
   intro o' h1 h2
   refine ⟨Bb _,?_⟩
   show F4 Qh N9 (A5x P) R (n+1) (Abp c o' p i0 la na ia lb lb.length (W64 ((i:Int)+1)))
   rw [B6 (n:=(i:Int)+1) (by omega) (by omega)]
   exact Abt hb n (i+1) o' (by omega) h1 h2
  unfold Ary
  have hr:R (Abr c la na ia (bif lnB P (dA8 c.pr) (dB8 c.pr) (Cp p) lb[i] then bif decide (ixS c.po (i0,(i:Int),Cp p,(lb[i].1,lb[i].2.1,()),())<0) then none else Iw P (dA8 c.pr) (dB8 c.pr) c.po (Cp p) i0 (lb.drop (i+1)) ((i:Int)+1) (o++[ixS c.po (i0,(i:Int),Cp p,(lb[i].1,lb[i].2.1,()),())]) else Iw P (dA8 c.pr) (dB8 c.pr) c.po (Cp p) i0 (lb.drop (i+1)) ((i:Int)+1) o)):=hr
  unfold lnB at hr
  cases h1:(P (Cp p) lb[i] (dA8 c.pr)).1 with
  | true =>
   rw [h1] at hr
   exact go o (by omega) hr
  | false =>
   rw [h1] at hr
   cases h2:(P (Cp p) lb[i] (dB8 c.pr)).1 with
   | true =>
    rw [h2] at hr
    exact go o (by omega) hr
   | false =>
    rw [h2] at hr
    simp only [Bool.not_false,cond_true,Bool.true_and] at hr ⊢
    unfold Arx
    generalize ixS c.po (i0,(i:Int),Cp p,(lb[i].1,lb[i].2.1,()),())=x at *
    cases h3:decide (x<0) with
    | true =>
     rw [h3] at hr
     exact ⟨Bb _,fun _=>hr⟩
    | false =>
     rw [h3] at hr
     rw [A72 (by rw [List.length_singleton];omega) (by decide)]
     exact go (o++[x]) (by rw [List.length_append,List.length_singleton];omega) hr
theorem B0m:Av Tryz.prog 100 Ot (Cn Qh N9 (A1o Ao)):=by
 refine Em Ov 9 _ (fun _=>none) (fun _ _ f h=>by simp at h) Qh N9 (fun e=>by cases e <;> exact Nat.le_refl _) (A1o Ao) (A5x Ao) (B0l Ao Al Cb) ?_
 intro g R _ hf
 unfold A1o Abs at hf
 generalize hlb:(g.1.2.2.2.2.2.2.2.1:List (TCT cPt))=lb at hf
 obtain ⟨hf,h0⟩:=hf
 cases hc:Aek g.2.1.2.2.1.1 lb g.1.2.2.2.2.2.2.2.2.1 g.1.2.2.2.2.2.2.2.2.2.1 with
 | false=>exact (h0 hc).elim
 | true =>
  obtain ⟨h1,h2⟩:=hf hc
  unfold Aek at hc
  rw [Bool.and_eq_true,decide_eq_true_eq,decide_eq_true_eq] at hc
  obtain ⟨⟨k1,k2⟩,k3,k4⟩:=hc
  have hr:R (Abr (A8s g.2.1) g.1.2.2.2.2.1 g.1.2.2.2.2.2.1 g.1.2.2.2.2.2.2.1 (Rm Ao (A8s g.2.1) g.2.1.2.2.2.2.2.2.1 g.1.2.2.1 lb g.2.1.2.2.1.1)):=by
   cases hz:Rm Ao (A8s g.2.1) g.2.1.2.2.2.2.2.2.1 g.1.2.2.1 lb g.2.1.2.2.1.1 with
   | none=>rw [hz] at h2;exact h2 rfl
   | some k=>rw [hz] at h1;exact h1 rfl
  have:=Abt (P:=Ao) (c:=A8s g.2.1) (p:=g.2.1.2.2.2.2.2.2.1) (i0:=g.1.2.2.1) (la:=g.1.2.2.2.2.1) (na:=g.1.2.2.2.2.2.1) (ia:=g.1.2.2.2.2.2.2.1) (lb:=lb) (R:=R) k3 _ 0 g.2.1.2.2.1.1 (Nat.zero_add _) (by omega) (by rw [List.drop_zero];exact hr)
  refine ⟨lb.length+1,?_⟩
  have e:Abp (A8s g.2.1) g.2.1.2.2.1.1 g.2.1.2.2.2.2.2.2.1 g.1.2.2.1 g.1.2.2.2.2.1 g.1.2.2.2.2.2.1 g.1.2.2.2.2.2.2.1 lb (lb.length:Int) (((0:Nat)):Int)=g:=by
   rw [← k1,← hlb]
   have k2':(((0:Nat)):Int)=g.1.2.2.2.2.2.2.2.2.2.1:=k2.symm
   rw [k2']
   rfl
  rw [← e]
  exact this
noncomputable def Abu (c:CCu) (o:List Int) (la:List (TCT cPt)) (na ia:Int):S0.T:=(((),(),la,na,ia,()),((c.x,()),(c.e,()),(o,()),c.pr,(c.po,()),((),()),()),Auu)
noncomputable def Akw (c:CCu) (o:List Int):Bc Qg:=⟨.exit 0,((),((c.x,()),(c.e,()),(o,()),()),Ay0)⟩
noncomputable def Akx:Bc Qg:=⟨.ret,((),(([],()),(5,()),()),Arw)⟩
abbrev TCo:=Tree (S0.T⊕Bc Qg)
noncomputable def Ay1 (P:Ax) (c:CCu) (o:List Int) (la:List (TCT cPt)) (na ia:Int) (p:TCT cPt):TCo :=
 .need (Dc [W5]) (bif Aek o (lB8 c.pr) ((lB8 c.pr).length:Int) 0 then bif (Rm P c (p.1,p.2.1,()) ia (lB8 c.pr) o).isSome then .need (Dc [W5]) (.leaf (.inl (Abu c ((Rm P c (p.1,p.2.1,()) ia (lB8 c.pr) o).getD []) la na (W64 (ia+1))))) else .need (Dc [Z6]) (.leaf (.inr Akx)) else .fail)
noncomputable def A5y (P:Ax) (c:CCu) (o:List Int) (la:List (TCT cPt)) (na ia:Int):TCo :=
 bif decide (ia<na) then bif decide (0≤ia∧ia<(la.length:Int)) then Ay1 P c o la na ia (A7 la (Int.toNat ia) (A5 cPt)) else .fail else .need (Dc [A5v]) (.leaf (.inr (Akw c o)))
noncomputable def Abv (P:Ax) (g:S0.T):TCo:=A5y P (ccu g.2.1) g.2.1.2.2.1.1 g.1.2.2.1 g.1.2.2.2.1 g.1.2.2.2.2.1
noncomputable def Arz (P:Ax):Ht:=fun k=>bif Nat.beq k 4 then some (Cn Qh N9 (A1o P)) else none
theorem B0n (P:Ax) (R:Dg) (O:K6) (g:S0.T):evC Tryz.prog (Ck (Iu P R O) 9) (Iu P R O).pures 100 (Iu P R O).u (Arz P) Jz (S0.of g) (Do S0 Qg)=Abv P g:=by kernel_rfl
end V
end Go.Proofs.YtlangijnealfjaaGreat
namespace Go.Proofs.YtlangijnealfjaaGreat
open Go.RowKit
namespace V
open St
def P1 (P:Ax) (a b:TCT A1) (po:List (TCT A1)) (lb:List (TCT cPt)):List (TCT cPt)→Int→List Int→Option (List Int)
 | [],_,o=>some o
 | p::l,i,o=>match Iw P a b po (p.1,p.2.1,()) i lb 0 o with
  | some o'=>P1 P a b po lb l (i+1) o'
  | none=>none
theorem W6 {P:Ax} {a b:TCT A1} {po:List (TCT A1)} {p:TCT cPt} {i:Int}:∀ (l:List (TCT cPt)) (k:Int) (o o':List Int),Iw P a b po p i l k o=some o'→o'.length≤o.length+l.length
 | [],_,o,o',h=>by cases h;exact Nat.le_add_right _ _
 | q::l,k,o,o',h=>by
  have h:(bif lnB P a b p q then bif decide (ixS po (i,k,p,(q.1,q.2.1,()),())<0) then none else Iw P a b po p i l (k+1) (o++[ixS po (i,k,p,(q.1,q.2.1,()),())]) else Iw P a b po p i l (k+1) o)=some o':=h
  rw [List.length_cons]
  cases h1:lnB P a b p q with
  | false =>
   rw [h1] at h
   have:=W6 l (k+1) o o' h
   omega
  | true =>
   rw [h1,cond_true] at h
   cases h2:decide (ixS po (i,k,p,(q.1,q.2.1,()),())<0) with
   | true=>rw [h2] at h;cases h
   | false =>
    rw [h2] at h
    have:=W6 l (k+1) _ o' h
    rw [List.length_append,List.length_singleton] at this
    omega
noncomputable def Aky (c:CCu):Option (List Int)→Bc Qg
 | some o=>Akw c o
 | none=>Akx
def Ael (o:List Int) (la lb:List (TCT cPt)) (na ia:Int):Bool:=decide (na=(la.length:Int)∧ia=0)&&decide (la.length≤100∧lb.length≤100∧o.length=0)
def W7 (P:Ax) (c:CCu) (la:List (TCT cPt)) (o:List Int):Option (List Int):=P1 P (dA8 c.pr) (dB8 c.pr) c.po (lB8 c.pr) la 0 o
noncomputable def Abw (P:Ax) (c:CCu) (o:List Int) (la:List (TCT cPt)) (na ia:Int):Tree (Bc Qg) :=
 .br (Ael o la (lB8 c.pr) na ia) (.br (W7 P c la o).isSome (.leaf (Akw c ((W7 P c la o).getD []))) (.leaf Akx)) .fail
noncomputable def A1p (P:Ax) (g:S0.T):Tree (Bc Qg):=Abw P (ccu g.2.1) g.2.1.2.2.1.1 g.1.2.2.1 g.1.2.2.2.1 g.1.2.2.2.2.1
theorem Abx {P:Ax} {c:CCu} {la:List (TCT cPt)} {R:Bc Qg→Prop} (hb:(lB8 c.pr).length≤100) (ha:la.length≤100):∀ (n i:Nat) (o:List Int),i+n=la.length→o.length≤100*i →
  R (Aky c (P1 P (dA8 c.pr) (dB8 c.pr) c.po (lB8 c.pr) (la.drop i) (i:Int) o))→F4 S0 Qg (Abv P) R (n+1) (Abu c o la la.length (i:Int))
 | 0,i,o,hn,ho,hr=>by
  intro _
  have e:i=la.length:=by omega
  subst e
  show (A5y P c o la la.length (la.length:Int)).sat _
  unfold A5y
  rw [decide_eq_false (Int.lt_irrefl _),cond_false]
  refine ⟨Bb _,fun _=>?_⟩
  rw [List.drop_length] at hr
  exact hr
 | n+1,i,o,hn,ho,hr=>by
  intro _
  have hi:i<la.length:=by omega
  show (A5y P c o la la.length (i:Int)).sat _
  unfold A5y
  rw [decide_eq_true (show (i:Int)<(la.length:Int) by omega),decide_eq_true (show 0≤(i:Int)∧(i:Int)<(la.length:Int) by omega),cond_true,cond_true,show Int.toNat (i:Int)=i by omega,C7 hi]
  have hd:la.drop i=la[i]::la.drop (i+1):=List.drop_eq_getElem_cons hi
  rw [hd] at hr
  unfold Ay1
  have hk:Aek o (lB8 c.pr) ((lB8 c.pr).length:Int) 0=true:=by
   unfold Aek
   rw [decide_eq_true (show ((lB8 c.pr).length:Int)=((lB8 c.pr).length:Int)∧(0:Int)=0 from ⟨rfl,rfl⟩),decide_eq_true (show (lB8 c.pr).length≤1000∧o.length≤100000 by omega)];rfl
  rw [hk]
  refine ⟨Bb _,?_⟩
  have hr:R (Aky c (match Rm P c (la[i].1,la[i].2.1,()) (i:Int) (lB8 c.pr) o with | some o'=>P1 P (dA8 c.pr) (dB8 c.pr) c.po (lB8 c.pr) (la.drop (i+1)) ((i:Int)+1) o' | none=>none)):=hr
  cases hz:Rm P c (la[i].1,la[i].2.1,()) (i:Int) (lB8 c.pr) o with
  | none =>
   rw [hz] at hr
   exact ⟨Bb _,fun _=>hr⟩
  | some o' =>
   rw [hz] at hr
   have hl:=W6 _ _ _ _ hz
   refine ⟨Bb _,?_⟩
   show F4 S0 Qg (Abv P) R (n+1) (Abu c o' la la.length (W64 ((i:Int)+1)))
   rw [B6 (n:=(i:Int)+1) (by omega) (by omega)]
   exact Abx hb ha n (i+1) o' (by omega) (by omega) hr
theorem B0o:Av Tryz.prog 100 Jz (Cn S0 Qg (A1p Ao)):=by
 refine Em Ov 9 _ (Arz Ao) (fun d hd f hf=>by
  rw [Vz,List.mem_singleton] at hd
  subst hd
  rw [Qa] at hf
  cases hf
  exact B0m) S0 Qg (fun e=>by cases e <;> exact (by decide:(1000:Nat)≤2000)) (A1p Ao) (Abv Ao) (B0n Ao Al Cb) ?_
 intro g R _ hf
 unfold A1p Abw at hf
 obtain ⟨hf,h0⟩:=hf
 cases hc:Ael g.2.1.2.2.1.1 g.1.2.2.1 (lB8 (ccu g.2.1).pr) g.1.2.2.2.1 g.1.2.2.2.2.1 with
 | false=>exact (h0 hc).elim
 | true =>
  obtain ⟨h1,h2⟩:=hf hc
  unfold Ael at hc
  rw [Bool.and_eq_true,decide_eq_true_eq,decide_eq_true_eq] at hc
  obtain ⟨⟨k1,k2⟩,k3,k4,k5⟩:=hc
  have hr:R (Aky (ccu g.2.1) (W7 Ao (ccu g.2.1) g.1.2.2.1 g.2.1.2.2.1.1)):=by
   cases hz:W7 Ao (ccu g.2.1) g.1.2.2.1 g.2.1.2.2.1.1 with
   | none=>rw [hz] at h2;exact h2 rfl
   | some k=>rw [hz] at h1;exact h1 rfl
  have:=Abx (P:=Ao) (c:=ccu g.2.1) (la:=g.1.2.2.1) (R:=R) k4 k3 _ 0 g.2.1.2.2.1.1 (Nat.zero_add _) (by omega) (by rw [List.drop_zero];exact hr)
  refine ⟨(g.1.2.2.1:List (TCT cPt)).length+1,?_⟩
  have e:Abu (ccu g.2.1) g.2.1.2.2.1.1 g.1.2.2.1 ((g.1.2.2.1:List (TCT cPt)).length:Int) (((0:Nat)):Int)=g:=by
   rw [← k1]
   have k2':(((0:Nat)):Int)=g.1.2.2.2.2.1:=k2.symm
   rw [k2']
   rfl
  rw [← e]
  exact this
noncomputable def As0 (P:Ax) (R:Dg) (O:K6):Ctx:=F8 Tryz.prog (plOp P R O) Apx [((100,1),Cn S0 Qg (A1p P))]
theorem Aq6:CtxOk (As0 Ao Al Cb):=Bt Am puOp A1l (B5 (By (by kernel_rfl)) (B5 (By (by kernel_rfl)) (B5 (By (by kernel_rfl)) (B5 (By (by kernel_rfl)) (B5 (By (by kernel_rfl)) (B5 (Nq (f:=100) (fn:=Tryz.f100) (la:=Jz) (k:=1) (fun d hd hk=>by
 rw [W0,List.mem_cons,List.mem_singleton] at hd
 rcases hd with rfl | rfl
 ·rfl
 ·rw [Qa] at hk;cases hk) B0o _ (List.mem_singleton.2 rfl)) Gv))))))
abbrev La:Type:=TCT Aq→TCT A1→TCT A1→List Int×Int
def E9 (P:Ax) (R:Dg) (O:K6):La:=fun l a b=>bif (O l).2 != 0 then ([],(O l).2) else bif N6 R a b then ([],2) else
 match P1 P a b (O l).1 (R b).1 (R a).1 0 [] with
 | some o=>(o,0)
 | none=>([],5)
abbrev Akz (D:La):PureT:=Bh [Aq,A1,A1] [.sl cI,cI] (fun x=>decide ((x.1.1.size:Int)≤Aw .i64)) (fun x=>((D x.1 x.2.1 x.2.2.1).1,(D x.1 x.2.1 x.2.2.1).2,()))
abbrev TCu:=Tree (TCTs [.sl cI,cI])
def erC (e:Int):TCu:=.leaf ([],e,())
noncomputable def Al0 (P:Ax) (c:CCu) (la:List (TCT cPt)):TCu :=
 .need (Dc [W5]) (bif Ael [] la (lB8 c.pr) (la.length:Int) 0 then bif (W7 P c la []).isSome then .leaf ((W7 P c la []).getD [],0,()) else erC 5 else .fail)
def prC (a b:TCT A1) (ra rb:List (TCT cPt)):SKTs kPr:=(a.1.1,a.1.2.1,a.2.1,b.1.1,b.1.2.1,b.2.1,ra,rb,())
noncomputable def Aby (P:Ax) (R:Dg) (O:K6) (l:TCT Aq) (a b:TCT A1):TCu:=szT l (bif (O l).2 != 0 then bif (O l).2 != 0 then erC (O l).2 else .fail else bif (R a).2 != 0 then erC 2 else bif (R b).2 != 0 then erC 2 else bif decide (a.2.1>16384) then erC 2 else bif decide (b.2.1>16384) then erC 2 else
 bif decide (Ex ((a.1.1,a.1.2.1,()),a.2.1,()) ((b.1.1,b.1.2.1,()),b.2.1,())<0) then erC 2 else Al0 P ⟨[],0,prC a b (R a).1 (R b).1,(O l).1⟩ (R a).1)
theorem Al1 {P:Ax} {R:Dg} {O:K6} {l:TCT Aq} {a b:TCT A1} (hs:(l.1.size:Int)≤Aw .i64) (h:∀ d,(R d).1.length≤100):(Aby P R O l a b).sat fun y=>y=((E9 P R O l a b).1,(E9 P R O l a b).2,()):=by
 unfold Aby E9 N6
 rw [Dw hs]
 cases (O l).2 != 0 with
 | true=>exact rfl
 | false =>
  simp only [cond_false]
  cases (R a).2 != 0 with
  | true=>exact rfl
  | false =>
   cases (R b).2 != 0 with
   | true=>exact rfl
   | false =>
    cases decide (a.2.1>16384) with
    | true=>exact rfl
    | false =>
     cases decide (b.2.1>16384) with
     | true=>exact rfl
     | false =>
      simp only [cond_false,Bool.false_or]
      show (bif decide (Ex a b<0) then erC 2 else _:TCu).sat _
      cases decide (Ex a b<0) with
      | true=>exact rfl
      | false =>
       have ho:Ael [] (R a).1 (R b).1 ((R a).1.length:Int) 0=true:=by
        have h1:=h a
        have h2:=h b
        unfold Ael
        rw [decide_eq_true (show ((R a).1.length:Int)=((R a).1.length:Int)∧(0:Int)=0 from ⟨rfl,rfl⟩),decide_eq_true (show (R a).1.length≤100∧(R b).1.length≤100∧([]:List Int).length=0 from ⟨h1,h2,rfl⟩)];rfl
       show (Al0 P ⟨[],0,prC a b (R a).1 (R b).1,(O l).1⟩ (R a).1).sat _
       unfold Al0
       rw [show lB8 (CCu.mk [] 0 (prC a b (R a).1 (R b).1) (O l).1).pr=(R b).1 from rfl,ho]
       refine ⟨Bb _,?_⟩
       have e:W7 P ⟨[],0,prC a b (R a).1 (R b).1,(O l).1⟩ (R a).1 []=P1 P a b (O l).1 (R b).1 (R a).1 0 []:=rfl
       rw [e]
       cases P1 P a b (O l).1 (R b).1 (R a).1 0 [] <;> exact rfl
theorem Al2 (P:Ax) (R:Dg) (O:K6) (x:TCTs [Aq,A1,A1]):Ck (As0 P R O) 10 (.fn 19) (Cs [Aq,A1,A1] x) Bs 0 (Fq Tryz.prog [.sl cI,cI])=Aby P R O x.1 x.2.1 x.2.2.1:=by kernel_rfl
theorem Auv:A6 Tryz.prog 19 (Akz (E9 Ao Al Cb)):=Bj Aq6 10 (fun x=>Aby Ao Al Cb x.1 x.2.1 x.2.2.1) (Al2 Ao Al Cb) fun _ hok _=>Al1 (of_decide_eq_true hok) A1k
end V
end Go.Proofs.YtlangijnealfjaaGreat
