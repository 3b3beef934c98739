import Derived.Test.YtlangijnealfjaaGreatXt
namespace Go.Proofs.YtlangijnealfjaaGreat
open Go.RowKit
namespace V
open St
theorem is_Open:FnIs Tryz.prog (11,Tryz.f11):=⟨Tryz.func11,by kernel_rfl,by kernel_rfl⟩
theorem is_Cut:FnIs Tryz.prog (19,Tryz.f19):=⟨Tryz.func19,by kernel_rfl,by kernel_rfl⟩
theorem is_view:FnIs Tryz.prog (40,Tryz.f40):=⟨Tryz.func40,by kernel_rfl,by kernel_rfl⟩
abbrev Un:Type:=TCT Ao→List (TCT A1)×Int
abbrev Ah5 (O:Un):PureT:=B9 [Ao] [.sl A1,cI] (fun x=>decide ((x.1.1.size:Int)≤Au .i64)) (fun x=>((O x.1).1,(O x.1).2,()))
abbrev plOp (P:C2) (R:F6) (O:Un):List (Nat×PureT):=(101,Ah5 O)::(41,A8b)::(58,A88)::plDi P R
noncomputable def Apm:List (Nat×Func):=[(11,Tryz.f11),(19,Tryz.f19),(40,Tryz.f40),(38,Tryz.f38),(39,Tryz.f39),(100,Tryz.f100)]
theorem A8k:∀ p ∈ Apm,FnIs Tryz.prog p:=A0 is_Open (A0 is_Cut (A0 is_view (A0 is_newPair (A0 is_pdirect (A0 is_pdirect1 A2)))))
abbrev bo3:List BK:=[(3,3,[.d cI]),(4,3,[.d cI]),(5,39,[.d cI])]
abbrev bo6:List BK:=[(3,3,[.d cI]),(4,3,[.d cI]),(5,39,[.d cI]),(11,224,kPr),(12,55,[.d (.sl A1)]),(13,133,[.p 11 0 0 0])]
abbrev bo7:List BK:=[(3,3,[.d cI]),(4,3,[.d cI]),(5,39,[.d cI]),(11,224,kPr),(12,55,[.d (.sl A1)]),(13,133,[.p 11 0 0 0]),(1000,28,kP6)]
noncomputable def Uo:LK:={ id:=15,keys:=[6,7,8,10],ks:=[.p 3 0 0 0,.p 4 0 0 0,.p 5 0 0 0,.p 12 0 0 0],n:=36,fn:=11,params:=[26],assign:=(rangeAt Tryz.f11 0).1,body:=(rangeAt Tryz.f11 0).2,df:=14,st:=some 0 }
noncomputable def A34:LK:={ id:=15,keys:=[],ks:=[],n:=36,fn:=11,params:=[26],assign:=(rangeAt Tryz.f11 0).1,body:=(rangeAt Tryz.f11 0).2,df:=14,st:=some 0 }
noncomputable def Ww:LK:={ id:=15,keys:=[],ks:=[],n:=36,fn:=11,params:=[26],assign:=(rangeAt Tryz.f11 0).1,body:=(rangeAt Tryz.f11 0).2,df:=14,st:=some 1 }
noncomputable def Qe:Lay2:={ keys:=[0,1,14,15,16],ks:=[.y 15,.p 13 0 0 0,.d (.sl cPt),.d cI,.d cI],bs:=bo6,ls:=[Uo],n:=69,nx:=1000,marks:=[],ds:=[14] }
noncomputable def Aun:Lay2:={ keys:=[],ks:=[],bs:=bo3,ls:=[A34],n:=69,nx:=2000,marks:=[],ds:=[14] }
noncomputable def Amw:Lay2:={ keys:=[],ks:=[],bs:=bo3,ls:=[Ww],n:=69,nx:=2000,marks:=[],ds:=[14] }
noncomputable def P7:XE→Lay2:=fun e=>match e with | .ret=>Amw | _=>Aun
noncomputable def P8:Lay2:={ keys:=[0,1,3,4,14,15,16,24,25,26],ks:=[.y 15,.p 13 0 0 0,.d cI,.p 1000 0 0 0,.d (.sl cPt),.d cI,.d cI,.d (.sl cPt),.d cI,.d cI],bs:=bo7,ls:=[Uo],n:=69,nx:=2000,marks:=[],ds:=[14] }
noncomputable def Auo:Lay2:={ keys:=[0,1,14,15,16],ks:=[.y 15,.p 13 0 0 0,.d (.sl cPt),.d cI,.d cI],bs:=bo6,ls:=[Uo],n:=69,nx:=2000,marks:=[],ds:=[14] }
noncomputable def Mg:XE→Lay2:=fun e=>match e with | .ret=>Amw | _=>Auo
noncomputable def Up (P:C2) (R:F6) (O:Un):Ctx:=ctx Tryz.prog (plOp P R O) Apm
noncomputable def Apn:LTs [Uo]:=(((((),(),(),(),()):SKTs Uo.ks),((():Unit):StT Uo.st)),())
noncomputable def Asm:LTs [A34]:=(((():SKTs A34.ks),((():Unit):StT A34.st)),())
noncomputable def Amx:LTs [Ww]:=(((():SKTs Ww.ks),((():Unit):StT Ww.st)),())
structure COp where
 x:Int
 y:Int
 e:Int
 pr:SKTs kPr
 po:List (TCT A1)
noncomputable def A8l (c:COp) (p:SKTs kP6) (i0:Int) (la:List (TCT cPt)) (na ia:Int) (lb:List (TCT cPt)) (nb ib:Int):P8.T:=(((),(),i0,(),la,na,ia,lb,nb,ib,()),((c.x,()),(c.y,()),(c.e,()),c.pr,(c.po,()),((),()),p,()),Apn)
noncomputable def Ah6 (c:COp) (la:List (TCT cPt)) (na ia:Int):Bj Mg:=⟨.exit 2,(((),(),la,na,ia,()),((c.x,()),(c.y,()),(c.e,()),c.pr,(c.po,()),((),()),()),Apn)⟩
noncomputable def Ah7 (i k:Int):Bj Mg:=⟨.ret,((),((i,()),(k,()),(0,()),()),Amx)⟩
abbrev TOi:=Tree (P8.T⊕Bj Mg)
def ctS (po:List (TCT A1)) (s:TCT Alg):Bool:=po.any (E6 (s,()))
noncomputable def A8m (c:COp) (p:SKTs kP6) (i0:Int) (la:List (TCT cPt)) (na ia:Int) (lb:List (TCT cPt)) (nb ib:Int):TOi:=.need (E2 [Uo]) (.leaf (.inl (A8l c p i0 la na ia lb nb (W64 (ib+1)))))
noncomputable def Amy (P:C2) (c:COp) (p:SKTs kP6) (i0:Int) (la:List (TCT cPt)) (na ia:Int) (lb:List (TCT cPt)) (nb ib:Int) (q:TCT cPt):TOi :=
 bif !(P (Di p) q (dA8 c.pr)).1 then bif !(P (Di p) q (dB8 c.pr)).1 then bif !ctS c.po (i0,ib,Di p,(q.1,q.2.1,()),()) then .need (E2 [Ww]) (.leaf (.inr (Ah7 i0 ib))) else A8m c p i0 la na ia lb nb ib else A8m c p i0 la na ia lb nb ib else A8m c p i0 la na ia lb nb ib
noncomputable def A35 (P:C2) (c:COp) (p:SKTs kP6) (i0:Int) (la:List (TCT cPt)) (na ia:Int) (lb:List (TCT cPt)) (nb ib:Int):TOi :=
 bif decide (ib<nb) then bif decide (0≤ib∧ib<(lb.length:Int)) then Amy P c p i0 la na ia lb nb ib (Ar lb (Int.toNat ib) (Ap cPt)) else .fail else .need (E2 [Uo]) (.leaf (.inr (Ah6 c la na ia)))
def cop (b:BTs bo6):COp:=⟨b.1.1,b.2.1.1,b.2.2.1.1,b.2.2.2.1,b.2.2.2.2.1.1⟩
def A64 (b:BTs bo7):COp:=⟨b.1.1,b.2.1.1,b.2.2.1.1,b.2.2.2.1,b.2.2.2.2.1.1⟩
noncomputable def A36 (P:C2) (g:P8.T):TOi:=A35 P (A64 g.2.1) g.2.1.2.2.2.2.2.2.1 g.1.2.2.1 g.1.2.2.2.2.1 g.1.2.2.2.2.2.1 g.1.2.2.2.2.2.2.1 g.1.2.2.2.2.2.2.2.1 g.1.2.2.2.2.2.2.2.2.1 g.1.2.2.2.2.2.2.2.2.2.1
theorem Aup (P:C2) (R:F6) (O:Un) (g:P8.T):evC Tryz.prog (D7 (Up P R O) 9) (Up P R O).pures 100 (Up P R O).u (fun _=>none) Uk (P8.of g) (E3 P8 Mg)=A36 P g:=by kernel_rfl
end V
end Go.Proofs.YtlangijnealfjaaGreat
namespace Go.Proofs.YtlangijnealfjaaGreat
open Go.RowKit
namespace V
open St
def Ve (P:C2) (a b:TCT A1) (po:List (TCT A1)) (p:TCT cPt) (i:Int):List (TCT cPt)→Int→Option Int
 | [],_=>none
 | q::l,k=>bif lnB P a b p q&&!ctS po (i,k,p,(q.1,q.2.1,()),()) then some k else Ve P a b po p i l (k+1)
noncomputable def A8n (c:COp) (i0:Int) (la:List (TCT cPt)) (na ia:Int):Option Int→Bj Mg
 | some k=>Ah7 i0 k
 | none=>Ah6 c la na ia
def Ab9 (lb:List (TCT cPt)) (nb ib:Int):Bool:=decide (nb=(lb.length:Int)∧ib=0)&&decide (lb.length≤1000)
def Q5 (P:C2) (c:COp) (p:SKTs kP6) (i0:Int) (lb:List (TCT cPt)):Option Int:=Ve P (dA8 c.pr) (dB8 c.pr) c.po (Di p) i0 lb 0
noncomputable def A8o (P:C2) (c:COp) (p:SKTs kP6) (i0:Int) (la:List (TCT cPt)) (na ia:Int) (lb:List (TCT cPt)) (nb ib:Int):Tree (Bj Mg) :=
 .br (Ab9 lb nb ib) (.br (Q5 P c p i0 lb).isSome (.leaf (Ah7 i0 ((Q5 P c p i0 lb).getD 0))) (.leaf (Ah6 c la na ia))) .fail
noncomputable def Z6 (P:C2) (g:P8.T):Tree (Bj Mg):=A8o P (A64 g.2.1) g.2.1.2.2.2.2.2.2.1 g.1.2.2.1 g.1.2.2.2.2.1 g.1.2.2.2.2.2.1 g.1.2.2.2.2.2.2.1 g.1.2.2.2.2.2.2.2.1 g.1.2.2.2.2.2.2.2.2.1 g.1.2.2.2.2.2.2.2.2.2.1
theorem A8p {P:C2} {c:COp} {p:SKTs kP6} {i0:Int} {la:List (TCT cPt)} {na ia:Int} {lb:List (TCT cPt)} {R:Bj Mg→Prop} (hb:lb.length≤1000):∀ (n i:Nat),i+n=lb.length →
  R (A8n c i0 la na ia (Ve P (dA8 c.pr) (dB8 c.pr) c.po (Di p) i0 (lb.drop i) (i:Int)))→Hl P8 Mg (A36 P) R (n+1) (A8l c p i0 la na ia lb lb.length (i:Int))
 | 0,i,hn,hr=>by
  intro _
  have e:i=lb.length:=by omega
  subst e
  show (A35 P c p i0 la na ia lb lb.length (lb.length:Int)).sat _
  unfold A35
  rw [decide_eq_false (Int.lt_irrefl _),cond_false]
  refine ⟨Bp _,fun _=>?_⟩
  rw [List.drop_length] at hr
  exact hr
 | n+1,i,hn,hr=>by
  intro _
  have hi:i<lb.length:=by omega
  show (A35 P c p i0 la na ia lb lb.length (i:Int)).sat _
  unfold A35
  rw [decide_eq_true (show (i:Int)<(lb.length:Int) by omega),decide_eq_true (show 0≤(i:Int)∧(i:Int)<(lb.length:Int) by omega),cond_true,cond_true,show Int.toNat (i:Int)=i by omega,Cl hi]
  have hd:lb.drop i=lb[i]::lb.drop (i+1):=List.drop_eq_getElem_cons hi
  rw [hd] at hr
  have go:R (A8n c i0 la na ia (Ve P (dA8 c.pr) (dB8 c.pr) c.po (Di p) i0 (lb.drop (i+1)) ((i+1:Nat):Int)))→(A8m c p i0 la na ia lb lb.length (i:Int)).sat (fun x=>match x with | .inl g'=>Hl P8 Mg (A36 P) R (n+1) g' | .inr x=>(Mg x.1).WF x.2→R x):=by
   intro h2
   refine ⟨Bp _,?_⟩
   show Hl P8 Mg (A36 P) R (n+1) (A8l c p i0 la na ia lb lb.length (W64 ((i:Int)+1)))
   rw [C6 (n:=(i:Int)+1) (by omega) (by omega)]
   exact A8p hb n (i+1) (by omega) h2
  unfold Amy
  have hr:R (A8n c i0 la na ia (bif lnB P (dA8 c.pr) (dB8 c.pr) (Di p) lb[i]&&!ctS c.po (i0,(i:Int),Di p,(lb[i].1,lb[i].2.1,()),()) then some (i:Int) else Ve P (dA8 c.pr) (dB8 c.pr) c.po (Di p) i0 (lb.drop (i+1)) ((i:Int)+1))):=hr
  unfold lnB at hr
  cases h1:(P (Di p) lb[i] (dA8 c.pr)).1 with
  | true =>
   rw [h1] at hr
   exact go hr
  | false =>
   rw [h1] at hr
   cases h2:(P (Di p) lb[i] (dB8 c.pr)).1 with
   | true =>
    rw [h2] at hr
    exact go hr
   | false =>
    rw [h2] at hr
    simp only [Bool.not_false,cond_true,Bool.true_and] at hr ⊢
    cases h3:ctS c.po (i0,(i:Int),Di p,(lb[i].1,lb[i].2.1,()),()) with
    | true =>
     rw [h3] at hr
     exact go hr
    | false =>
     rw [h3] at hr
     exact ⟨Bp _,fun _=>hr⟩
def Jm:Un:=fun l=>(Il l,D2 l)
theorem Apo:A5 Tryz.prog 101 (Ah5 Jm):=Aj8
theorem puOp:Ca Tryz.prog (plOp Br Bg Jm):=puOk_cons is_Posts.plain Apo (puOk_cons is_cfSeg.plain Alj (puOk_cons is_ixSeg.plain A8a puDi))
theorem A37:CtxOk (Up Br Bg Jm):=Aj Ak puOp A8k
theorem Auq:As Tryz.prog 100 Uk (Dc P8 Mg (Z6 Br)):=by
 refine Gx A37 9 _ (fun _=>none) (fun _ _ f h=>by simp at h) P8 Mg (fun e=>by cases e <;> exact Nat.le_refl _) (Z6 Br) (A36 Br) (Aup Br Bg Jm) ?_
 intro g R _ hf
 unfold Z6 A8o at hf
 generalize hlb:(g.1.2.2.2.2.2.2.2.1:List (TCT cPt))=lb at hf
 obtain ⟨hf,h0⟩:=hf
 cases hc:Ab9 lb g.1.2.2.2.2.2.2.2.2.1 g.1.2.2.2.2.2.2.2.2.2.1 with
 | false=>exact (h0 hc).elim
 | true =>
  obtain ⟨h1,h2⟩:=hf hc
  unfold Ab9 at hc
  rw [Bool.and_eq_true,decide_eq_true_eq,decide_eq_true_eq] at hc
  obtain ⟨⟨k1,k2⟩,k3⟩:=hc
  have hr:R (A8n (A64 g.2.1) g.1.2.2.1 g.1.2.2.2.2.1 g.1.2.2.2.2.2.1 g.1.2.2.2.2.2.2.1 (Q5 Br (A64 g.2.1) g.2.1.2.2.2.2.2.2.1 g.1.2.2.1 lb)):=by
   cases hz:Q5 Br (A64 g.2.1) g.2.1.2.2.2.2.2.2.1 g.1.2.2.1 lb with
   | none=>rw [hz] at h2;exact h2 rfl
   | some k=>rw [hz] at h1;exact h1 rfl
  have:=A8p (P:=Br) (c:=A64 g.2.1) (p:=g.2.1.2.2.2.2.2.2.1) (i0:=g.1.2.2.1) (la:=g.1.2.2.2.2.1) (na:=g.1.2.2.2.2.2.1) (ia:=g.1.2.2.2.2.2.2.1) (lb:=lb) (R:=R) k3 _ 0 (Nat.zero_add _) (by rw [List.drop_zero];exact hr)
  refine ⟨lb.length+1,?_⟩
  have e:A8l (A64 g.2.1) g.2.1.2.2.2.2.2.2.1 g.1.2.2.1 g.1.2.2.2.2.1 g.1.2.2.2.2.2.1 g.1.2.2.2.2.2.2.1 lb (lb.length:Int) (((0:Nat)):Int)=g:=by
   rw [← k1,← hlb]
   have k2':(((0:Nat)):Int)=g.1.2.2.2.2.2.2.2.2.2.1:=k2.symm
   rw [k2']
   rfl
  rw [← e]
  exact this
noncomputable def A8q (c:COp) (la:List (TCT cPt)) (na ia:Int):Qe.T:=(((),(),la,na,ia,()),((c.x,()),(c.y,()),(c.e,()),c.pr,(c.po,()),((),()),()),Apn)
noncomputable def Ah8 (c:COp):Bj P7:=⟨.exit 0,((),((c.x,()),(c.y,()),(c.e,()),()),Asm)⟩
noncomputable def Ah9 (i k:Int):Bj P7:=⟨.ret,((),((i,()),(k,()),(0,()),()),Amx)⟩
abbrev TOo:=Tree (Qe.T⊕Bj P7)
noncomputable def Asn (P:C2) (c:COp) (la:List (TCT cPt)) (na ia:Int) (p:TCT cPt):TOo :=
 .need (E2 [Uo]) (bif Ab9 (lB8 c.pr) ((lB8 c.pr).length:Int) 0 then bif (Q5 P c (p.1,p.2.1,()) ia (lB8 c.pr)).isSome then .need (E2 [Ww]) (.leaf (.inr (Ah9 ia ((Q5 P c (p.1,p.2.1,()) ia (lB8 c.pr)).getD 0)))) else .need (E2 [Uo]) (.leaf (.inl (A8q c la na (W64 (ia+1))))) else .fail)
noncomputable def A38 (P:C2) (c:COp) (la:List (TCT cPt)) (na ia:Int):TOo :=
 bif decide (ia<na) then bif decide (0≤ia∧ia<(la.length:Int)) then Asn P c la na ia (Ar la (Int.toNat ia) (Ap cPt)) else .fail else .need (E2 [A34]) (.leaf (.inr (Ah8 c)))
noncomputable def A8r (P:C2) (g:Qe.T):TOo:=A38 P (cop g.2.1) g.1.2.2.1 g.1.2.2.2.1 g.1.2.2.2.2.1
noncomputable def Amz (P:C2):Je:=fun k=>bif Nat.beq k 4 then some (Dc P8 Mg (Z6 P)) else none
theorem Aur (P:C2) (R:F6) (O:Un) (g:Qe.T):evC Tryz.prog (D7 (Up P R O) 9) (Up P R O).pures 100 (Up P R O).u (Amz P) Nv (Qe.of g) (E3 Qe P7)=A8r P g:=by kernel_rfl
end V
end Go.Proofs.YtlangijnealfjaaGreat
namespace Go.Proofs.YtlangijnealfjaaGreat
open Go.RowKit
namespace V
open St
def Uq (P:C2) (a b:TCT A1) (po:List (TCT A1)) (lb:List (TCT cPt)):List (TCT cPt)→Int→Option (Int×Int)
 | [],_=>none
 | p::l,i=>match Ve P a b po (p.1,p.2.1,()) i lb 0 with
  | some k=>some (i,k)
  | none=>Uq P a b po lb l (i+1)
noncomputable def Aha (c:COp):Option (Int×Int)→Bj P7
 | some x=>Ah9 x.1 x.2
 | none=>Ah8 c
def Aba (la lb:List (TCT cPt)) (na ia:Int):Bool:=decide (na=(la.length:Int)∧ia=0)&&decide (la.length≤100∧lb.length≤100)
def Nw (P:C2) (c:COp) (la:List (TCT cPt)):Option (Int×Int):=Uq P (dA8 c.pr) (dB8 c.pr) c.po (lB8 c.pr) la 0
noncomputable def A8s (P:C2) (c:COp) (la:List (TCT cPt)) (na ia:Int):Tree (Bj P7) :=
 .br (Aba la (lB8 c.pr) na ia) (.br (Nw P c la).isSome (.leaf (Ah9 ((Nw P c la).getD (0,0)).1 ((Nw P c la).getD (0,0)).2)) (.leaf (Ah8 c))) .fail
noncomputable def Z7 (P:C2) (g:Qe.T):Tree (Bj P7):=A8s P (cop g.2.1) g.1.2.2.1 g.1.2.2.2.1 g.1.2.2.2.2.1
theorem A8t {P:C2} {c:COp} {la:List (TCT cPt)} {R:Bj P7→Prop} (hb:(lB8 c.pr).length≤100) (ha:la.length≤100):∀ (n i:Nat),i+n=la.length →
  R (Aha c (Uq P (dA8 c.pr) (dB8 c.pr) c.po (lB8 c.pr) (la.drop i) (i:Int)))→Hl Qe P7 (A8r P) R (n+1) (A8q c la la.length (i:Int))
 | 0,i,hn,hr=>by
  intro _
  have e:i=la.length:=by omega
  subst e
  show (A38 P c la la.length (la.length:Int)).sat _
  unfold A38
  rw [decide_eq_false (Int.lt_irrefl _),cond_false]
  refine ⟨Bp _,fun _=>?_⟩
  rw [List.drop_length] at hr
  exact hr
 | n+1,i,hn,hr=>by
  intro _
  have hi:i<la.length:=by omega
  show (A38 P c la la.length (i:Int)).sat _
  unfold A38
  rw [decide_eq_true (show (i:Int)<(la.length:Int) by omega),decide_eq_true (show 0≤(i:Int)∧(i:Int)<(la.length:Int) by omega),cond_true,cond_true,show Int.toNat (i:Int)=i by omega,Cl hi]
  have hd:la.drop i=la[i]::la.drop (i+1):=List.drop_eq_getElem_cons hi
  rw [hd] at hr
  unfold Asn
  have hk:Ab9 (lB8 c.pr) ((lB8 c.pr).length:Int) 0=true:=by
   unfold Ab9
   rw [decide_eq_true (show ((lB8 c.pr).length:Int)=((lB8 c.pr).length:Int)∧(0:Int)=0 from ⟨rfl,rfl⟩),decide_eq_true (show (lB8 c.pr).length≤1000 by omega)];rfl
  rw [hk]
  refine ⟨Bp _,?_⟩
  have hr:R (Aha c (match Q5 P c (la[i].1,la[i].2.1,()) (i:Int) (lB8 c.pr) with | some k=>some ((i:Int),k) | none=>Uq P (dA8 c.pr) (dB8 c.pr) c.po (lB8 c.pr) (la.drop (i+1)) ((i:Int)+1))):=hr
  cases hz:Q5 P c (la[i].1,la[i].2.1,()) (i:Int) (lB8 c.pr) with
  | some k =>
   rw [hz] at hr
   exact ⟨Bp _,fun _=>hr⟩
  | none =>
   rw [hz] at hr
   refine ⟨Bp _,?_⟩
   show Hl Qe P7 (A8r P) R (n+1) (A8q c la la.length (W64 ((i:Int)+1)))
   rw [C6 (n:=(i:Int)+1) (by omega) (by omega)]
   exact A8t hb ha n (i+1) (by omega) hr
theorem Aus:As Tryz.prog 100 Nv (Dc Qe P7 (Z7 Br)):=by
 refine Gx A37 9 _ (Amz Br) (fun d hd f hf=>by
  rw [A31,List.mem_singleton] at hd
  subst hd
  rw [Z5] at hf
  cases hf
  exact Auq) Qe P7 (fun e=>by cases e <;> exact (by decide:(1000:Nat)≤2000)) (Z7 Br) (A8r Br) (Aur Br Bg Jm) ?_
 intro g R _ hf
 unfold Z7 A8s at hf
 obtain ⟨hf,h0⟩:=hf
 cases hc:Aba g.1.2.2.1 (lB8 (cop g.2.1).pr) g.1.2.2.2.1 g.1.2.2.2.2.1 with
 | false=>exact (h0 hc).elim
 | true =>
  obtain ⟨h1,h2⟩:=hf hc
  unfold Aba at hc
  rw [Bool.and_eq_true,decide_eq_true_eq,decide_eq_true_eq] at hc
  obtain ⟨⟨k1,k2⟩,k3,k4⟩:=hc
  have hr:R (Aha (cop g.2.1) (Nw Br (cop g.2.1) g.1.2.2.1)):=by
   cases hz:Nw Br (cop g.2.1) g.1.2.2.1 with
   | none=>rw [hz] at h2;exact h2 rfl
   | some k=>rw [hz] at h1;exact h1 rfl
  have:=A8t (P:=Br) (c:=cop g.2.1) (la:=g.1.2.2.1) (R:=R) k4 k3 _ 0 (Nat.zero_add _) (by rw [List.drop_zero];exact hr)
  refine ⟨(g.1.2.2.1:List (TCT cPt)).length+1,?_⟩
  have e:A8q (cop g.2.1) g.1.2.2.1 ((g.1.2.2.1:List (TCT cPt)).length:Int) (((0:Nat)):Int)=g:=by
   rw [← k1]
   have k2':(((0:Nat)):Int)=g.1.2.2.2.2.1:=k2.symm
   rw [k2']
   rfl
  rw [← e]
  exact this
noncomputable def An0 (P:C2) (R:F6) (O:Un):Ctx:=Fu Tryz.prog (plOp P R O) Apm [((100,1),Dc Qe P7 (Z7 P))]
theorem Alp:CtxOk (An0 Br Bg Jm):=Bt Ak puOp A8k (Bu (D9 (by kernel_rfl)) (Bu (D9 (by kernel_rfl)) (Bu (D9 (by kernel_rfl)) (Bu (D9 (by kernel_rfl)) (Bu (D9 (by kernel_rfl)) (Bu (Rm (f:=100) (fn:=Tryz.f100) (la:=Nv) (k:=1) (fun d hd hk=>by
 rw [A32,List.mem_cons,List.mem_singleton] at hd
 rcases hd with rfl | rfl
 ·rfl
 ·rw [Z5] at hk;cases hk) Aus _ (List.mem_singleton.2 rfl)) Ko))))))
abbrev A39:Type:=TCT Ao→TCT A1→TCT A1→Int×Int×Int
def P9 (P:C2) (R:F6) (O:Un):A39:=fun l a b=>bif (O l).2 != 0 then (0,0,(O l).2) else bif Ab8 R a b then (0,0,2) else
 match Uq P a b (O l).1 (R b).1 (R a).1 0 with
 | some x=>(x.1,x.2,0)
 | none=>(0,0,19)
abbrev Ahb (D:A39):PureT:=B9 [Ao,A1,A1] [cI,cI,cI] (fun x=>decide ((x.1.1.size:Int)≤Au .i64)) (fun x=>((D x.1 x.2.1 x.2.2.1).1,(D x.1 x.2.1 x.2.2.1).2.1,(D x.1 x.2.1 x.2.2.1).2.2,()))
abbrev TOp:=Tree (TCTs [cI,cI,cI])
def erO (e:Int):TOp:=.leaf (0,0,e,())
def prO (a b:TCT A1) (ra rb:List (TCT cPt)):SKTs kPr:=(a.1.1,a.1.2.1,a.2.1,b.1.1,b.1.2.1,b.2.1,ra,rb,())
noncomputable def Ahc (P:C2) (c:COp) (la:List (TCT cPt)):TOp :=
 .need (E2 [Uo]) (bif Aba la (lB8 c.pr) (la.length:Int) 0 then bif (Nw P c la).isSome then .leaf (((Nw P c la).getD (0,0)).1,((Nw P c la).getD (0,0)).2,0,()) else erO 19 else .fail)
noncomputable def Alq (P:C2) (R:F6) (O:Un) (l:TCT Ao) (a b:TCT A1):TOp:=szT l (bif (O l).2 != 0 then bif (O l).2 != 0 then erO (O l).2 else .fail else bif (R a).2 != 0 then erO 2 else bif (R b).2 != 0 then erO 2 else bif decide (a.2.1>16384) then erO 2 else bif decide (b.2.1>16384) then erO 2 else
 bif decide (Jp ((a.1.1,a.1.2.1,()),a.2.1,()) ((b.1.1,b.1.2.1,()),b.2.1,())<0) then erO 2 else Ahc P ⟨0,0,0,prO a b (R a).1 (R b).1,(O l).1⟩ (R a).1)
theorem Alr (P:C2) (R:F6) (O:Un) (x:TCTs [Ao,A1,A1]):D7 (An0 P R O) 10 (.fn 11) (D5 [Ao,A1,A1] x) Bz 0 (Ge Tryz.prog [cI,cI,cI])=Alq P R O x.1 x.2.1 x.2.2.1:=by kernel_rfl
theorem Als {P:C2} {R:F6} {O:Un} {l:TCT Ao} {a b:TCT A1} (hs:(l.1.size:Int)≤Au .i64) (h:∀ d,(R d).1.length≤100):(Alq P R O l a b).sat fun y=>y=((P9 P R O l a b).1,(P9 P R O l a b).2.1,(P9 P R O l a b).2.2,()):=by
 unfold Alq P9 Ab8
 rw [Dw hs]
 cases (O l).2 != 0 with
 | true=>exact rfl
 | false =>
  simp only [cond_false]
  cases (R a).2 != 0 with
  | true=>exact rfl
  | false =>
   cases (R b).2 != 0 with
   | true=>exact rfl
   | false =>
    cases decide (a.2.1>16384) with
    | true=>exact rfl
    | false =>
     cases decide (b.2.1>16384) with
     | true=>exact rfl
     | false =>
      simp only [cond_false,Bool.false_or]
      show (bif decide (Jp a b<0) then erO 2 else _:TOp).sat _
      cases decide (Jp a b<0) with
      | true=>exact rfl
      | false =>
       have ho:Aba (R a).1 (R b).1 ((R a).1.length:Int) 0=true:=by
        have h1:=h a
        have h2:=h b
        unfold Aba
        rw [decide_eq_true (show ((R a).1.length:Int)=((R a).1.length:Int)∧(0:Int)=0 from ⟨rfl,rfl⟩),decide_eq_true (show (R a).1.length≤100∧(R b).1.length≤100 from ⟨h1,h2⟩)];rfl
       show (Ahc P ⟨0,0,0,prO a b (R a).1 (R b).1,(O l).1⟩ (R a).1).sat _
       unfold Ahc
       rw [show lB8 (COp.mk 0 0 0 (prO a b (R a).1 (R b).1) (O l).1).pr=(R b).1 from rfl,ho]
       refine ⟨Bp _,?_⟩
       have e:Nw P ⟨0,0,0,prO a b (R a).1 (R b).1,(O l).1⟩ (R a).1=Uq P a b (O l).1 (R b).1 (R a).1 0:=rfl
       rw [e]
       cases Uq P a b (O l).1 (R b).1 (R a).1 0 <;> exact rfl
theorem App:A5 Tryz.prog 11 (Ahb (P9 Br Bg Jm)):=Bb Alp 10 (fun x=>Alq Br Bg Jm x.1 x.2.1 x.2.2.1) (Alr Br Bg Jm) fun _ hok _=>Als (of_decide_eq_true hok) A8j
end V
end Go.Proofs.YtlangijnealfjaaGreat
