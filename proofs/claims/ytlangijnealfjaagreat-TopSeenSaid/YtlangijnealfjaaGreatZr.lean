import Derived.Test.YtlangijnealfjaaGreatZo
import Derived.Test.YtlangijnealfjaaGreatZg
namespace Go.Proofs.YtlangijnealfjaaGreat
open Go.RowKit
namespace V
namespace Tp
open St
theorem Abz (p q:TCT cPt) (d:TCT A1):Ao q p d=Ao p q d:=by
 have h:=Rg.passF_swap ⟨p.1,p.2.1,q.1,q.2.1,false⟩ (Rg.RingR d.1.1 d.1.2.1 d.2.1).1
 have e:Rg.PassR (q,p,d,())=Rg.PassR (p,q,d,()):=by
  show (bif Rg.fp q&&Rg.fp p then bif (Rg.RingR d.1.1 d.1.2.1 d.2.1).2.1 != 0 then (false,(Rg.RingR d.1.1 d.1.2.1 d.2.1).2.1,()) else (Rg.passF (Rg.swp ⟨p.1,p.2.1,q.1,q.2.1,false⟩) (Rg.RingR d.1.1 d.1.2.1 d.2.1).1,0,()) else (false,2,()):Rg.RPass)=(bif Rg.fp p&&Rg.fp q then bif (Rg.RingR d.1.1 d.1.2.1 d.2.1).2.1 != 0 then (false,(Rg.RingR d.1.1 d.1.2.1 d.2.1).2.1,()) else (Rg.passF ⟨p.1,p.2.1,q.1,q.2.1,false⟩ (Rg.RingR d.1.1 d.1.2.1 d.2.1).1,0,()) else (false,2,()))
  rw [h,Bool.and_comm]
 unfold Ao
 rw [e]
theorem Aqa (a b:TCT A1) (p q:TCT cPt):lnB Ao b a q p=lnB Ao a b p q:=by
 unfold lnB
 rw [Abz p q b,Abz p q a,Bool.and_comm]
theorem ct_eq (po:List (TCT A1)) (i k j m:Int) (p q:TCT cPt):ctS po (i,k,p,q,())=ctS po (j,m,p,q,()):=rfl
theorem Aqb (po:List (TCT A1)) (i k:Int) (p q:TCT cPt):ctS po (i,k,q,p,())=ctS po (i,k,p,q,()):=by
 unfold ctS
 congr 1
 funext d
 show A8h (i,k,q,p,()) d=A8h (i,k,p,q,()) d
 unfold A8h
 rw [Al4]
theorem Al7 {d:TCT A1} (h:cdE d=0):(-4194304≤d.1.1∧d.1.1≤4194304 ∧ -4194304≤d.1.2.1∧d.1.2.1≤4194304)∧1≤d.2.1∧d.2.1≤65536:=by
 have h:(bif u_cdOk d.1.1 d.1.2.1 d.2.1 then 0 else 2:Int)=0:=h
 cases hc:u_cdOk d.1.1 d.1.2.1 d.2.1 with
 | false=>rw [hc] at h;cases h
 | true =>
  unfold u_cdOk at hc
  rw [Bool.and_eq_true,Bool.not_eq_true'] at hc
  exact ⟨of_decide_eq_true hc.1,A0j hc.2⟩
theorem Ac0 {x y:Int} (h1 : -4194304≤x) (h2:x≤4194304) (h3 : -4194304≤y) (h4:y≤4194304):W64 (x-y)*W64 (x-y)=W64 (y-x)*W64 (y-x):=by
 rw [B6 (n:=x-y) (by omega) (by omega),B6 (n:=y-x) (by omega) (by omega)]
 grind
theorem Aen (a b:TCT A1):Ex b a=Ex a b:=by
 unfold Ex
 rw [Bool.and_comm]
 cases hc:cdE a==0&&cdE b==0 with
 | false=>rfl
 | true =>
  rw [Bool.and_eq_true,beq_iff_eq,beq_iff_eq] at hc
  obtain ⟨⟨a1,a2,a3,a4⟩,_⟩:=Al7 hc.1
  obtain ⟨⟨b1,b2,b3,b4⟩,_⟩:=Al7 hc.2
  have h1:sqD b a=sqD a b:=by
   unfold sqD
   rw [Ac0 a1 a2 b1 b2,Ac0 a3 a4 b3 b4]
  have h2:srD b a=srD a b:=by
   unfold srD
   rw [Int.add_comm]
  rw [h1,h2]
theorem Z7 {P:Ax} {a b:TCT A1} {po:List (TCT A1)} {p:TCT cPt} {i r:Int}:∀ (l:List (TCT cPt)) (k:Int),Ou P a b po p i l k=some r→∃ m:Nat,m<l.length∧r=k+(m:Int)∧lnB P a b p (A7 l m (A5 cPt))=true∧ctS po (i,r,p,A7 l m (A5 cPt),())=false
 | [],_,h=>by cases h
 | q::l,k,h=>by
  have h:(bif lnB P a b p q&&!ctS po (i,k,p,(q.1,q.2.1,()),()) then some k else Ou P a b po p i l (k+1))=some r:=h
  cases hc:lnB P a b p q&&!ctS po (i,k,p,(q.1,q.2.1,()),()) with
  | true =>
   rw [hc] at h
   cases h
   rw [Bool.and_eq_true,Bool.not_eq_true'] at hc
   refine ⟨0,by rw [List.length_cons];omega,(Int.add_zero _).symm,by rw [B2];exact hc.1,by rw [B2];exact hc.2⟩
  | false =>
   rw [hc] at h
   obtain ⟨m,h1,h2,h3,h4⟩:=Z7 l (k+1) h
   refine ⟨m+1,by rw [List.length_cons];omega,by omega,by rw [B2] at h3 ⊢;exact h3,by rw [B2] at h4 ⊢;exact h4⟩
theorem Qi {P:Ax} {a b:TCT A1} {po:List (TCT A1)} {lb:List (TCT cPt)} {r:Int×Int}:∀ (l:List (TCT cPt)) (i:Int),Iv P a b po lb l i=some r→∃ j m:Nat,j<l.length∧m<lb.length∧r=(i+(j:Int),(m:Int))∧lnB P a b (A7 l j (A5 cPt)) (A7 lb m (A5 cPt))=true∧ctS po (0,0,A7 l j (A5 cPt),A7 lb m (A5 cPt),())=false
 | [],_,h=>by cases h
 | p::l,i,h=>by
  have h:(match Ou P a b po (p.1,p.2.1,()) i lb 0 with | some k=>some (i,k) | none=>Iv P a b po lb l (i+1))=some r:=h
  cases hc:Ou P a b po (p.1,p.2.1,()) i lb 0 with
  | some k =>
   rw [hc] at h
   cases h
   obtain ⟨m,h1,h2,h3,h4⟩:=Z7 lb 0 hc
   refine ⟨0,m,by rw [List.length_cons];omega,h1,by rw [h2,Int.zero_add];exact congrArg (fun x=>(x,(m:Int))) (Int.add_zero i).symm,by rw [B2 (l:=p::l)];exact h3,by rw [B2 (l:=p::l)];exact h4⟩
  | none =>
   rw [hc] at h
   obtain ⟨j,m,h1,h2,h3,h4,h5⟩:=Qi l (i+1) h
   refine ⟨j+1,m,by rw [List.length_cons];omega,h2,by rw [h3,show i+1+(j:Int)=i+((j+1:Nat):Int) by omega],by rw [B2 (l:=l)] at h4;rw [B2 (l:=p::l)];exact h4,by rw [B2 (l:=l)] at h5;rw [B2 (l:=p::l)];exact h5⟩
def Wa (a b:TCT A1) (po:List (TCT A1)) (la lb:List (TCT cPt)):Prop:=∀ j m:Nat,j<la.length→m<lb.length→lnB Ao a b (A7 la j (A5 cPt)) (A7 lb m (A5 cPt))=true→ctS po (0,0,A7 la j (A5 cPt),A7 lb m (A5 cPt),())=true
theorem Qj {a b:TCT A1} {po:List (TCT A1)} {la lb:List (TCT cPt)} (h:Iv Ao a b po lb la 0=none):Wa a b po la lb:=fun j m h1 h2 h3=>Qe la 0 h j m h1 h2 h3
theorem Na {a b:TCT A1} {po:List (TCT A1)} {la lb:List (TCT cPt)} {r:Int×Int} (h:Iv Ao a b po lb la 0=some r):¬ Wa a b po la lb:=fun k=>by
 obtain ⟨j,m,h1,h2,_,h4,h5⟩:=Qi la 0 h
 rw [k j m h1 h2 h4] at h5
 cases h5
theorem Rn {a b:TCT A1} {po:List (TCT A1)} {la lb:List (TCT cPt)} (h:Wa a b po la lb):Wa b a po lb la:=fun j m h1 h2 h3=>by
 rw [Aqa] at h3
 rw [Aqb]
 exact h m j h2 h1 h3
def P2 (P:Ax) (a b:TCT A1) (po:List (TCT A1)) (p:TCT cPt) (i:Int):List (TCT cPt)→Int→List Int
 | [],_=>[]
 | q::l,k=>bif lnB P a b p q then ixS po (i,k,p,(q.1,q.2.1,()),())::P2 P a b po p i l (k+1) else P2 P a b po p i l (k+1)
def Qk (P:Ax) (a b:TCT A1) (po:List (TCT A1)) (lb:List (TCT cPt)):List (TCT cPt)→Int→List Int
 | [],_=>[]
 | p::l,i=>P2 P a b po (p.1,p.2.1,()) i lb 0++Qk P a b po lb l (i+1)
theorem Al8 {po:List (TCT A1)} {s:TCT A8g}:decide (ixS po s<0)=!ctS po s:=by
 unfold ixS ctS
 cases po.any (Cx (s,())) with
 | true =>
  rw [cond_true]
  exact decide_eq_false (by omega)
 | false=>rfl
theorem A60 {P:Ax} {a b:TCT A1} {po:List (TCT A1)} {p:TCT cPt} {i:Int}:∀ (l:List (TCT cPt)) (k:Int) (o:List Int),(∀ m:Nat,m<l.length→lnB P a b p (A7 l m (A5 cPt))=true→ctS po (0,0,p,A7 l m (A5 cPt),())=true) →
  Iw P a b po p i l k o=some (o++P2 P a b po p i l k)
 | [],_,o,_=>by show some o=some (o++[]);rw [List.append_nil]
 | q::l,k,o,h=>by
  show (bif lnB P a b p q then bif decide (ixS po (i,k,p,(q.1,q.2.1,()),())<0) then none else Iw P a b po p i l (k+1) (o++[ixS po (i,k,p,(q.1,q.2.1,()),())]) else Iw P a b po p i l (k+1) o)=some (o++(bif lnB P a b p q then ixS po (i,k,p,(q.1,q.2.1,()),())::P2 P a b po p i l (k+1) else P2 P a b po p i l (k+1)))
  have ih:=A60 (P:=P) (a:=a) (b:=b) (po:=po) (p:=p) (i:=i) l (k+1)
  have ht:∀ m:Nat,m<l.length→lnB P a b p (A7 l m (A5 cPt))=true→ctS po (0,0,p,A7 l m (A5 cPt),())=true:=fun m hm=>by
   have:=h (m+1) (by rw [List.length_cons];omega)
   rw [B2 (l:=q::l)] at this
   rw [B2 (l:=l)]
   exact this
  cases hl:lnB P a b p q with
  | false=>exact ih o ht
  | true =>
   have h0:=h 0 (by rw [List.length_cons];omega)
   rw [B2 (l:=q::l)] at h0
   have h0:ctS po (i,k,p,(q.1,q.2.1,()),())=true:=h0 hl
   rw [cond_true,cond_true,Al8,h0,Bool.not_true,cond_false,ih _ ht,List.append_assoc]
   rfl
theorem A61 {P:Ax} {a b:TCT A1} {po:List (TCT A1)} {lb:List (TCT cPt)}:∀ (l:List (TCT cPt)) (i:Int) (o:List Int),(∀ j m:Nat,j<l.length→m<lb.length→lnB P a b (A7 l j (A5 cPt)) (A7 lb m (A5 cPt))=true→ctS po (0,0,A7 l j (A5 cPt),A7 lb m (A5 cPt),())=true) →
  P1 P a b po lb l i o=some (o++Qk P a b po lb l i)
 | [],_,o,_=>by show some o=some (o++[]);rw [List.append_nil]
 | p::l,i,o,h=>by
  show (match Iw P a b po (p.1,p.2.1,()) i lb 0 o with | some o'=>P1 P a b po lb l (i+1) o' | none=>none)=some (o++(P2 P a b po (p.1,p.2.1,()) i lb 0++Qk P a b po lb l (i+1)))
  rw [A60 lb 0 o (fun m hm hl=>by
   have:=h 0 m (by rw [List.length_cons];omega) hm
   rw [B2 (l:=p::l)] at this
   exact this hl)]
  show P1 P a b po lb l (i+1) (o++P2 P a b po (p.1,p.2.1,()) i lb 0)=_
  rw [A61 l (i+1) _ (fun j m hj hm hl=>by
   have:=h (j+1) m (by rw [List.length_cons];omega) hm
   rw [B2 (l:=p::l)] at this
   rw [B2 (l:=l)] at hl ⊢
   exact this hl),List.append_assoc]
theorem Wb {P:Ax} {a b:TCT A1} {po:List (TCT A1)} {p:TCT cPt} {i:Int}:∀ (l:List (TCT cPt)) (k:Int) (o o':List Int),Iw P a b po p i l k o=some o'→∀ m:Nat,m<l.length→lnB P a b p (A7 l m (A5 cPt))=true→ctS po (0,0,p,A7 l m (A5 cPt),())=true
 | [],_,_,_,_,m,hm,_=>absurd hm (Nat.not_lt_zero _)
 | q::l,k,o,o',h,m,hm,hl=>by
  have h:(bif lnB P a b p q then bif decide (ixS po (i,k,p,(q.1,q.2.1,()),())<0) then none else Iw P a b po p i l (k+1) (o++[ixS po (i,k,p,(q.1,q.2.1,()),())]) else Iw P a b po p i l (k+1) o)=some o':=h
  rw [List.length_cons] at hm
  cases m with
  | zero =>
   rw [B2 (l:=q::l)] at hl ⊢
   have hl:lnB P a b p q=true:=hl
   rw [hl,cond_true,Al8] at h
   cases hc:ctS po (i,k,p,(q.1,q.2.1,()),()) with
   | true=>exact hc
   | false=>rw [hc] at h;cases h
  | succ m =>
   rw [B2 (l:=q::l)] at hl ⊢
   have hl:lnB P a b p (l.getD m (A5 cPt))=true:=hl
   show ctS po (0,0,p,l.getD m (A5 cPt),())=true
   rw [← B2 (l:=l)] at hl ⊢
   cases h1:lnB P a b p q with
   | false=>rw [h1] at h;exact Wb l _ _ _ h m (by omega) hl
   | true =>
    rw [h1,cond_true] at h
    cases h2:decide (ixS po (i,k,p,(q.1,q.2.1,()),())<0) with
    | true=>rw [h2] at h;cases h
    | false=>rw [h2] at h;exact Wb l _ _ _ h m (by omega) hl
theorem A62 {P:Ax} {a b:TCT A1} {po:List (TCT A1)} {lb:List (TCT cPt)}:∀ (l:List (TCT cPt)) (i:Int) (o o':List Int),P1 P a b po lb l i o=some o'→∀ j m:Nat,j<l.length→m<lb.length→lnB P a b (A7 l j (A5 cPt)) (A7 lb m (A5 cPt))=true→ctS po (0,0,A7 l j (A5 cPt),A7 lb m (A5 cPt),())=true
 | [],_,_,_,_,j,_,hj,_,_=>absurd hj (Nat.not_lt_zero _)
 | p::l,i,o,o',h,j,m,hj,hm,hl=>by
  have h:(match Iw P a b po (p.1,p.2.1,()) i lb 0 o with | some o1=>P1 P a b po lb l (i+1) o1 | none=>none)=some o':=h
  rw [List.length_cons] at hj
  cases hc:Iw P a b po (p.1,p.2.1,()) i lb 0 o with
  | none=>rw [hc] at h;cases h
  | some o1 =>
   rw [hc] at h
   cases j with
   | zero =>
    rw [B2 (l:=p::l)] at hl ⊢
    exact Wb lb 0 _ _ hc m hm hl
   | succ j =>
    rw [B2 (l:=p::l)] at hl ⊢
    have hl:lnB P a b (l.getD j (A5 cPt)) (A7 lb m (A5 cPt))=true:=hl
    show ctS po (0,0,l.getD j (A5 cPt),A7 lb m (A5 cPt),())=true
    rw [← B2 (l:=l)] at hl ⊢
    exact A62 l _ _ _ h j m (by omega) hm hl
theorem Ay3 {po:List (TCT A1)} {s:TCT A8g} (h:ctS po s=true):0≤ixS po s∧ixS po s<(po.length:Int)∧A8h s (A7 po (Int.toNat (ixS po s)) (A5 A1))=true:=by
 have h':po.any (Cx (s,()))=true:=h
 have hi:po.findIdx (Cx (s,()))<po.length:=List.findIdx_lt_length.2 (List.any_eq_true.1 h')
 have e:ixS po s=(po.findIdx (Cx (s,())):Int):=by unfold ixS;rw [h',cond_true]
 rw [e]
 refine ⟨by omega,by omega,?_⟩
 rw [show Int.toNat (po.findIdx (Cx (s,())):Int)=po.findIdx (Cx (s,())) by omega,C7 hi]
 exact List.findIdx_getElem (p:=Cx (s,())) (w:=hi)
theorem Auy:∀ t ∈ Rg.tab,(-4096≤t.1∧t.1≤4096) ∧ -4096≤t.2∧t.2≤4096:=by decide
theorem Aqc {n B:Int} (h1 : -(4096*B)≤n) (h2:n≤4096*B) : -B≤n.tdiv 4096∧n.tdiv 4096≤B:=by
 by_cases h:0≤n
 ·rw [Int.tdiv_eq_ediv_of_nonneg h]
  omega
 ·have e:n.tdiv 4096 = -((-n) / 4096):=by
   rw [← Int.tdiv_eq_ediv_of_nonneg (show 0 ≤ -n by omega),Int.neg_tdiv,Int.neg_neg]
  rw [e]
  omega
theorem Ac1 {x r t:Int} (x1 : -1000000≤x) (x2:x≤1000000) (r1:0≤r) (r2:r≤65536) (t1 : -4096≤t) (t2:t≤4096) : -4194304≤W64 (x+W64 ((W64 (r*t)).tdiv 4096))∧W64 (x+W64 ((W64 (r*t)).tdiv 4096))≤4194304:=by
 have hb:=De (a:=r) (b:=t) (A:=65536) (B:=4096) (by omega) r2 t1 t2
 rw [B6 (n:=r*t) (by omega) (by omega)]
 have hd : -65536≤(r*t).tdiv 4096∧(r*t).tdiv 4096≤65536:=Aqc (B:=65536) (by omega) (by omega)
 rw [B6 (n:=(r*t).tdiv 4096) (by omega) (by omega),B6 (n:=x+(r*t).tdiv 4096) (by omega) (by omega)]
 omega
theorem Al9 {d:TCT A1} (h:cdE d=0) (x1 : -1000000≤d.1.1) (x2:d.1.1≤1000000) (y1 : -1000000≤d.1.2.1) (y2:d.1.2.1≤1000000):(Al d).2=0:=by
 have hb:=(Al7 h).2
 show (Rg.RingR d.1.1 d.1.2.1 d.2.1).2.1=0
 unfold Rg.RingR
 rw [show K1 d.1.1 d.1.2.1 d.2.1=0 from h]
 have:(Rg.ringW d.1.1 d.1.2.1 d.2.1).all Rg.fp=true:=by
  rw [List.all_eq_true]
  intro p hp
  obtain ⟨t,ht,rfl⟩:=List.mem_map.1 hp
  obtain ⟨⟨t1,t2⟩,t3,t4⟩:=Auy t ht
  have c1:=Ac1 x1 x2 (Int.le_trans (by decide) hb.1) hb.2 t1 t2
  have c2:=Ac1 y1 y2 (Int.le_trans (by decide) hb.1) hb.2 t3 t4
  exact decide_eq_true ⟨c1.1,c1.2,c2.1,c2.2⟩
 rw [this];rfl
end Tp
end V
end Go.Proofs.YtlangijnealfjaaGreat
namespace Go.Proofs.YtlangijnealfjaaGreat
open Go.RowKit
namespace V
namespace Tp
open St
noncomputable def A8t:Code:=(Ah (bodyOf Tryz.f4)).getD 0 .skip
noncomputable def A1q:Code:=(Ah (bodyOf Tryz.f4)).getD 1 .skip
noncomputable def Wc:Code:=(Ah (bodyOf Tryz.f4)).getD 2 .skip
abbrev kD9:List SK:=[.d cI,.d cI,.d cI]
def Lb:Lay:={ keys:=[9,10,11,17,18,20,21,26,27],ks:=[.p 6 0 0 0,.p 15 0 0 0,.p 25 0 0 0,.d (.sl cPt),.d (.sl cPt),.d cI,.d cI,.d (.sl A1),.d cI],bs:=[(6,33,kLw),(15,30,kD9),(25,30,kD9)],n:=371,nx:=1000,marks:=[] }
def As1:Lay:={ keys:=[9,10,11,17,18,20,21],ks:=[.p 6 0 0 0,.p 15 0 0 0,.p 25 0 0 0,.d (.sl cPt),.d (.sl cPt),.d cI,.d cI],bs:=[(6,33,kLw),(15,30,kD9),(25,30,kD9)],n:=371,nx:=1000,marks:=[] }
def Auz:Lay:={ keys:=[8],ks:=[.d .b],bs:=[],n:=371,nx:=1000,marks:=[] }
def Ro:XE→Lay:=fun e=>match e with | .ret=>Auz | _=>As1
abbrev cS0:=Lb.T⊕A4 Ro
structure QS0 where
 w:SKTs kLw
 a:SKTs kD9
 b:SKTs kD9
 p:List (TCT cPt)
 q:List (TCT cPt)
 i:Int
 k:Int
noncomputable def A1r (c:QS0) (po:List (TCT A1)) (m:Int):Lb.T:=(((),(),(),c.p,c.q,c.i,c.k,po,m,()),(c.w,c.a,c.b,()))
noncomputable def Ala (c:QS0):A4 Ro:=⟨.exit 0,(((),(),(),c.p,c.q,c.i,c.k,()),(c.w,c.a,c.b,()))⟩
def Alb (b:Bool):A4 Ro:=⟨.ret,((b,()),())⟩
noncomputable def Av0 (c:QS0) (po:List (TCT A1)) (m:Int) (r:Bool×Int):Tree cS0 :=
 bif r.2 != 0 then .leaf (.inr (Alb false)) else bif r.1 then .leaf (.inr (Alb false)) else .leaf (.inl (A1r c po (W64 (m+1))))
noncomputable def Wd (C:Gu) (c:QS0) (po:List (TCT A1)) (m:Int):Tree cS0 :=
 bif decide (m<(po.length:Int)) then inN c.p.length c.i (inN c.q.length c.k (inN po.length m (Av0 c po m (C (A7 c.p (Int.toNat c.i) (A5 cPt)) (A7 c.q (Int.toNat c.k) (A5 cPt)) (A7 po (Int.toNat m) (A5 A1)))))) else .leaf (.inr (Ala c))
noncomputable def qs0 (g:Lb.T):QS0:=⟨g.2.1,g.2.2.1,g.2.2.2.1,g.1.2.2.2.1,g.1.2.2.2.2.1,g.1.2.2.2.2.2.1,g.1.2.2.2.2.2.2.1⟩
noncomputable def We (C:Gu) (g:Lb.T):Tree cS0:=Wd C (qs0 g) g.1.2.2.2.2.2.2.2.1 g.1.2.2.2.2.2.2.2.2.1
def A8u (g:Lb.T):Nat:=(g.1.2.2.2.2.2.2.2.1:List (TCT A1)).length+1
noncomputable def Mg (T:W8) (O:L9) (K:La) (R:Dg) (P:Ax) (C:Gu):Ctx:=ctx Tryz.prog (plSn T O K R P C) []
theorem Ay4 (T:W8) (O:L9) (K:La) (R:Dg) (P:Ax) (C:Gu) (g:Lb.T):evC Tryz.prog (Ck (Mg T O K R P C) 6) (Mg T O K R P C).pures 4 (Mg T O K R P C).u (fun _=>none) A8t (Lb.of g) (E4 Lb Ro)=We C g:=by kernel_rfl
abbrev Av1:List BK:=[(15,30,kD9),(25,30,kD9)]
def Lc:Lay:={ keys:=[10,11,17,18,26,36,37,38,39],ks:=[.p 15 0 0 0,.p 25 0 0 0,.d (.sl cPt),.d (.sl cPt),.d (.sl A1),.d (.sl cI),.d cI,.d cI,.d cI],bs:=Av1,n:=371,nx:=2000,marks:=[] }
def As2:Lay:={ keys:=[10,11,17,18,26,36,37,38],ks:=[.p 15 0 0 0,.p 25 0 0 0,.d (.sl cPt),.d (.sl cPt),.d (.sl A1),.d (.sl cI),.d cI,.d cI],bs:=Av1,n:=371,nx:=2000,marks:=[] }
def Alc:Lay:={ keys:=[8],ks:=[.d .b],bs:=[],n:=371,nx:=2000,marks:=[] }
def Rp:XE→Lay:=fun e=>match e with | .ret=>Alc | _=>As2
abbrev cS2:=Lc.T⊕A4 Rp
structure QS2 where
 a:SKTs kD9
 b:SKTs kD9
 p:List (TCT cPt)
 q:List (TCT cPt)
 po:List (TCT A1)
 pf:List Int
noncomputable def Ld (c:QS2) (t i k:Int):Lc.T:=(((),(),c.p,c.q,c.po,c.pf,t,i,k,()),(c.a,c.b,()))
noncomputable def Ald (c:QS2) (t i:Int):A4 Rp:=⟨.exit 4,(((),(),c.p,c.q,c.po,c.pf,t,i,()),(c.a,c.b,()))⟩
def Av2 (b:Bool):A4 Rp:=⟨.ret,((b,()),())⟩
def dsk (a:SKTs kD9):TCT A1:=((a.1,a.2.1,()),a.2.2.1,())
noncomputable def Jt (c:QS2) (t i k:Int):Tree cS2:=.leaf (.inl (Ld c t i (W64 (k+1))))
noncomputable def Nb:Tree cS2:=.leaf (.inr (Av2 false))
noncomputable def Av3 (c:QS2) (t i k:Int) (r:Bool×Int):Tree cS2 :=
 bif r.2 != 0 then Nb else bif !r.1 then Nb else Jt c (W64 (t+1)) i k
noncomputable def A8v (C:Gu) (c:QS2) (t i k:Int):Tree cS2 :=
 bif decide (t≥(c.pf.length:Int)) then Nb else inN c.pf.length t (bif decide (A7 c.pf (Int.toNat t) (A5 cI)<0) then Nb else inN c.pf.length t (bif decide (A7 c.pf (Int.toNat t) (A5 cI)≥(c.po.length:Int)) then Nb else
 inN c.p.length i (inN c.q.length k (inN c.pf.length t (inN c.po.length (A7 c.pf (Int.toNat t) (A5 cI)) (Av3 c t i k (C (A7 c.p (Int.toNat i) (A5 cPt)) (A7 c.q (Int.toNat k) (A5 cPt)) (A7 c.po (Int.toNat (A7 c.pf (Int.toNat t) (A5 cI))) (A5 A1)))))))))
noncomputable def Ale (C:Gu) (c:QS2) (t i k:Int) (x y:Bool×Int):Tree cS2 :=
 bif x.2 != 0 then Nb else bif y.2 != 0 then Nb else bif x.1 then Jt c t i k else bif y.1 then Jt c t i k else A8v C c t i k
noncomputable def Wg (P:Ax) (C:Gu) (c:QS2) (t i k:Int):Tree cS2 :=
 bif decide (k<16) then inN c.p.length i (inN c.q.length k (inN c.p.length i (inN c.q.length k (Ale C c t i k (P (A7 c.p (Int.toNat i) (A5 cPt)) (A7 c.q (Int.toNat k) (A5 cPt)) (dsk c.a)) (P (A7 c.p (Int.toNat i) (A5 cPt)) (A7 c.q (Int.toNat k) (A5 cPt)) (dsk c.b)))))) else .leaf (.inr (Ald c t i))
noncomputable def qs2 (g:Lc.T):QS2:=⟨g.2.1,g.2.2.1,g.1.2.2.1,g.1.2.2.2.1,g.1.2.2.2.2.1,g.1.2.2.2.2.2.1⟩
noncomputable def Nc (P:Ax) (C:Gu) (g:Lc.T):Tree cS2:=Wg P C (qs2 g) g.1.2.2.2.2.2.2.1 g.1.2.2.2.2.2.2.2.1 g.1.2.2.2.2.2.2.2.2.1
def A8w (g:Lc.T):Nat:=(g.1.2.2.2.1:List (TCT cPt)).length+1
theorem Ay5 (T:W8) (O:L9) (K:La) (R:Dg) (P:Ax) (C:Gu) (g:Lc.T):evC Tryz.prog (Ck (Mg T O K R P C) 6) (Mg T O K R P C).pures 4 (Mg T O K R P C).u (fun _=>none) Wc (Lc.of g) (E4 Lc Rp)=Nc P C g:=by kernel_rfl
def Le:Lay:={ keys:=[10,11,17,18,26,36,37,38],ks:=[.p 15 0 0 0,.p 25 0 0 0,.d (.sl cPt),.d (.sl cPt),.d (.sl A1),.d (.sl cI),.d cI,.d cI],bs:=Av1,n:=371,nx:=1000,marks:=[] }
def Ay6:Lay:={ keys:=[36,37],ks:=[.d (.sl cI),.d cI],bs:=[],n:=371,nx:=2000,marks:=[] }
def Rq:XE→Lay:=fun e=>match e with | .ret=>Alc | _=>Ay6
abbrev cS1:=Le.T⊕A4 Rq
noncomputable def Ql (c:QS2) (t i:Int):Le.T:=(((),(),c.p,c.q,c.po,c.pf,t,i,()),(c.a,c.b,()))
noncomputable def Alf (c:QS2) (t:Int):A4 Rq:=⟨.exit 2,((c.pf,t,()),())⟩
def Av4 (b:Bool):A4 Rq:=⟨.ret,((b,()),())⟩
noncomputable def Alg (P:Ax) (C:Gu):Ht:=fun k=>bif Nat.beq k 39 then some (Au Lc Rp (D5 [.ret,.exit 4] (Nc P C) A8w)) else none
noncomputable def Av5 (v:As2.T):Tree cS1:=.leaf (.inl (((),(),v.1.2.2.1,v.1.2.2.2.1,v.1.2.2.2.2.1,v.1.2.2.2.2.2.1,v.1.2.2.2.2.2.2.1,W64 (v.1.2.2.2.2.2.2.2.1+1),()),(v.2.1,v.2.2.1,())))
noncomputable def Ay7 (y:Option (A4 Rp)):Tree cS1:=bif isE .ret y then .leaf (.inr (Av4 (D4 .ret y).1.1)) else bif isE (.exit 4) y then Av5 (D4 (.exit 4) y) else .fail
noncomputable def Wh (P:Ax) (C:Gu) (c:QS2) (t i:Int):Tree cS1:=bif decide (i<16) then Ay7 (iter (Nc P C) (c.q.length+1) (Ld c t i 0)) else .leaf (.inr (Alf c t))
noncomputable def qs1 (g:Le.T):QS2:=⟨g.2.1,g.2.2.1,g.1.2.2.1,g.1.2.2.2.1,g.1.2.2.2.2.1,g.1.2.2.2.2.2.1⟩
noncomputable def Qm (P:Ax) (C:Gu) (g:Le.T):Tree cS1:=Wh P C (qs1 g) g.1.2.2.2.2.2.2.1 g.1.2.2.2.2.2.2.2.1
def A8x (g:Le.T):Nat:=(g.1.2.2.1:List (TCT cPt)).length+1
theorem Ay8 (T:W8) (O:L9) (K:La) (R:Dg) (P:Ax) (C:Gu) (g:Le.T):evC Tryz.prog (Ck (Mg T O K R P C) 6) (Mg T O K R P C).pures 4 (Mg T O K R P C).u (Alg P C) A1q (Le.of g) (E4 Le Rq)=Qm P C g:=by kernel_rfl
end Tp
end V
end Go.Proofs.YtlangijnealfjaaGreat
namespace Go.Proofs.YtlangijnealfjaaGreat
open Go.RowKit
namespace V
namespace Tp
open St
def E2 (t:Bool):List (TCT A1):=bif t then [((50000,36500,()),500,()),((50000,43500,()),500,()),((30000,96400,()),500,()),((30000,103600,()),500,()),((50000,100000,()),1200,())] else [((46500,40000,()),500,()),((53500,40000,()),500,()),((30000,96400,()),500,()),((30000,103600,()),500,()),((50000,100000,()),1200,())]
def kds (d:TCT A1):SKTs kD9:=(d.1.1,d.1.2.1,d.2.1,())
noncomputable def szW (w:SKTs kLw) (t:Tree Unit):Tree Unit:=bif decide (((Ey w).1.size:Int)≤Aw .i64) then t else .fail
noncomputable def A8y (X Y:Bool×Int) (k:List Int×Int):Tree Unit:=bif X.2==0 then bif Y.2==0 then bif !X.1 then bif !Y.1 then bif k.2==5 then X3 else .fail else .fail else .fail else .fail else .fail
noncomputable def A8z (K:La) (P:Ax) (w:SKTs kLw) (a b:SKTs kD9) (p q:List (TCT cPt)) (i k:Int):Tree Unit :=
 inN p.length i (inN q.length k (inN p.length i (inN q.length k (szW w (A8y (P (A7 p (Int.toNat i) (A5 cPt)) (A7 q (Int.toNat k) (A5 cPt)) (dsk a)) (P (A7 p (Int.toNat i) (A5 cPt)) (A7 q (Int.toNat k) (A5 cPt)) (dsk b)) (K (Ey w) (dsk a) (dsk b)))))))
noncomputable def Av6 (K:La) (P:Ax) (v:As1.T):Tree Unit:=A8z K P v.2.1 v.2.2.1 v.2.2.2.1 v.1.2.2.2.1 v.1.2.2.2.2.1 v.1.2.2.2.2.2.1 v.1.2.2.2.2.2.2.1
noncomputable def Ay9 (K:La) (P:Ax) (y:Option (A4 Ro)):Tree Unit:=bif isE .ret y then (bif (D4 .ret y).1.1 then X3 else .fail) else bif isE (.exit 0) y then Av6 K P (D4 (.exit 0) y) else .fail
noncomputable def Alh (K:La) (P:Ax) (C:Gu) (c:QS0) (po:List (TCT A1)):Tree Unit :=
 bif decide (c.i<0) then .fail else bif decide (c.i>15) then .fail else bif decide (c.k<0) then .fail else bif decide (c.k>15) then .fail else Ay9 K P (iter (We C) (po.length+1) (A1r c po 0))
noncomputable def Ali (y:Option (A4 Rq)):Tree Unit:=bif isE .ret y then (bif (D4 .ret y).1.1 then X3 else .fail) else bif isE (.exit 2) y then (bif (D4 (.exit 2) y).1.2.1==(((D4 (.exit 2) y).1.1:List Int).length:Int) then X3 else .fail) else .fail
noncomputable def Alj (P:Ax) (C:Gu) (g:Int) (k:List Int×Int) (a b:TCT A1) (p q:List (TCT cPt)) (po:List (TCT A1)):Tree Unit :=
 bif g != 19 then .fail else bif k.2 != 0 then .fail else Ali (iter (Qm P C) (p.length+1) (Ql ⟨kds a,kds b,p,q,po,k.1⟩ 0 0))
noncomputable def Alk (K:La) (P:Ax) (C:Gu) (t:Bool) (a b:TCT A1) (o:Int×Int×Int) (p q:List (TCT cPt)) (po:List (TCT A1)):Tree Unit :=
 bif o.2.2==0 then Alh K P C ⟨C0 (Cf t),kds a,kds b,p,q,o.1,o.2.1⟩ po else Alj P C o.2.2 (K (Cf t) a b) a b p q po
noncomputable def All (K:La) (P:Ax) (C:Gu) (t:Bool) (a b:TCT A1) (ra rb:List (TCT cPt)×Int) (o o2:Int×Int×Int):Tree Unit :=
 bif ra.2 != 0 then .fail else bif rb.2 != 0 then .fail else bif o.2.2 != o2.2.2 then .fail else bif (ra.1.length:Int)!=16 then .fail else bif (rb.1.length:Int)!=16 then .fail else
 bif t then Alk K P C t a b o ra.1 rb.1 (E2 true) else Alk K P C t a b o ra.1 rb.1 (E2 false)
noncomputable def Alm (e f:Int):Tree Unit:=bif e != 0 then X3 else bif f==2 then X3 else .fail
noncomputable def As3 (T:W8) (O:L9) (K:La) (R:Dg) (P:Ax) (C:Gu) (t:Bool) (a b:TCT A1):Tree Unit :=
 bif (T a b).2 != 0 then Alm (T a b).2 (O (Cf t) a b).2.2 else bif decide ((T a b).1<0) then Alm (T a b).2 (O (Cf t) a b).2.2 else All K P C t a b (R a) (R b) (O (Cf t) a b) (O (Cf t) b a)
noncomputable def Aqd (T:W8) (O:L9) (K:La) (R:Dg) (P:Ax) (C:Gu) (d t:TCT Dm) (r:TCT A8r) (b:Bool):Tree Unit:=As3 T O K R P C b (Ox 9000 d r.1) (Ox 9000 t r.2.1)
end Tp
open Tp
noncomputable def Wi (T:W8) (O:L9) (K:La) (R:Dg) (P:Ax) (C:Gu):Ctx:=F8 Tryz.prog (plSn T O K R P C) [(4,Tryz.f4),(8,Tryz.f8)] [((4,22),fun s=>Au Lb Ro (D5 [.ret,.exit 0] (We C) A8u) (fzT [26] (fzB 6 s))),((4,36),fun s=>Au Le Rq (D5 [.ret,.exit 2] (Qm P C) A8x) (fzT [26] s))]
theorem Aqe (T:W8) (O:L9) (K:La) (R:Dg) (P:Ax) (C:Gu) (y:TCTs cs_topSeen):Ck (Wi T O K R P C) 7 (.fn 4) (Cs cs_topSeen y) Bs 0 A4r=Aqd T O K R P C y.1 y.2.1 y.2.2.1 y.2.2.2.1:=by kernel_rfl
end V
end Go.Proofs.YtlangijnealfjaaGreat
