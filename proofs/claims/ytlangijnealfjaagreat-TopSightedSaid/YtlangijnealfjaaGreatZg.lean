import Derived.Test.YtlangijnealfjaaGreatXz
namespace Go.Proofs.YtlangijnealfjaaGreat
open Go.RowKit
namespace V
namespace Tp
open St
theorem Apw:∀ t:Bool,D2 (En t)=0
 | true=>by decide +kernel
 | false=>by decide +kernel
theorem Asq (t:Bool):((En t).1.size:Int)≤Au .i64:=by
 show ((nameG.size:Nat):Int)≤_
 decide
theorem A3f {P:C2} {a b:TCT A1} {p:TCT cPt} {i:Int} {x:TCT c2}:∀ (l:List (TCT cPt)) (k:Int),x ∈ Ia P a b p i l k→∃ m:Nat,m<l.length∧x.1=i∧x.2.1=k+(m:Int)∧lnB P a b p (Ar l m (Ap cPt))=true
 | [],_,h=>nomatch h
 | q::l,k,h=>by
  have h:x ∈ (bif lnB P a b p q then (i,k,())::Ia P a b p i l (k+1) else Ia P a b p i l (k+1)):=h
  have rest:x ∈ Ia P a b p i l (k+1)→∃ m:Nat,m<(q::l).length∧x.1=i∧x.2.1=k+(m:Int)∧lnB P a b p (Ar (q::l) m (Ap cPt))=true:=fun h=>by
   obtain ⟨m,h1,h2,h3,h4⟩:=A3f l (k+1) h
   have key:k+1+(m:Int)=k+((m+1:Nat):Int):=by omega
   refine ⟨m+1,by rw [List.length_cons];omega,h2,h3.trans key,?_⟩
   rw [Do] at h4 ⊢
   exact h4
  cases hb:lnB P a b p q with
  | true =>
   rw [hb,cond_true] at h
   rcases List.mem_cons.1 h with e | e
   ·subst e
    exact ⟨0,by rw [List.length_cons];omega,rfl,(Int.add_zero k).symm,by rw [Do];exact hb⟩
   ·exact rest e
  | false=>rw [hb,cond_false] at h;exact rest h
theorem A3g {P:C2} {a b:TCT A1} {lb:List (TCT cPt)} {x:TCT c2}:∀ (l:List (TCT cPt)) (i:Int),x ∈ Le P a b lb l i→∃ j m:Nat,j<l.length∧m<lb.length∧x.1=i+(j:Int)∧x.2.1=(m:Int)∧lnB P a b (Ar l j (Ap cPt)) (Ar lb m (Ap cPt))=true
 | [],_,h=>nomatch h
 | p::l,i,h=>by
  rcases List.mem_append.1 (show x ∈ Ia P a b (p.1,p.2.1,()) i lb 0++Le P a b lb l (i+1) from h) with e | e
  ·obtain ⟨m,h1,h2,h3,h4⟩:=A3f lb 0 e
   exact ⟨0,m,by rw [List.length_cons];omega,h1,h2.trans (Int.add_zero i).symm,h3.trans (Int.zero_add _),by rw [Do];exact h4⟩
  ·obtain ⟨j,m,h1,h2,h3,h4,h5⟩:=A3g l (i+1) e
   have key:i+1+(j:Int)=i+((j+1:Nat):Int):=by omega
   refine ⟨j+1,m,by rw [List.length_cons];omega,h2,h3.trans key,h4,?_⟩
   rw [Do] at h5 ⊢
   exact h5
theorem X1 {P:C2} {a b:TCT A1} {po:List (TCT A1)} {p:TCT cPt} {i:Int}:∀ (l:List (TCT cPt)) (k:Int),Ve P a b po p i l k=none→∀ m:Nat,m<l.length→lnB P a b p (Ar l m (Ap cPt))=true→ctS po (i,k+(m:Int),p,Ar l m (Ap cPt),())=true
 | [],_,_,m,hm,_=>absurd hm (Nat.not_lt_zero _)
 | q::l,k,h,m,hm,hb=>by
  have h:(bif lnB P a b p q&&!ctS po (i,k,p,(q.1,q.2.1,()),()) then some k else Ve P a b po p i l (k+1))=none:=h
  cases hc:lnB P a b p q&&!ctS po (i,k,p,(q.1,q.2.1,()),()) with
  | true=>rw [hc] at h;cases h
  | false =>
   rw [hc] at h
   cases m with
   | zero =>
    rw [Do] at hb ⊢
    have hb:lnB P a b p q=true:=hb
    rw [hb,Bool.true_and] at hc
    rw [show k+((0:Nat):Int)=k from Int.add_zero k]
    have:ctS po (i,k,p,q,())=true:=by
     cases e:ctS po (i,k,p,(q.1,q.2.1,()),()) with
     | true=>rfl
     | false=>rw [e] at hc;cases hc
    exact this
   | succ m =>
    rw [List.length_cons] at hm
    have:=X1 l (k+1) h m (by omega) (by rw [Do] at hb ⊢;exact hb)
    rw [Do] at this ⊢
    rw [show k+((m+1:Nat):Int)=k+1+(m:Int) by omega]
    exact this
theorem X2 {P:C2} {a b:TCT A1} {po:List (TCT A1)} {lb:List (TCT cPt)}:∀ (l:List (TCT cPt)) (i:Int),Uq P a b po lb l i=none→∀ j m:Nat,j<l.length→m<lb.length→lnB P a b (Ar l j (Ap cPt)) (Ar lb m (Ap cPt))=true→ctS po (i+(j:Int),(m:Int),Ar l j (Ap cPt),Ar lb m (Ap cPt),())=true
 | [],_,_,j,_,hj,_,_=>absurd hj (Nat.not_lt_zero _)
 | p::l,i,h,j,m,hj,hm,hb=>by
  have h:(match Ve P a b po (p.1,p.2.1,()) i lb 0 with | some k=>some (i,k) | none=>Uq P a b po lb l (i+1))=none:=h
  cases hc:Ve P a b po (p.1,p.2.1,()) i lb 0 with
  | some k=>rw [hc] at h;cases h
  | none =>
   rw [hc] at h
   cases j with
   | zero =>
    rw [Do (l:=p::l)] at hb ⊢
    have:=X1 lb 0 hc m hm hb
    rw [Int.zero_add] at this
    rw [show i+((0:Nat):Int)=i from Int.add_zero i]
    exact this
   | succ j =>
    rw [List.length_cons] at hj
    have:=X2 l (i+1) h j m (by omega) hm (by rw [Do (l:=p::l)] at hb;rw [Do (l:=l)];exact hb)
    rw [Do (l:=l)] at this
    rw [Do (l:=p::l),show i+((j+1:Nat):Int)=i+1+(j:Int) by omega]
    exact this
theorem Ut {x y:Int} (h:x≤y) (k:y.sign<0):x.sign<0:=by
 rw [Int.sign_neg_iff] at k ⊢
 omega
theorem Ahk {ax ay bx bY px py r s:Int} (h0:0≤r) (h1:r≤s) (h:LsV ax ay bx bY px py r<0):LsV ax ay bx bY px py s<0:=by
 have hq:=A0w h0 h1
 unfold LsV at h ⊢
 cases e1:decide (alg ax ay bx bY px py≤0) with
 | true=>rw [e1] at h;exact Ut (by omega) h
 | false =>
  rw [e1,cond_false] at h
  rw [cond_false]
  cases e2:decide (sq ax ay bx bY≤alg ax ay bx bY px py) with
  | true=>rw [e2] at h;exact Ut (by omega) h
  | false =>
   rw [e2,cond_false] at h
   rw [cond_false]
   have hn:0≤sq ax ay bx bY:=by
    unfold sq
    have:=Io (bx-ax)
    have:=Io (bY-ay)
    omega
   have:=Int.mul_le_mul_of_nonneg_right hq hn
   exact Ut (by omega) h
theorem Apx {p q:TCT cPt} {d:TCT A1} (h:(CtR p.1 p.2.1 q.1 q.2.1 d.1.1 d.1.2.1 d.2.1).1=true):iwD p q 1 d=true:=by
 unfold CtR at h
 cases hc:fpt p.1 p.2.1&&(fpt q.1 q.2.1&&Gr d.1.1 d.1.2.1 d.2.1) with
 | false=>rw [hc] at h;cases h
 | true =>
  rw [hc] at h
  have h:=of_decide_eq_true h
  rw [Bool.and_eq_true,Bool.and_eq_true] at hc
  obtain ⟨f1,f2,f3⟩:=hc
  unfold Gr at f3
  rw [Bool.and_eq_true,Bool.not_eq_true'] at f3
  have o:=A4j f3.2
  unfold iwD
  refine decide_eq_true ?_
  rw [C6 (n:=1+d.2.1) (by omega) (by omega)]
  have e:(LsR p.1 p.2.1 q.1 q.2.1 d.1.1 d.1.2.1 (1+d.2.1)).1=LsV p.1 p.2.1 q.1 q.2.1 d.1.1 d.1.2.1 (1+d.2.1):=by
   unfold LsR
   have:B7 (1+d.2.1) 0 8388608=false:=by unfold B7;rw [decide_eq_false (by omega),decide_eq_false (by omega)];rfl
   rw [f1,f2,f3.1,this];rfl
  rw [e]
  exact Ahk (by omega) (by omega) h
end Tp
end V
end Go.Proofs.YtlangijnealfjaaGreat
namespace Go.Proofs.YtlangijnealfjaaGreat
open Go.RowKit
namespace V
namespace Tp
open St
theorem A3h {p:TCT A1→Bool}:∀ (l:List (TCT A1)) (i:Int),(((iwF p l i).length:Int)==0)=(!l.any p)
 | [],_=>rfl
 | d::l,i=>by
  show (((bif p d then i::iwF p l (i+1) else iwF p l (i+1)).length:Int)==0)=(!(p d||l.any p))
  cases p d with
  | true =>
   simp only [cond_true,Bool.true_or,Bool.not_true,List.length_cons]
   exact beq_eq_false_iff_ne.2 (by omega)
  | false =>
   simp only [cond_false,Bool.false_or]
   exact A3h l (i+1)
theorem Ahl {d:TCT A1} (h:(Bg d).2=0):(Bg d).1.length=16∧∀ p ∈ (Bg d).1,fpt p.1 p.2.1=true:=by
 have h:(Rg.RingR d.1.1 d.1.2.1 d.2.1).2.1=0:=h
 show (Rg.RingR d.1.1 d.1.2.1 d.2.1).1.length=16∧∀ p ∈ (Rg.RingR d.1.1 d.1.2.1 d.2.1).1,fpt p.1 p.2.1=true
 unfold Rg.RingR at h ⊢
 cases h1:Jt d.1.1 d.1.2.1 d.2.1 != 0 with
 | true=>rw [h1] at h;cases h
 | false =>
  rw [h1] at h
  cases h2:(Rg.ringW d.1.1 d.1.2.1 d.2.1).all Rg.fp with
  | false=>rw [h2] at h;cases h
  | true=>exact ⟨Rg.ringW_len _ _ _,fun p hp=>List.all_eq_true.1 h2 p hp⟩
theorem iw9 {t:Bool} {p q:TCT cPt} (hp:fpt p.1 p.2.1=true) (hq:fpt q.1 q.2.1=true):(Gz (En t) p q 1 []).2=0∧(Gz (En t) p q 1 []).1=iwF (iwD p q 1) (B0 (En t)) 0:=by
 have e:Gk (En t) p q 1 []=0:=by
  unfold Gk
  rw [Apw t]
  show (bif u_ck p.1 p.2.1 != 0 then 2 else bif u_ck q.1 q.2.1 != 0 then 2 else cbE 1 []:Int)=0
  rw [A6v,A6v,hp,hq]
  decide
 refine ⟨e,?_⟩
 show Lp (En t) p q 1 []=_
 unfold Lp
 rw [e,List.append_nil];rfl
def GdL (t:Bool) (f:Int) (x y:List (TCT cPt)) (p:TCT c2):Prop :=
 ∃ j m:Nat,p.1=(j:Int)∧p.2.1=(m:Int)∧j<x.length∧m<y.length∧(Gz (En t) (Ar x j (Ap cPt)) (Ar y m (Ap cPt)) 1 []).2=0∧(f=19→((((Gz (En t) (Ar x j (Ap cPt)) (Ar y m (Ap cPt)) 1 []).1.length:Int)==0)=false))
theorem Apy {t:Bool} {ls:List (TCT c2)} {f:Int} {x y:List (TCT cPt)} {p:TCT c2} {n:Int} (h:GdL t f x y p):(A8v Gz ⟨C3 (En t),ls,f,x,y⟩ n p).run=some (.inl (Wx ⟨C3 (En t),ls,f,x,y⟩ (W64 (n+1)))):=by
 obtain ⟨j,m,h1,h2,h3,h4,h5,h6⟩:=h
 unfold A8v
 rw [h1,h2]
 show (bif decide ((j:Int)<0) then _ else bif decide ((j:Int)≥(x.length:Int)) then _ else bif decide ((m:Int)<0) then _ else bif decide ((m:Int)≥(y.length:Int)) then _ else inN x.length (j:Int) (inN y.length (m:Int) (bif decide (((Fo (C3 (En t))).1.size:Int)≤Au .i64) then Ahf ⟨C3 (En t),ls,f,x,y⟩ n (Gz (En t) (Ar x (Int.toNat (j:Int)) (Ap cPt)) (Ar y (Int.toNat (m:Int)) (Ap cPt)) 1 []) else .fail)):Tree cSi).run=_
 rw [decide_eq_false (show ¬ (j:Int)<0 by omega),decide_eq_false (show ¬ (j:Int)≥(x.length:Int) by omega),decide_eq_false (show ¬ (m:Int)<0 by omega),decide_eq_false (show ¬ (m:Int)≥(y.length:Int) by omega),Jr (by omega),Jr (by omega),decide_eq_true (show ((Fo (C3 (En t))).1.size:Int)≤Au .i64 from Asq t),show Int.toNat (j:Int)=j by omega,show Int.toNat (m:Int)=m by omega]
 simp only [cond_false,cond_true]
 generalize Gz (En t) (Ar x j (Ap cPt)) (Ar y m (Ap cPt)) 1 []=r at *
 unfold Ahf
 rw [h5]
 simp only [bne_self_eq_false,cond_false]
 cases hz:(r.1.length:Int)==0 with
 | false=>rfl
 | true =>
  cases hf:f==19 with
  | false=>rfl
  | true =>
   have:=h6 (beq_iff_eq.1 hf)
   rw [hz] at this
   cases this
theorem An1 {t:Bool} {ls:List (TCT c2)} {f:Int} {x y:List (TCT cPt)} (hl:ls.length≤100000) (h:∀ p ∈ ls,GdL t f x y p):∀ (k i m:Nat),i+k=ls.length→k+1≤m →
  iter (Wz Gz) m (Wx ⟨C3 (En t),ls,f,x,y⟩ (i:Int))=some A8u
 | k,i,0,_,hm=>by omega
 | 0,i,m+1,hk,_=>by
  have e:i=ls.length:=by omega
  subst e
  refine Ib ?_
  show (A3b Gz ⟨C3 (En t),ls,f,x,y⟩ (ls.length:Int)).run=_
  unfold A3b
  rw [decide_eq_false (Int.lt_irrefl _)]
  rfl
 | k+1,i,m+1,hk,hm=>by
  refine (Qw ?_).trans (An1 hl h k (i+1) m (by omega) (by omega))
  have hi:i<ls.length:=by omega
  show (A3b Gz ⟨C3 (En t),ls,f,x,y⟩ (i:Int)).run=_
  unfold A3b
  show (bif decide ((i:Int)<(ls.length:Int)) then inN ls.length (i:Int) (inN ls.length (i:Int) (A8v Gz ⟨C3 (En t),ls,f,x,y⟩ (i:Int) (Ar ls (Int.toNat (i:Int)) (Ap c2)))) else .leaf (.inr A8u):Tree cSi).run=_
  rw [decide_eq_true (show (i:Int)<(ls.length:Int) by omega),cond_true,Jr (by omega),Jr (by omega),show Int.toNat (i:Int)=i by omega,Apy (h _ (Nl hi _)),C6 (n:=(i:Int)+1) (by omega) (by omega)]
  rfl
theorem A3i {P:C2} {a b:TCT A1} {lb:List (TCT cPt)}:∀ (l:List (TCT cPt)) (i:Int),(Le P a b lb l i).length≤l.length*lb.length
 | [],_=>Nat.zero_le _
 | p::l,i=>by
  have h1:=Um (P:=P) (a:=a) (b:=b) (p:=(p.1,p.2.1,())) (i:=i) lb 0
  have h2:=A3i (P:=P) (a:=a) (b:=b) (lb:=lb) l (i+1)
  show (Ia P a b (p.1,p.2.1,()) i lb 0++Le P a b lb l (i+1)).length≤(l.length+1)*lb.length
  rw [List.length_append,Nat.add_mul,Nat.one_mul]
  omega
theorem Apz {d t:TCT Em} {r:TCT Apq} {b:Bool}:(Alt (Qd Br Bg) (P9 Br Bg Jm) Bg Gz d t r b).sat (fun _=>True):=by
 unfold Alt
 generalize A3c 4000 d r.1=A
 generalize A3c 4000 t r.2.1=B
 have hO:(Jm (En b)).2=0:=Apw b
 have hP:(Jm (En b)).1=B0 (En b):=by
  show Il (En b)=_
  unfold Il
  rw [Apw b];rfl
 unfold Qd P9
 rw [hO,hP]
 simp only [bne_self_eq_false,cond_false]
 cases hb:Ab8 Bg A B with
 | true=>exact trivial
 | false =>
  simp only [cond_false]
  unfold Ab8 at hb
  rw [Bool.or_eq_false_iff,Bool.or_eq_false_iff] at hb
  have ra:=bne_eq_false_iff_eq.1 hb.1
  have rb:=bne_eq_false_iff_eq.1 hb.2.1
  obtain ⟨la,fa⟩:=Ahl ra
  obtain ⟨lb,fb⟩:=Ahl rb
  have go:∀ f:Int,(f=19→Uq Br A B (B0 (En b)) (Bg B).1 (Bg A).1 0=none)→(f=0∨f=19)→(Ahh Gz b (Le Br A B (Bg B).1 (Bg A).1 0,0) f (Bg A) (Bg B)).sat (fun _=>True):=by
   intro f h19 hf
   have ok:(A8x Gz b f (Le Br A B (Bg B).1 (Bg A).1 0) (Bg A).1 (Bg B).1).sat (fun _=>True):=by
    unfold A8x
    have hl:(Le Br A B (Bg B).1 (Bg A).1 0).length≤100000:=by
     have:=A3i (P:=Br) (a:=A) (b:=B) (lb:=(Bg B).1) (Bg A).1 0
     rw [la,lb] at this
     omega
    have hg:∀ p ∈ Le Br A B (Bg B).1 (Bg A).1 0,GdL b f (Bg A).1 (Bg B).1 p:=by
     intro p hp
     obtain ⟨j,m,h1,h2,h3,h4,h5⟩:=A3g _ _ hp
     have iw:=iw9 (t:=b) (fa _ (Nl h1 (Ap cPt))) (fb _ (Nl h2 (Ap cPt)))
     refine ⟨j,m,h3.trans (Int.zero_add _),h4,h1,h2,iw.1,fun e=>?_⟩
     have hc:=X2 _ _ (h19 e) j m h1 h2 h5
     rw [iw.2,A3h]
     unfold ctS at hc
     rw [List.any_eq_true] at hc
     obtain ⟨x,hx,hx2⟩:=hc
     have:(B0 (En b)).any (iwD (Ar (Bg A).1 j (Ap cPt)) (Ar (Bg B).1 m (Ap cPt)) 1)=true:=List.any_eq_true.2 ⟨x,hx,Apx hx2⟩
     rw [this];rfl
    have e:iter (Wz Gz) ((Le Br A B (Bg B).1 (Bg A).1 0).length+1) (Wx ⟨C3 (En b),Le Br A B (Bg B).1 (Bg A).1 0,f,(Bg A).1,(Bg B).1⟩ 0)=some A8u:=An1 hl hg _ 0 _ (Nat.zero_add _) (Nat.le_refl _)
    rw [e]
    exact trivial
   unfold Ahh
   rw [ra,rb,la,lb]
   rcases hf with rfl | rfl
   ·exact ok
   ·exact ok
  cases hc:Uq Br A B (B0 (En b)) (Bg B).1 (Bg A).1 0 with
  | none=>exact go 19 (fun _=>hc) (.inr rfl)
  | some x=>exact go 0 (fun e=>by cases e) (.inl rfl)
end Tp
open Tp
theorem puSi:Ca Tryz.prog (plSi (Qd Br Bg) (P9 Br Bg Jm) Bg Gz):=puOk_cons is_Direct.plain Apl (puOk_cons is_Open.plain App (puOk_cons Rg.is_Ring.plain Ah2 (puOk_cons is_InWay.plain Apr (puOk_cons is_works06.plain Aay (puOk_cons is_spot.plain Ac4 puOk_nil)))))
theorem Aux:As Tryz.prog 3 Ahe (fun s=>Aq Ur A3a (Da [.ret,.exit 0] (Wz Gz) Ahg) (fzB 6 s)):=A65 6 (C0 (X:=A8w (Qd Br Bg) (P9 Br Bg Jm) Bg Gz) (Aj Ak puSi A2) 6 _ Ur A3a (fun e=>by cases e <;> exact Nat.le_refl _) [.ret,.exit 0] _ Ahg (Auu (Qd Br Bg) (P9 Br Bg Jm) Bg Gz))
noncomputable def X_topSighted:Ctx:=Lo (Qd Br Bg) (P9 Br Bg Jm) Bg Gz
theorem is_green9:FnIs Tryz.prog (8,Tryz.f8):=⟨Tryz.func8,by kernel_rfl,by kernel_rfl⟩
theorem X_topSighted_ok:CtxOk X_topSighted:=Bt Ak puSi (A0 is_TopSighted (A0 is_green9 A2)) (Bu (Aeq (ds:=[Ahe]) (by kernel_rfl) ⟨Ajt (k:=14) (by kernel_rfl) rfl Aux,trivial⟩) (Bu (D9 (by kernel_rfl)) Ko))
theorem topSighted_sat:LawSat X_topSighted 3 cs_topSighted 7:=Ap1 7 (fun y=>Alt (Qd Br Bg) (P9 Br Bg Jm) Bg Gz y.1 y.2.1 y.2.2.1 y.2.2.2.1) (Alu (Qd Br Bg) (P9 Br Bg Jm) Bg Gz) fun _ _=>Apz
end V
end Go.Proofs.YtlangijnealfjaaGreat
