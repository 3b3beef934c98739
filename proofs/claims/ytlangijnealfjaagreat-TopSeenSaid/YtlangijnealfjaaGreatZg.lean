import Derived.Test.YtlangijnealfjaaGreatXz
namespace Go.Proofs.YtlangijnealfjaaGreat
open Go.RowKit
namespace V
namespace Tp
open St
theorem A5q:∀ t:Bool,Di (Cf t)=0
 | true=>by decide +kernel
 | false=>by decide +kernel
theorem Art (t:Bool):((Cf t).1.size:Int)≤Aw .i64:=by
 show ((nameG.size:Nat):Int)≤_
 decide
theorem A5r {P:Ax} {a b:TCT A1} {p:TCT cPt} {i:Int} {x:TCT c2}:∀ (l:List (TCT cPt)) (k:Int),x ∈ Ir P a b p i l k→∃ m:Nat,m<l.length∧x.1=i∧x.2.1=k+(m:Int)∧lnB P a b p (A7 l m (A5 cPt))=true
 | [],_,h=>nomatch h
 | q::l,k,h=>by
  have h:x ∈ (bif lnB P a b p q then (i,k,())::Ir P a b p i l (k+1) else Ir P a b p i l (k+1)):=h
  have rest:x ∈ Ir P a b p i l (k+1)→∃ m:Nat,m<(q::l).length∧x.1=i∧x.2.1=k+(m:Int)∧lnB P a b p (A7 (q::l) m (A5 cPt))=true:=fun h=>by
   obtain ⟨m,h1,h2,h3,h4⟩:=A5r l (k+1) h
   have key:k+1+(m:Int)=k+((m+1:Nat):Int):=by omega
   refine ⟨m+1,by rw [List.length_cons];omega,h2,h3.trans key,?_⟩
   rw [B2] at h4 ⊢
   exact h4
  cases hb:lnB P a b p q with
  | true =>
   rw [hb,cond_true] at h
   rcases List.mem_cons.1 h with e | e
   ·subst e
    exact ⟨0,by rw [List.length_cons];omega,rfl,(Int.add_zero k).symm,by rw [B2];exact hb⟩
   ·exact rest e
  | false=>rw [hb,cond_false] at h;exact rest h
theorem A5s {P:Ax} {a b:TCT A1} {lb:List (TCT cPt)} {x:TCT c2}:∀ (l:List (TCT cPt)) (i:Int),x ∈ M5 P a b lb l i→∃ j m:Nat,j<l.length∧m<lb.length∧x.1=i+(j:Int)∧x.2.1=(m:Int)∧lnB P a b (A7 l j (A5 cPt)) (A7 lb m (A5 cPt))=true
 | [],_,h=>nomatch h
 | p::l,i,h=>by
  rcases List.mem_append.1 (show x ∈ Ir P a b (p.1,p.2.1,()) i lb 0++M5 P a b lb l (i+1) from h) with e | e
  ·obtain ⟨m,h1,h2,h3,h4⟩:=A5r lb 0 e
   exact ⟨0,m,by rw [List.length_cons];omega,h1,h2.trans (Int.add_zero i).symm,h3.trans (Int.zero_add _),by rw [B2];exact h4⟩
  ·obtain ⟨j,m,h1,h2,h3,h4,h5⟩:=A5s l (i+1) e
   have key:i+1+(j:Int)=i+((j+1:Nat):Int):=by omega
   refine ⟨j+1,m,by rw [List.length_cons];omega,h2,h3.trans key,h4,?_⟩
   rw [B2] at h5 ⊢
   exact h5
theorem Z5 {P:Ax} {a b:TCT A1} {po:List (TCT A1)} {p:TCT cPt} {i:Int}:∀ (l:List (TCT cPt)) (k:Int),Ou P a b po p i l k=none→∀ m:Nat,m<l.length→lnB P a b p (A7 l m (A5 cPt))=true→ctS po (i,k+(m:Int),p,A7 l m (A5 cPt),())=true
 | [],_,_,m,hm,_=>absurd hm (Nat.not_lt_zero _)
 | q::l,k,h,m,hm,hb=>by
  have h:(bif lnB P a b p q&&!ctS po (i,k,p,(q.1,q.2.1,()),()) then some k else Ou P a b po p i l (k+1))=none:=h
  cases hc:lnB P a b p q&&!ctS po (i,k,p,(q.1,q.2.1,()),()) with
  | true=>rw [hc] at h;cases h
  | false =>
   rw [hc] at h
   cases m with
   | zero =>
    rw [B2] at hb ⊢
    have hb:lnB P a b p q=true:=hb
    rw [hb,Bool.true_and] at hc
    rw [show k+((0:Nat):Int)=k from Int.add_zero k]
    have:ctS po (i,k,p,q,())=true:=by
     cases e:ctS po (i,k,p,(q.1,q.2.1,()),()) with
     | true=>rfl
     | false=>rw [e] at hc;cases hc
    exact this
   | succ m =>
    rw [List.length_cons] at hm
    have:=Z5 l (k+1) h m (by omega) (by rw [B2] at hb ⊢;exact hb)
    rw [B2] at this ⊢
    rw [show k+((m+1:Nat):Int)=k+1+(m:Int) by omega]
    exact this
theorem Qe {P:Ax} {a b:TCT A1} {po:List (TCT A1)} {lb:List (TCT cPt)}:∀ (l:List (TCT cPt)) (i:Int),Iv P a b po lb l i=none→∀ j m:Nat,j<l.length→m<lb.length→lnB P a b (A7 l j (A5 cPt)) (A7 lb m (A5 cPt))=true→ctS po (i+(j:Int),(m:Int),A7 l j (A5 cPt),A7 lb m (A5 cPt),())=true
 | [],_,_,j,_,hj,_,_=>absurd hj (Nat.not_lt_zero _)
 | p::l,i,h,j,m,hj,hm,hb=>by
  have h:(match Ou P a b po (p.1,p.2.1,()) i lb 0 with | some k=>some (i,k) | none=>Iv P a b po lb l (i+1))=none:=h
  cases hc:Ou P a b po (p.1,p.2.1,()) i lb 0 with
  | some k=>rw [hc] at h;cases h
  | none =>
   rw [hc] at h
   cases j with
   | zero =>
    rw [B2 (l:=p::l)] at hb ⊢
    have:=Z5 lb 0 hc m hm hb
    rw [Int.zero_add] at this
    rw [show i+((0:Nat):Int)=i from Int.add_zero i]
    exact this
   | succ j =>
    rw [List.length_cons] at hj
    have:=Qe l (i+1) h j m (by omega) hm (by rw [B2 (l:=p::l)] at hb;rw [B2 (l:=l)];exact hb)
    rw [B2 (l:=l)] at this
    rw [B2 (l:=p::l),show i+((j+1:Nat):Int)=i+1+(j:Int) by omega]
    exact this
theorem W4 {x y:Int} (h:x≤y) (k:y.sign<0):x.sign<0:=by
 rw [Int.sign_neg_iff] at k ⊢
 omega
theorem Akt {ax ay bx bY px py r s:Int} (h0:0≤r) (h1:r≤s) (h:LsV ax ay bx bY px py r<0):LsV ax ay bx bY px py s<0:=by
 have hq:=A3d h0 h1
 unfold LsV at h ⊢
 cases e1:decide (alg ax ay bx bY px py≤0) with
 | true=>rw [e1] at h;exact W4 (by omega) h
 | false =>
  rw [e1,cond_false] at h
  rw [cond_false]
  cases e2:decide (sq ax ay bx bY≤alg ax ay bx bY px py) with
  | true=>rw [e2] at h;exact W4 (by omega) h
  | false =>
   rw [e2,cond_false] at h
   rw [cond_false]
   have hn:0≤sq ax ay bx bY:=by
    unfold sq
    have:=Gn (bx-ax)
    have:=Gn (bY-ay)
    omega
   have:=Int.mul_le_mul_of_nonneg_right hq hn
   exact W4 (by omega) h
theorem Aur {p q:TCT cPt} {d:TCT A1} (h:(CtR p.1 p.2.1 q.1 q.2.1 d.1.1 d.1.2.1 d.2.1).1=true):iwD p q 1 d=true:=by
 unfold CtR at h
 cases hc:fpt p.1 p.2.1&&(fpt q.1 q.2.1&&u_cdOk d.1.1 d.1.2.1 d.2.1) with
 | false=>rw [hc] at h;cases h
 | true =>
  rw [hc] at h
  have h:=of_decide_eq_true h
  rw [Bool.and_eq_true,Bool.and_eq_true] at hc
  obtain ⟨f1,f2,f3⟩:=hc
  unfold u_cdOk at f3
  rw [Bool.and_eq_true,Bool.not_eq_true'] at f3
  have o:=A0j f3.2
  unfold iwD
  refine decide_eq_true ?_
  rw [B6 (n:=1+d.2.1) (by omega) (by omega)]
  have e:(LsR p.1 p.2.1 q.1 q.2.1 d.1.1 d.1.2.1 (1+d.2.1)).1=LsV p.1 p.2.1 q.1 q.2.1 d.1.1 d.1.2.1 (1+d.2.1):=by
   unfold LsR
   have:Bd (1+d.2.1) 0 8388608=false:=by unfold Bd;rw [decide_eq_false (by omega),decide_eq_false (by omega)];rfl
   rw [f1,f2,f3.1,this];rfl
  rw [e]
  exact Akt (by omega) (by omega) h
end Tp
end V
end Go.Proofs.YtlangijnealfjaaGreat
namespace Go.Proofs.YtlangijnealfjaaGreat
open Go.RowKit
namespace V
namespace Tp
open St
theorem A5t {p:TCT A1→Bool}:∀ (l:List (TCT A1)) (i:Int),(((iwF p l i).length:Int)==0)=(!l.any p)
 | [],_=>rfl
 | d::l,i=>by
  show (((bif p d then i::iwF p l (i+1) else iwF p l (i+1)).length:Int)==0)=(!(p d||l.any p))
  cases p d with
  | true =>
   simp only [cond_true,Bool.true_or,Bool.not_true,List.length_cons]
   exact beq_eq_false_iff_ne.2 (by omega)
  | false =>
   simp only [cond_false,Bool.false_or]
   exact A5t l (i+1)
theorem Qf {d:TCT A1} (h:(Al d).2=0):(Al d).1.length=16∧∀ p ∈ (Al d).1,fpt p.1 p.2.1=true:=by
 have h:(Rg.RingR d.1.1 d.1.2.1 d.2.1).2.1=0:=h
 show (Rg.RingR d.1.1 d.1.2.1 d.2.1).1.length=16∧∀ p ∈ (Rg.RingR d.1.1 d.1.2.1 d.2.1).1,fpt p.1 p.2.1=true
 unfold Rg.RingR at h ⊢
 cases h1:K1 d.1.1 d.1.2.1 d.2.1 != 0 with
 | true=>rw [h1] at h;cases h
 | false =>
  rw [h1] at h
  cases h2:(Rg.ringW d.1.1 d.1.2.1 d.2.1).all Rg.fp with
  | false=>rw [h2] at h;cases h
  | true=>exact ⟨Rg.ringW_len _ _ _,fun p hp=>List.all_eq_true.1 h2 p hp⟩
theorem iw9 {t:Bool} {p q:TCT cPt} (hp:fpt p.1 p.2.1=true) (hq:fpt q.1 q.2.1=true):(Hi (Cf t) p q 1 []).2=0∧(Hi (Cf t) p q 1 []).1=iwF (iwD p q 1) (B7 (Cf t)) 0:=by
 have e:H5 (Cf t) p q 1 []=0:=by
  unfold H5
  rw [A5q t]
  show (bif u_ck p.1 p.2.1 != 0 then 2 else bif u_ck q.1 q.2.1 != 0 then 2 else cbE 1 []:Int)=0
  rw [A9p,A9p,hp,hq]
  decide
 refine ⟨e,?_⟩
 show Mh (Cf t) p q 1 []=_
 unfold Mh
 rw [e,List.append_nil];rfl
def GdL (t:Bool) (f:Int) (x y:List (TCT cPt)) (p:TCT c2):Prop :=
 ∃ j m:Nat,p.1=(j:Int)∧p.2.1=(m:Int)∧j<x.length∧m<y.length∧(Hi (Cf t) (A7 x j (A5 cPt)) (A7 y m (A5 cPt)) 1 []).2=0∧(f=19→((((Hi (Cf t) (A7 x j (A5 cPt)) (A7 y m (A5 cPt)) 1 []).1.length:Int)==0)=false))
theorem Aus {t:Bool} {ls:List (TCT c2)} {f:Int} {x y:List (TCT cPt)} {p:TCT c2} {n:Int} (h:GdL t f x y p):(Abm Hi ⟨C0 (Cf t),ls,f,x,y⟩ n p).run=some (.inl (Z1 ⟨C0 (Cf t),ls,f,x,y⟩ (W64 (n+1)))):=by
 obtain ⟨j,m,h1,h2,h3,h4,h5,h6⟩:=h
 unfold Abm
 rw [h1,h2]
 show (bif decide ((j:Int)<0) then _ else bif decide ((j:Int)≥(x.length:Int)) then _ else bif decide ((m:Int)<0) then _ else bif decide ((m:Int)≥(y.length:Int)) then _ else inN x.length (j:Int) (inN y.length (m:Int) (bif decide (((Ey (C0 (Cf t))).1.size:Int)≤Aw .i64) then Akp ⟨C0 (Cf t),ls,f,x,y⟩ n (Hi (Cf t) (A7 x (Int.toNat (j:Int)) (A5 cPt)) (A7 y (Int.toNat (m:Int)) (A5 cPt)) 1 []) else .fail)):Tree cSi).run=_
 rw [decide_eq_false (show ¬ (j:Int)<0 by omega),decide_eq_false (show ¬ (j:Int)≥(x.length:Int) by omega),decide_eq_false (show ¬ (m:Int)<0 by omega),decide_eq_false (show ¬ (m:Int)≥(y.length:Int) by omega),Ci (by omega),Ci (by omega),decide_eq_true (show ((Ey (C0 (Cf t))).1.size:Int)≤Aw .i64 from Art t),show Int.toNat (j:Int)=j by omega,show Int.toNat (m:Int)=m by omega]
 simp only [cond_false,cond_true]
 generalize Hi (Cf t) (A7 x j (A5 cPt)) (A7 y m (A5 cPt)) 1 []=r at *
 unfold Akp
 rw [h5]
 simp only [bne_self_eq_false,cond_false]
 cases hz:(r.1.length:Int)==0 with
 | false=>rfl
 | true =>
  cases hf:f==19 with
  | false=>rfl
  | true =>
   have:=h6 (beq_iff_eq.1 hf)
   rw [hz] at this
   cases this
theorem Aru {t:Bool} {ls:List (TCT c2)} {f:Int} {x y:List (TCT cPt)} (hl:ls.length≤100000) (h:∀ p ∈ ls,GdL t f x y p):∀ (k i m:Nat),i+k=ls.length→k+1≤m →
  iter (Z3 Hi) m (Z1 ⟨C0 (Cf t),ls,f,x,y⟩ (i:Int))=some Abl
 | k,i,0,_,hm=>by omega
 | 0,i,m+1,hk,_=>by
  have e:i=ls.length:=by omega
  subst e
  refine F7 ?_
  show (A5n Hi ⟨C0 (Cf t),ls,f,x,y⟩ (ls.length:Int)).run=_
  unfold A5n
  rw [decide_eq_false (Int.lt_irrefl _)]
  rfl
 | k+1,i,m+1,hk,hm=>by
  refine (Js ?_).trans (Aru hl h k (i+1) m (by omega) (by omega))
  have hi:i<ls.length:=by omega
  show (A5n Hi ⟨C0 (Cf t),ls,f,x,y⟩ (i:Int)).run=_
  unfold A5n
  show (bif decide ((i:Int)<(ls.length:Int)) then inN ls.length (i:Int) (inN ls.length (i:Int) (Abm Hi ⟨C0 (Cf t),ls,f,x,y⟩ (i:Int) (A7 ls (Int.toNat (i:Int)) (A5 c2)))) else .leaf (.inr Abl):Tree cSi).run=_
  rw [decide_eq_true (show (i:Int)<(ls.length:Int) by omega),cond_true,Ci (by omega),Ci (by omega),show Int.toNat (i:Int)=i by omega,Aus (h _ (Dd hi _)),B6 (n:=(i:Int)+1) (by omega) (by omega)]
  rfl
theorem A5u {P:Ax} {a b:TCT A1} {lb:List (TCT cPt)}:∀ (l:List (TCT cPt)) (i:Int),(M5 P a b lb l i).length≤l.length*lb.length
 | [],_=>Nat.zero_le _
 | p::l,i=>by
  have h1:=Vy (P:=P) (a:=a) (b:=b) (p:=(p.1,p.2.1,())) (i:=i) lb 0
  have h2:=A5u (P:=P) (a:=a) (b:=b) (lb:=lb) l (i+1)
  show (Ir P a b (p.1,p.2.1,()) i lb 0++M5 P a b lb l (i+1)).length≤(l.length+1)*lb.length
  rw [List.length_append,Nat.add_mul,Nat.one_mul]
  omega
theorem Aut {d t:TCT Dm} {r:TCT A8r} {b:Bool}:(Aq2 (Ry Ao Al) (Gd Ao Al Cb) Al Hi d t r b).sat (fun _=>True):=by
 unfold Aq2
 generalize Ox 4000 d r.1=A
 generalize Ox 4000 t r.2.1=B
 have hO:(Cb (Cf b)).2=0:=A5q b
 have hP:(Cb (Cf b)).1=B7 (Cf b):=by
  show Fc (Cf b)=_
  unfold Fc
  rw [A5q b];rfl
 unfold Ry Gd
 rw [hO,hP]
 simp only [bne_self_eq_false,cond_false]
 cases hb:N6 Al A B with
 | true=>exact trivial
 | false =>
  simp only [cond_false]
  unfold N6 at hb
  rw [Bool.or_eq_false_iff,Bool.or_eq_false_iff] at hb
  have ra:=bne_eq_false_iff_eq.1 hb.1
  have rb:=bne_eq_false_iff_eq.1 hb.2.1
  obtain ⟨la,fa⟩:=Qf ra
  obtain ⟨lb,fb⟩:=Qf rb
  have go:∀ f:Int,(f=19→Iv Ao A B (B7 (Cf b)) (Al B).1 (Al A).1 0=none)→(f=0∨f=19)→(Akr Hi b (M5 Ao A B (Al B).1 (Al A).1 0,0) f (Al A) (Al B)).sat (fun _=>True):=by
   intro f h19 hf
   have ok:(Abo Hi b f (M5 Ao A B (Al B).1 (Al A).1 0) (Al A).1 (Al B).1).sat (fun _=>True):=by
    unfold Abo
    have hl:(M5 Ao A B (Al B).1 (Al A).1 0).length≤100000:=by
     have:=A5u (P:=Ao) (a:=A) (b:=B) (lb:=(Al B).1) (Al A).1 0
     rw [la,lb] at this
     omega
    have hg:∀ p ∈ M5 Ao A B (Al B).1 (Al A).1 0,GdL b f (Al A).1 (Al B).1 p:=by
     intro p hp
     obtain ⟨j,m,h1,h2,h3,h4,h5⟩:=A5s _ _ hp
     have iw:=iw9 (t:=b) (fa _ (Dd h1 (A5 cPt))) (fb _ (Dd h2 (A5 cPt)))
     refine ⟨j,m,h3.trans (Int.zero_add _),h4,h1,h2,iw.1,fun e=>?_⟩
     have hc:=Qe _ _ (h19 e) j m h1 h2 h5
     rw [iw.2,A5t]
     unfold ctS at hc
     rw [List.any_eq_true] at hc
     obtain ⟨x,hx,hx2⟩:=hc
     have:(B7 (Cf b)).any (iwD (A7 (Al A).1 j (A5 cPt)) (A7 (Al B).1 m (A5 cPt)) 1)=true:=List.any_eq_true.2 ⟨x,hx,Aur hx2⟩
     rw [this];rfl
    have e:iter (Z3 Hi) ((M5 Ao A B (Al B).1 (Al A).1 0).length+1) (Z1 ⟨C0 (Cf b),M5 Ao A B (Al B).1 (Al A).1 0,f,(Al A).1,(Al B).1⟩ 0)=some Abl:=Aru hl hg _ 0 _ (Nat.zero_add _) (Nat.le_refl _)
    rw [e]
    exact trivial
   unfold Akr
   rw [ra,rb,la,lb]
   rcases hf with rfl | rfl
   ·exact ok
   ·exact ok
  cases hc:Iv Ao A B (B7 (Cf b)) (Al B).1 (Al A).1 0 with
  | none=>exact go 19 (fun _=>hc) (.inr rfl)
  | some x=>exact go 0 (fun e=>by cases e) (.inl rfl)
end Tp
open Tp
theorem puSi:Cd Tryz.prog (plSi (Ry Ao Al) (Gd Ao Al Cb) Al Hi):=puOk_cons is_Direct.plain Auk (puOk_cons is_Open.plain Akm (puOk_cons Rg.is_Ring.plain A8m (puOk_cons is_InWay.plain Aun (puOk_cons is_works06.plain Ae5 (puOk_cons is_spot.plain A6d puOk_nil)))))
theorem B0i:Av Tryz.prog 3 Ako (fun s=>Au W3 A5m (D5 [.ret,.exit 0] (Z3 Hi) Akq) (fzB 6 s)):=W2 6 (Bu (X:=Abn (Ry Ao Al) (Gd Ao Al Cb) Al Hi) (An Am puSi A2) 6 _ W3 A5m (fun e=>by cases e <;> exact Nat.le_refl _) [.ret,.exit 0] _ Akq (B0f (Ry Ao Al) (Gd Ao Al Cb) Al Hi))
noncomputable def P0:Ctx:=Mf (Ry Ao Al) (Gd Ao Al Cb) Al Hi
theorem is_green9:FnIs Tryz.prog (8,Tryz.f8):=⟨Tryz.func8,by kernel_rfl,by kernel_rfl⟩
theorem X_topSighted_ok:CtxOk P0:=Bt Am puSi (A0 is_TopSighted (A0 is_green9 A2)) (B5 (A3b (ds:=[Ako]) (by kernel_rfl) ⟨A0h (k:=14) (by kernel_rfl) rfl B0i,trivial⟩) (B5 (By (by kernel_rfl)) Gv))
theorem topSighted_sat:LawSat P0 3 Ia 7:=Ajh 7 (fun y=>Aq2 (Ry Ao Al) (Gd Ao Al Cb) Al Hi y.1 y.2.1 y.2.2.1 y.2.2.2.1) (Aq3 (Ry Ao Al) (Gd Ao Al Cb) Al Hi) fun _ _=>Aut
end V
end Go.Proofs.YtlangijnealfjaaGreat
