import Derived.Test.YtcfanlgpkefogaaGreatAo
import Derived.Test.YtcfanlgpkefogaaGreatNd
namespace Go.Proofs.YtcfanlgpkefogaaGreat
open Go.RowKit
namespace V
theorem C8q {w d n:Int} (hw:0≤w) (h0:0≤d) (h1:d≤n) (hn:0<n):0≤(w*d).tdiv n∧(w*d).tdiv n≤w:=by
 have k0:0≤w*d:=Int.mul_nonneg hw h0
 refine ⟨Int.tdiv_nonneg k0 (by omega),?_⟩
 have k1:=Int.mul_tdiv_self_le (k:=n) k0
 have k2:w*d≤w*n:=Int.mul_le_mul_of_nonneg_left h1 hw
 rw [Int.mul_comm w n] at k2
 exact Int.le_of_mul_le_mul_left (Int.le_trans k1 k2) hn
theorem Bw7 {w d n:Int} (h0:0≤d) (h1:d≤n) (hn:0<n):(w*d).tdiv n*(w*d).tdiv n≤w*w:=by
 rcases Int.le_total 0 w with hw | hw
 ·obtain ⟨a,b⟩:=C8q hw h0 h1 hn
  exact Blh (by omega) b
 ·obtain ⟨a,b⟩:=C8q (w := -w) (by omega) h0 h1 hn
  rw [Int.neg_mul,Int.neg_tdiv] at a b
  have:=Blh (a:=(w*d).tdiv n) (B := -w) (by omega) (by omega)
  rwa [Int.neg_mul_neg] at this
namespace St
def nE (p:TCT cPt):Int:=p.1*p.1+p.2.1*p.2.1
theorem D1p (p:TCT cPt):0≤nE p:=by
 have a:=Bkh p.1
 have b:=Bkh p.2.1
 exact Int.add_nonneg a b
theorem Cop {m A B:Int} (hm:0<m) (h:m*A≤m*B):A≤B:=Int.le_of_mul_le_mul_left h hm
theorem Cx0 {a b:Bm} {re dr:Int} (he:a.m=b.m) (hm:0<a.m) (h:(Bb9 a b re dr).2.2.1=0):nE (Bb9 a b re dr).1.2.1+nE (Bb9 a b re dr).2.1.2.1≤(a.mx*a.mx+a.my*a.my)+(b.mx*b.mx+b.my*b.my):=by
 revert h
 refine Cca (P:=fun _ u=>u.2.2.1=0→nE u.1.2.1+nE u.2.1.2.1≤(a.mx*a.mx+a.my*a.my)+(b.mx*b.mx+b.my*b.my)) (fun _ h=>by cases h) (fun _ _ _ _ h=>by cases h) (fun _ _ _ _ _ h=>by cases h) (fun _ _ _ _ h=>by cases h) fun x y K _ _ _=>?_
 have w:=Ccb K
 unfold Boe Bm.mv at w
 simp only at w
 rw [← he,← Int.mul_add,← Int.mul_add] at w
 exact Cop hm w
def Ms (l:List (TCT Fq)) (M:Int):Prop:=∀ i:Nat,i<l.length→(Bas l i (Bap Fq)).1=M
theorem Cg7 {l:List (TCT Fq)} {re dr M:Int} {i k:Nat} {s s':SS} (hM:Ms l M) (h0:0<M) (hil:i<l.length) (hkl:k<l.length) (hik:¬ k=i) (hi:i<s.1.length) (hk:k<s.1.length) (e:Bd8 l re dr i k s=some s'):smP nE s'.1≤smP nE s.1∧s'.1.length=s.1.length:=by
 unfold Bd8 at e
 cases h1:(Bb9 (bAt l s.1 i) (bAt l s.1 k) re dr).2.2.1==0 with
 | true =>
  rw [h1] at e
  simp only [cond_true,Option.some.injEq] at e
  subst e
  have m1:(bAt l s.1 i).m=M:=hM i hil
  have m2:(bAt l s.1 k).m=M:=hM k hkl
  have b:=Cx0 (a:=bAt l s.1 i) (b:=bAt l s.1 k) (re:=re) (dr:=dr) (m1.trans m2.symm) (by rw [m1];exact h0) (beq_iff_eq.1 h1)
  refine ⟨?_,by rw [Bbb,Bbb]⟩
  show smP nE (Bb8 (Bb8 s.1 i _) k _)≤smP nE s.1
  rw [Bg6 _ k _ (by rw [Bbb];exact hk),Bg6 _ i _ hi,Bdk hi hik]
  have b':nE (Bb9 (bAt l s.1 i) (bAt l s.1 k) re dr).1.2.1+nE (Bb9 (bAt l s.1 i) (bAt l s.1 k) re dr).2.1.2.1≤nE (Bah s.1 i).2.1+nE (Bah s.1 k).2.1:=b
  omega
 | false =>
  rw [h1,cond_false] at e
  cases h2:(Bb9 (bAt l s.1 i) (bAt l s.1 k) re dr).2.2.1==4 with
  | true=>rw [h2] at e;simp at e
  | false=>rw [h2] at e;simp only [cond_false,Option.some.injEq] at e;subst e;exact ⟨Int.le_refl _,rfl⟩
theorem Cg8 {l:List (TCT Fq)} {re dr M:Int} {i n:Nat} (hM:Ms l M) (h0:0<M) (hl:l.length=n) (hi:i<n):∀ (f k:Nat) (s s':SS),i<k→k+f≤n→s.1.length=n→V.inR l re dr i f k s=some s'→smP nE s'.1≤smP nE s.1∧s'.1.length=n
 | 0,k,s,s',_,_,hs,e=>by rw [V.inR,Option.some.injEq] at e;subst e;exact ⟨Int.le_refl _,hs⟩
 | f+1,k,s,s',hk,hf,hs,e=>by
  rw [V.inR] at e
  cases h1:Bd8 l re dr i k s with
  | none=>rw [h1] at e;simp at e
  | some s1 =>
   rw [h1,Option.bind_some] at e
   obtain ⟨a1,a2⟩:=Cg7 hM h0 (by omega) (by omega) (by omega) (by omega) (by omega) h1
   obtain ⟨b1,b2⟩:=Cg8 hM h0 hl hi f (k+1) s1 s' (by omega) (by omega) (by omega) e
   exact ⟨Int.le_trans b1 a1,b2⟩
theorem C8r {l:List (TCT Fq)} {re dr M:Int} {n:Nat} (hM:Ms l M) (h0:0<M) (hn:l.length=n):∀ (f i:Nat) (s s':SS),i+f≤n→s.1.length=n→Bff l re dr f i s=some s'→smP nE s'.1≤smP nE s.1∧s'.1.length=n
 | 0,i,s,s',_,hl,e=>by rw [Bh7,Option.some.injEq] at e;subst e;exact ⟨Int.le_refl _,hl⟩
 | f+1,i,s,s',hf,hl,e=>by
  rw [Bfr] at e
  cases h1:V.inR l re dr i (l.length-(i+1)) (i+1) s with
  | none=>rw [h1] at e;simp at e
  | some s1 =>
   rw [h1,Option.bind_some] at e
   obtain ⟨a1,a2⟩:=Cg8 (n:=n) hM h0 hn (by omega) _ _ _ _ (by omega) (by omega) hl h1
   obtain ⟨b1,b2⟩:=C8r hM h0 hn f (i+1) s1 s' (by omega) a2 e
   exact ⟨Int.le_trans b1 a1,b2⟩
theorem Ccc {l:List (TCT Fq)} {s:Bak} {re dr M:Int} (hM:Ms l M) (h0:0<M) (hl:l.length=s.length) (e:(Bbi l s re dr).2.2.1=0):smP nE (Bbi l s re dr).1≤smP nE s∧(Bbi l s re dr).1.length=s.length:=by
 unfold Bbi at e ⊢
 cases h1:Bix l s != 0 with
 | true=>rw [h1,cond_true] at e;exact absurd e (bne_iff_ne.1 h1)
 | false =>
  rw [h1,cond_false] at e
  simp only [cond_false]
  cases h2:!Bdo re dr with
  | true=>rw [h2] at e;cases e
  | false =>
   rw [h2,cond_false] at e
   simp only [cond_false]
   cases h3:Bff l re dr l.length 0 (s,[]) with
   | none=>rw [h3] at e;cases e
   | some s'=>exact C8r hM h0 hl l.length 0 (s,[]) s' (by omega) rfl h3
theorem D1q {h:TCT cPt→Int} {W:List Int} {C M ms0:Bak} {n:Nat} (hn:ms0.length=n) (hC:C.length=W.length) (hM:M.length=W.length) (hr:∀ w ∈ W,0≤w∧w<(n:Int)) (hg:∀ k:Nat,k<W.length→Bah C k=Bah ms0 (Int.toNat (Bas W k (Bap cI)))) (hs:∀ k k':Nat,k<k'→k'<W.length→Bas W k (Bap cI)<Bas W k' (Bap cI)):smP h (scV W M ms0)=smP h ms0+smP h M-smP h C:=by
 have key:InvQ h W C M ms0 W.length (scV W M ms0):=Bav (n:=W.length) (Inv:=fun i (s:Bak)=>InvQ h W C M ms0 i s) (fun i s s' hi q h2=>by
  cases h2
  have hl:=q.l
  have b:=hr _ (Bcu hi (Bap cI))
  have hj:Int.toNat (Bas W i (Bap cI))<s.length:=by rw [hl,hn];exact Bkm b.1 b.2
  refine ⟨(Bbb _ _ _).trans hl,?_,fun j h1 h2=>?_⟩
  ·have e1:=Bkn (h:=h) M i (by rw [hM];exact hi)
   have e2:=Bkn (h:=h) C i (by rw [hC];exact hi)
   have e3:=Bg6 (h:=h) s (Int.toNat (Bas W i (Bap cI))) (Bah M i) hj
   rw [q.r i (Nat.le_refl _) hi,← hg i hi] at e3
   have e4:=q.s
   omega
  ·have d:=hs i j (by omega) h2
   rw [Bdk hj (Cvx b.1 d)]
   exact q.r j (by omega) h2) W.length 0 ms0 _ (by omega) ⟨rfl,by simp,fun _ _ _=>rfl⟩ (Bfd (Bat (scE W M) 0 W.length ms0))
 have:=key.s
 rw [← hM,List.take_length,hM,← hC,List.take_length] at this
 omega
theorem D1r {bl:List (TCT Fq)} {ms:Bak} {os:List Bool} {w fl M:Int} {n:Nat} (hM:Ms bl M) (hn:n≤bl.length):Ms (gaV bl w fl n ms os).2.1 M:=by
 have key:∀ b ∈ (gaV bl w fl n ms os).2.1,b.1=M:=Bav (n:=n) (Inv:=fun _ (s:GA)=>∀ b ∈ s.2.1,b.1=M) (fun i s s' hi h h2=>by
  unfold gaE at h2
  cases hc:!Bas os i (Bap .b)&&!Bdj w fl i with
  | false=>rw [hc] at h2;cases h2;exact h
  | true =>
   rw [hc] at h2
   cases h2
   intro b hb
   have hb:b ∈ s.2.1++[Bcj bl i]:=hb
   rcases List.mem_append.1 hb with k | k
   ·exact h b k
   ·rw [List.mem_singleton.1 k];exact hM i (by omega)) n 0 ([],[],[]) _ (by omega) (fun _ h=>nomatch h) (Bfd (Bat (gaE bl ms os w fl) 0 n ([],[],[])))
 intro i hi
 exact key _ (Bcu hi _)
theorem Cx1 {bl:List (TCT Fq)} {c:TCT Bbu} {n:Nat} {T st w fl M:Int} {s:S2} {r:Bak×Kns} (hM:Ms bl M) (h0:0<M) (hn:n≤bl.length) (hm:s.1.length=n) (e:seF bl c T st w fl n s=.inl r):smP nE r.1≤smP nE s.1:=by
 unfold seF at e
 cases he:(seS bl c w fl n s).2.2.1 != 0 with
 | true=>rw [he] at e;cases e
 | false =>
  rw [he] at e
  cases e
  have e0:=bne_eq_false_iff_eq.1 he
  have hG:InvH s.1 s.2.1 n n (seG bl w fl n s):=Bt3
  have hW:InvW n (seG bl w fl n s):=Cl6
  have hb:=hG.g.b
  have hmm:=hG.g.m
  obtain ⟨a1,a2⟩:=Ccc (l:=(seG bl w fl n s).2.1) (s:=(seG bl w fl n s).2.2) (re:=c.1) (dr:=c.2.1) (D1r hM hn) h0 (by omega) e0
  have k:=D1q (h:=nE) (C:=(seG bl w fl n s).2.2) (M:=(seS bl c w fl n s).1) hm hmm (by exact a2.trans hmm) hG.g.r (fun k hk=>(hG.h k hk).1) hW.s
  have a1':smP nE (seS bl c w fl n s).1≤smP nE (seG bl w fl n s).2.2:=a1
  show smP nE (scV (seG bl w fl n s).1 (seS bl c w fl n s).1 s.1)≤smP nE s.1
  omega
theorem Bs2 {h:TCT cPt→Int} {l:Bak} {i:Nat} {x:TCT Baw} (e:h x.2.1≤h (Bah l i).2.1):smP h (Bb8 l i x)≤smP h l:=by
 by_cases hi:i<l.length
 ·rw [Bg6 l i x hi];omega
 ·rw [Bbf,List.set_eq_of_length_le (Nat.le_of_not_lt hi)];exact Int.le_refl _
theorem Cx2 {l:TCT Bal} {j:Nat} {T st:Int} {s s':S2} (e:lvE l T st j s=.inl s'):smP nE s'.1≤smP nE s.1:=by
 unfold lvE at e
 cases e1:Bas s.2.1 j (Bap .b) with
 | true=>rw [e1] at e;cases e;exact Int.le_refl _
 | false =>
  rw [e1] at e
  cases e2:onB l (Bah s.1 j).1 with
  | true=>rw [e2] at e;cases e;exact Int.le_refl _
  | false =>
   rw [e2] at e
   cases e
   exact Bs2 (D1p _)
theorem Cx3 {bl:List (TCT Fq)} {l:TCT Bal} {n:Nat} {T st:Int} {s s':S2} (e:mvF bl l T st n s=.inl s'):smP nE s'.1≤smP nE s.1:=by
 unfold mvF at e
 cases e1:Bat (stE bl s.2.1) 0 n s.1 with
 | inr x=>rw [e1] at e;cases e
 | inl ms =>
  rw [e1] at e
  have h1:smP nE ms=smP nE s.1:=Bav (n:=n) (Inv:=fun _ (x:Bak)=>smP nE x=smP nE s.1) (fun j x x' _ hx h3=>(Cai h3).trans hx) n 0 s.1 ms (by omega) rfl e1
  have h2:Bat (lvE l T st) 0 n (ms,s.2.1,s.2.2)=.inl s':=e
  exact Bav (n:=n) (Inv:=fun _ (x:S2)=>smP nE x.1≤smP nE s.1) (fun j x x' _ hx h3=>Int.le_trans (Cx2 h3) hx) n 0 (ms,s.2.1,s.2.2) s' (by omega) (Int.le_of_eq h1) h2
theorem Cx4 {b:TCT Fq} {m:TCT Baw} {d:TCT Bag} {c:TCT Bbu} (h:(bmV b m d c).2.1=0):nE (bmV b m d c).1.2.1≤nE m.2.1:=by
 have h':(Bod (bm b m) d.1.1 d.1.2.1 d.2.1 c.1 c.2.1).2.1=0:=h
 show nE (Bod (bm b m) d.1.1 d.1.2.1 d.2.1 c.1 c.2.1).1.2.1≤nE m.2.1
 revert h'
 refine C5b (P:=fun u=>u.2.1=0→nE u.1.2.1≤nE m.2.1) (fun h=>by cases h) (fun h=>by cases h) (fun h=>by cases h) (fun h=>by cases h) fun x y K _ _=>?_
 have e:=K.ke.e
 have i:nE (((bm b m).mx,(bm b m).my,()):TCT cPt)-nE (((bm b m).mx-x,(bm b m).my-y,()):TCT cPt)=2*((bm b m).mx*x+(bm b m).my*y)-1*(x*x+y*y):=by
  show ((bm b m).mx*(bm b m).mx+(bm b m).my*(bm b m).my)-(((bm b m).mx-x)*((bm b m).mx-x)+((bm b m).my-y)*((bm b m).my-y))=_
  grind
 show nE (((bm b m).mx-x,(bm b m).my-y,()):TCT cPt)≤nE (((bm b m).mx,(bm b m).my,()):TCT cPt)
 omega
theorem Cx5 {b:TCT Fq} {c:TCT Bbu} {ps:Dss} {os:List Bool} {w fl t st:Int} {j k:Nat} {s:MK}:(∀ s',bpE b c ps os w fl t st j k s=.inl s'→smP nE s'.1≤smP nE s.1)∧(∀ s',bpE b c ps os w fl t st j k s=.inr (.inl s')→s'=s):=by
 unfold bpE
 cases e1:!Bbq s.1 os j||Bdj w fl j with
 | true=>exact ⟨(fun s' h=>by cases h),(fun s' h=>by cases h;rfl)⟩
 | false =>
  simp only [cond_false]
  cases e2:(bmV b (Bah s.1 j) (Bdh ps k) c).2.1==0 with
  | true =>
   refine ⟨(fun s' h=>?_),(fun s' h=>by cases h)⟩
   cases h
   exact Bs2 (Cx4 (beq_iff_eq.1 e2))
  | false =>
   simp only [cond_false]
   cases e3:(bmV b (Bah s.1 j) (Bdh ps k) c).2.1==4 with
   | true=>exact ⟨(fun s' h=>by cases h),(fun s' h=>by cases h)⟩
   | false=>exact ⟨(fun s' h=>by cases h;exact Int.le_refl _),(fun s' h=>by cases h)⟩
theorem Cg9 {b:TCT Fq} {c:TCT Bbu} {ps:Dss} {os:List Bool} {w fl t st:Int} {j:Nat}:∀ (m k:Nat) (s s':MK),Bsw (Bat (bpE b c ps os w fl t st j) k m s)=.inl s'→smP nE s'.1≤smP nE s.1
 | 0,k,s,s',e=>by cases e;exact Int.le_refl _
 | m+1,k,s,s',e=>by
  unfold Bat at e
  have a:=Cx5 (b:=b) (c:=c) (ps:=ps) (os:=os) (w:=w) (fl:=fl) (t:=t) (st:=st) (j:=j) (k:=k) (s:=s)
  cases hf:bpE b c ps os w fl t st j k s with
  | inl t1=>rw [hf] at e;exact Int.le_trans (Cg9 m (k+1) t1 s' e) (a.1 t1 hf)
  | inr y =>
   rw [hf] at e
   cases y with
   | inl t1 =>
    have e':=a.2 t1 hf
    subst e'
    cases e
    exact Int.le_refl _
   | inr x=>cases e
theorem Cx6 {bl:List (TCT Fq)} {c:TCT Bbu} {ps:Dss} {n:Nat} {w fl t st:Int} {s:S2} {s':MK} (e:buF bl c ps t st w fl n s=.inl s'):smP nE s'.1≤smP nE s.1:=by
 unfold buF at e
 exact Bav (n:=n) (Inv:=fun _ (x:MK)=>smP nE x.1≤smP nE s.1) (fun j x x' _ hx h3=>Int.le_trans (Cg9 ps.length 0 x x' h3) hx) n 0 (s.1,s.2.2) s' (by omega) (Int.le_refl _) e
def Ccd (l:TCT Bal):Prop:=∀ p:TCT cPt,0≤(Bgf l p).1∧(Bgf l p).2.1=0∧(Bgf l p).2.2.1=0
theorem Coq {x y d:Int} (hd:0≤d) (h:(Bhl x y d).2.1=0):nE (Bhl x y d).1≤x*x+y*y:=by
 have hx:=Bkh x
 have hy:=Bkh y
 unfold Bhl at h ⊢
 cases h1:Bb3 x y with
 | false=>rw [h1] at h;cases h
 | true =>
  rw [h1] at h
  simp only [Bool.not_true,cond_false] at h ⊢
  cases h2:Bb6 d 0 33554432 with
  | true=>rw [h2] at h;cases h
  | false =>
   simp only [cond_false]
   cases h3:decide (slN x y≤8*d) with
   | true=>show (0:Int)*0+0*0≤_;omega
   | false =>
    have h4:=of_decide_eq_false h3
    have a:=Bw7 (w:=x) (d:=slN x y-8*d) (n:=slN x y) (by omega) (by omega) (by omega)
    have b:=Bw7 (w:=y) (d:=slN x y-8*d) (n:=slN x y) (by omega) (by omega) (by omega)
    exact Int.add_le_add a b
theorem Cx7 {l:TCT Bal} {os:List Bool} {w fl:Int} {i:Nat} {ms ms':Bak} (hl:Ccd l) (hs:SM ms) (e:slE l os w fl i ms=.inl ms'):smP nE ms'≤smP nE ms:=by
 unfold slE at e
 cases h1:!Bbq ms os i||Bdj w fl i with
 | true=>rw [h1] at e;cases e;exact Int.le_refl _
 | false =>
  rw [h1] at e
  cases h2:Be0 l (Bah ms i).1 != 0 with
  | true=>rw [h2] at e;cases e
  | false =>
   rw [h2] at e
   cases h3:(Bhu l (Bah ms i)).2.1 != 0 with
   | true=>rw [h3] at e;cases e
   | false =>
    rw [h3] at e
    cases e
    refine Bs2 ?_
    obtain ⟨a,b,c⟩:=hl (Bah ms i).1
    have d:=Bdn (hs i)
    have h4:=bne_eq_false_iff_eq.1 h3
    show nE (((Bhu l (Bah ms i)).1.1,(Bhu l (Bah ms i)).1.2.1,()):TCT cPt)≤nE (Bah ms i).2.1
    unfold Bhu at h4 ⊢
    rw [b,c,Int.add_zero,Int.add_zero,Bbc (Int.le_trans (by decide) d.1.1) (Int.le_trans d.1.2 (by decide)),Bbc (Int.le_trans (by decide) d.2.1) (Int.le_trans d.2.2 (by decide))] at h4 ⊢
    exact Coq a h4
theorem Cga {l:TCT Bal} {j:Nat} {T st:Int} {s s':S2} (e:lvE l T st j s=.inl s'):s'.1.length=s.1.length:=by
 unfold lvE at e
 cases e1:Bas s.2.1 j (Bap .b) with
 | true=>rw [e1] at e;cases e;rfl
 | false =>
  rw [e1] at e
  cases e2:onB l (Bah s.1 j).1 with
  | true=>rw [e2] at e;cases e;rfl
  | false=>rw [e2] at e;cases e;exact Bbb _ _ _
theorem Cgb {bl:List (TCT Fq)} {os:List Bool} {i:Nat} {ms ms':Bak} (e:stE bl os i ms=.inl ms'):ms'.length=ms.length:=by
 unfold stE at e
 cases h1:!Bbq ms os i with
 | true=>rw [h1] at e;cases e;rfl
 | false =>
  rw [h1] at e
  cases h3:(Bm9 (Bcj bl i) (Bah ms i)).2.1 != 0 with
  | true=>rw [h3] at e;cases e
  | false=>rw [h3] at e;cases e;exact Bbb _ _ _
theorem Cgc {bl:List (TCT Fq)} {l:TCT Bal} {n:Nat} {T st:Int} {s s':S2} (e:mvF bl l T st n s=.inl s'):s'.1.length=s.1.length:=by
 unfold mvF at e
 cases e1:Bat (stE bl s.2.1) 0 n s.1 with
 | inr x=>rw [e1] at e;cases e
 | inl ms =>
  rw [e1] at e
  have h1:ms.length=s.1.length:=Bav (n:=n) (Inv:=fun _ (x:Bak)=>x.length=s.1.length) (fun j x x' _ hx h3=>(Cgb h3).trans hx) n 0 s.1 ms (by omega) rfl e1
  have h2:Bat (lvE l T st) 0 n (ms,s.2.1,s.2.2)=.inl s':=e
  exact Bav (n:=n) (Inv:=fun _ (x:S2)=>x.1.length=s.1.length) (fun j x x' _ hx h3=>(Cga h3).trans hx) n 0 (ms,s.2.1,s.2.2) s' (by omega) h1 h2
theorem Cgd {b:TCT Fq} {c:TCT Bbu} {ps:Dss} {os:List Bool} {w fl t st:Int} {j k:Nat} {s:MK}:(∀ s',bpE b c ps os w fl t st j k s=.inl s'→s'.1.length=s.1.length)∧(∀ s',bpE b c ps os w fl t st j k s=.inr (.inl s')→s'=s):=by
 unfold bpE
 cases e1:!Bbq s.1 os j||Bdj w fl j with
 | true=>exact ⟨(fun s' h=>by cases h),(fun s' h=>by cases h;rfl)⟩
 | false =>
  simp only [cond_false]
  cases e2:(bmV b (Bah s.1 j) (Bdh ps k) c).2.1==0 with
  | true=>exact ⟨(fun s' h=>by cases h;exact Bbb _ _ _),(fun s' h=>by cases h)⟩
  | false =>
   simp only [cond_false]
   cases e3:(bmV b (Bah s.1 j) (Bdh ps k) c).2.1==4 with
   | true=>exact ⟨(fun s' h=>by cases h),(fun s' h=>by cases h)⟩
   | false=>exact ⟨(fun s' h=>by cases h;rfl),(fun s' h=>by cases h)⟩
theorem C0e {b:TCT Fq} {c:TCT Bbu} {ps:Dss} {os:List Bool} {w fl t st:Int} {j:Nat}:∀ (m k:Nat) (s s':MK),Bsw (Bat (bpE b c ps os w fl t st j) k m s)=.inl s'→s'.1.length=s.1.length
 | 0,k,s,s',e=>by cases e;rfl
 | m+1,k,s,s',e=>by
  unfold Bat at e
  have a:=Cgd (b:=b) (c:=c) (ps:=ps) (os:=os) (w:=w) (fl:=fl) (t:=t) (st:=st) (j:=j) (k:=k) (s:=s)
  cases hf:bpE b c ps os w fl t st j k s with
  | inl t1=>rw [hf] at e;exact (C0e m (k+1) t1 s' e).trans (a.1 t1 hf)
  | inr y =>
   rw [hf] at e
   cases y with
   | inl t1 =>
    have e':=a.2 t1 hf
    subst e'
    cases e
    rfl
   | inr x=>cases e
theorem Cge {bl:List (TCT Fq)} {c:TCT Bbu} {ps:Dss} {n:Nat} {w fl t st:Int} {s:S2} {s':MK} (e:buF bl c ps t st w fl n s=.inl s'):s'.1.length=s.1.length:=by
 unfold buF at e
 exact Bav (n:=n) (Inv:=fun _ (x:MK)=>x.1.length=s.1.length) (fun j x x' _ hx h3=>(C0e ps.length 0 x x' h3).trans hx) n 0 (s.1,s.2.2) s' (by omega) rfl e
theorem Cx8 {k:CT} {M:Int} {i:Nat} {x x':S2} (hM:Ms k.bl M) (h0:0<M) (hx:x.1.length=k.bl.length) (h3:tkE k i x=.inl x'):smP nE x'.1≤smP nE x.1∧x'.1.length=k.bl.length:=by
 unfold tkE at h3
 cases h1:mvF k.bl k.l k.t ((i+1:Nat):Int) k.bl.length x with
 | inr e=>rw [h1] at h3;cases h3
 | inl s1 =>
  rw [h1] at h3
  simp only at h3
  have a:=Cx3 h1
  have al:s1.1.length=k.bl.length:=(Cgc h1).trans hx
  cases h2:seF k.bl k.c k.t ((i+1:Nat):Int) k.w k.fl k.bl.length s1 with
  | inr e=>rw [h2] at h3;cases h3
  | inl s2 =>
   rw [h2] at h3
   simp only at h3
   have b:=Cx1 hM h0 (Nat.le_refl _) al h2
   have bl:=(Byy h2).trans al
   cases h4:buF k.bl k.c k.ps k.t ((i+1:Nat):Int) k.w k.fl k.bl.length (s2.1,s1.2.1,s2.2) with
   | inr e=>rw [h4] at h3;cases h3
   | inl s3 =>
    rw [h4] at h3
    cases h3
    have c:=Cx6 (s:=(s2.1,s1.2.1,s2.2)) h4
    exact ⟨Int.le_trans c (Int.le_trans b a),(Cge h4).trans bl⟩
theorem Cor {g:TCT cGr} {s:TCT cSt} {r:S2} {M:Int} (hl:Ccd g.1) (hM:Ms (No g) M) (h0:0<M) (h:StaOk g s) (e:tkF (ctS g s) (msT s,osT s,[])=.inl r):smP nE r.1≤smP nE (msT s):=by
 unfold tkF at e
 cases e0:(ctS g s).t==4000 with
 | true=>rw [e0] at e;cases e
 | false =>
  rw [e0,cond_false] at e
  cases e1:Bat (slE (ctS g s).l (osT s) (ctS g s).w (ctS g s).fl) 0 (ctS g s).bl.length (msT s) with
  | inr x=>rw [e1] at e;cases e
  | inl ms =>
   rw [e1] at e
   have q:=Bmt h
   have a:(smP nE ms≤smP nE (msT s)∧ms.length=(No g).length)∧RQ (No g) (No g).length ms (osT s)∧OL g.1 (No g).length ms (osT s):=Bav (n:=(No g).length) (Inv:=fun _ (x:Bak)=>(smP nE x≤smP nE (msT s)∧x.length=(No g).length)∧RQ (No g) (No g).length x (osT s)∧OL g.1 (No g).length x (osT s)) (fun i x x' hi hx h3=>⟨⟨Int.le_trans (Cx7 hl hx.2.1.sm h3) hx.1.1,(Ca8 h3).trans hx.1.2⟩,C6q hi h3 hx.2.1 hx.2.2⟩) (No g).length 0 _ _ (by omega) ⟨⟨Int.le_refl _,h.m⟩,q⟩ e1
   have h2:Bat (tkE (ctS g s)) 0 16 (ms,osT s,[])=.inl r:=e
   exact (Bav (n:=16) (Inv:=fun _ (x:S2)=>smP nE x.1≤smP nE (msT s)∧x.1.length=(No g).length) (fun i x x' _ hx h3=>by
    obtain ⟨b1,b2⟩:=Cx8 (k:=ctS g s) hM h0 hx.2 h3
    exact ⟨Int.le_trans b1 hx.1,b2⟩) 16 0 (ms,osT s,[]) r (by omega) a.1 h2).1
end St
end V
end Go.Proofs.YtcfanlgpkefogaaGreat
