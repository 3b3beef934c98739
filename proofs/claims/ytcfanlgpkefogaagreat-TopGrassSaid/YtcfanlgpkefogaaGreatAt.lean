import Derived.Test.YtcfanlgpkefogaaGreatAp
namespace Go.Proofs.YtcfanlgpkefogaaGreat
open Go.RowKit
namespace V
namespace St
def frS (b:TCT Fq) (o:Bool) (m:TCT Baq):TCT Baq:=bif !o&&Bii m then (Bhr b m).1 else m
def frK (b:TCT Fq) (o:Bool) (m:TCT Baq):Prop:=(!o&&Bii m)=true→(Bhr b m).2.1=0
structure FrI (bl:List (TCT Fq)) (os:List Bool) (ms:Baj) (i:Nat) (x:Baj):Prop where
 l:x.length=ms.length
 a:∀ j:Nat,j<i→V2 x j=frS (Bc1 bl j) (Bbu os j) (V2 ms j)∧frK (Bc1 bl j) (Bbu os j) (V2 ms j)
 b:∀ j:Nat,i≤j→V2 x j=V2 ms j
theorem C94 {ms:Baj} {os:List Bool} {i:Nat}:Bbo ms os i=(!Bbu os i&&Bii (V2 ms i)):=rfl
theorem Cgs {bl:List (TCT Fq)} {os:List Bool} {n:Nat} {ms ms':Baj} (hn:ms.length=n) (h:Bat (stE bl os) 0 n ms=.inl ms'):FrI bl os ms n ms' :=
 Bax (n:=n) (Inv:=fun i (x:Baj)=>FrI bl os ms i x) (fun i x x' hi q e=>by
  unfold stE at e
  have ql:=q.l
  have eb:=q.b i (Nat.le_refl _)
  rw [C94,eb] at e
  cases h1:(!Bbu os i&&Bii (V2 ms i)) with
  | false =>
   rw [h1] at e
   cases e
   refine ⟨q.l,fun j hj=>?_,fun j hj=>q.b j (by omega)⟩
   by_cases e1:j=i
   ·subst e1
    refine ⟨?_,fun h2=>by rw [h1] at h2;cases h2⟩
    unfold frS
    rw [h1];exact eb
   ·exact q.a j (by omega)
  | true =>
   rw [h1] at e
   simp only [Bool.not_true,cond_false] at e
   cases h3:(Bhr (Bc1 bl i) (V2 ms i)).2.1 != 0 with
   | true=>rw [h3] at e;cases e
   | false =>
    rw [h3] at e
    cases e
    refine ⟨(Bba _ _ _).trans q.l,fun j hj=>?_,fun j hj=>?_⟩
    ·by_cases e1:j=i
     ·subst e1
      refine ⟨?_,fun _=>bne_eq_false_iff_eq.1 h3⟩
      unfold frS
      rw [h1,Bet (by omega) rfl];rfl
     ·rw [Bdk e1];exact q.a j (by omega)
    ·rw [Bdk (by omega)];exact q.b j (by omega)) n 0 ms ms' (by omega) ⟨rfl,fun j hj=>absurd hj (Nat.not_lt_zero j),fun _ _=>rfl⟩ h
theorem Cgt {α:Type} {l:List α} {x:α} (h:l++[x]=[]):False:=by cases l <;> cases h
theorem Cgu {l:TCT Bam} {n:Nat} {T st:Int} {s s':S2} (h:Bat (lvE l T st) 0 n s=.inl s') (h0:s'.2.2=[]):s'=s:=by
 have key:s'.2.2=[]→s'=s:=Bax (n:=n) (Inv:=fun _ (x:S2)=>x.2.2=[]→x=s) (fun i x x' _ q e h1=>by
  unfold lvE at e
  cases e1:!Bav x.2.1 i (Bas .b) with
  | false=>rw [e1] at e;cases e;exact q h1
  | true =>
   rw [e1] at e
   cases e2:!onB l (V2 x.1 i).1 with
   | false=>rw [e2] at e;cases e;exact q h1
   | true=>rw [e2] at e;cases e;exact (Cgt h1).elim) n 0 s s' (by omega) (fun _=>rfl) h
 exact key h0
theorem Cgv {bl:List (TCT Fq)} {l:TCT Bam} {n:Nat} {T st:Int} {s s':S2} (hn:s.1.length=n) (h:mvF bl l T st n s=.inl s') (h0:s'.2.2=[]):s.2.2=[]∧s'.2.1=s.2.1∧FrI bl s.2.1 s.1 n s'.1:=by
 unfold mvF at h
 cases e1:Bat (stE bl s.2.1) 0 n s.1 with
 | inr x=>rw [e1] at h;cases h
 | inl ms =>
  rw [e1] at h
  have e2:=Cgu (s:=(ms,s.2.1,s.2.2)) h h0
  subst e2
  exact ⟨h0,rfl,Cgs hn e1⟩
theorem Cgw {bl:List (TCT Fq)} {c:TCT Bbv} {n:Nat} {T st w fl:Int} {s:S2} {r:Baj×Kns} (h:seF bl c T st w fl n s=.inl r) (h0:r.2=[]):s.2.2=[]∧∀ i:Nat,V2 r.1 i=V2 s.1 i:=by
 unfold seF at h
 cases he:(seS bl c w fl n s).2.2.1 != 0 with
 | true=>rw [he] at h;cases h
 | false =>
  rw [he] at h
  cases h
  have e0:=bne_eq_false_iff_eq.1 he
  have hk:(kpV (seG bl w fl n s).1 (seS bl c w fl n s).2.1 T st s.2.2).length=s.2.2.length+(seS bl c w fl n s).2.1.length:=Bz1
  have h0:kpV (seG bl w fl n s).1 (seS bl c w fl n s).2.1 T st s.2.2=[]:=h0
  rw [h0] at hk
  have k1:s.2.2=[]:=List.eq_nil_of_length_eq_zero (by simp only [List.length_nil] at hk;omega)
  have k2:(seS bl c w fl n s).2.1=[]:=List.eq_nil_of_length_eq_zero (by simp only [List.length_nil] at hk;omega)
  refine ⟨k1,fun i=>?_⟩
  have hG:InvH s.1 s.2.1 n n (seG bl w fl n s):=Bte
  have un:=Bx8 (l:=(seG bl w fl n s).2.1) (s:=(seG bl w fl n s).2.2) (re:=c.1) (dr:=c.2.1) e0
  have k2':(Bbr (seG bl w fl n s).2.1 (seG bl w fl n s).2.2 c.1 c.2.1).2.1=[]:=k2
  refine Bzb (seG bl w fl n s).1.length 0 s.1 (by omega) (fun k' hk' e=>?_) rfl
  have a:=un k' (by rw [k2'];exact fun p hp=>nomatch hp)
  have b:=(hG.h k' hk').1
  rw [e] at b
  exact a.trans b
theorem Cgx {bl:List (TCT Fq)} {c:TCT Bbv} {ps:Dss} {n:Nat} {w fl t st:Int} {s:S2} {s':MK} (e:buF bl c ps t st w fl n s=.inl s') (h0:s'.2=[]):s.2.2=[]∧s'.1=s.1:=by
 have one:∀ {b:TCT Fq} {os:List Bool} {j k:Nat} {x:MK},(∀ x',bpE b c ps os w fl t st j k x=.inl x'→x'.2=[]→x'=x)∧(∀ x',bpE b c ps os w fl t st j k x=.inr (.inl x')→x'=x):=fun {b os j k x}=>by
  unfold bpE
  cases e1:!Bbo x.1 os j||Bck w fl j with
  | true=>exact ⟨(fun x' h=>by cases h),(fun x' h=>by cases h;rfl)⟩
  | false =>
   simp only [cond_false]
   cases e2:(bmV b (V2 x.1 j) (Bdh ps k) c).2.1==0 with
   | true=>exact ⟨(fun x' h h1=>by cases h;exact (Cgt h1).elim),(fun x' h=>by cases h)⟩
   | false =>
    simp only [cond_false]
    cases e3:(bmV b (V2 x.1 j) (Bdh ps k) c).2.1==4 with
    | true=>exact ⟨(fun x' h=>by cases h),(fun x' h=>by cases h)⟩
    | false=>exact ⟨(fun x' h _=>by cases h;rfl),(fun x' h=>by cases h)⟩
 have col:∀ {b:TCT Fq} {os:List Bool} {j:Nat} (m k:Nat) (x x':MK),Bt7 (Bat (bpE b c ps os w fl t st j) k m x)=.inl x'→x'.2=[]→x'=x:=fun {b os j}=>by
  intro m
  induction m with
  | zero=>intro k x x' h _;cases h;rfl
  | succ m ih =>
   intro k x x' h h1
   unfold Bat at h
   have a:=one (b:=b) (os:=os) (j:=j) (k:=k) (x:=x)
   cases hf:bpE b c ps os w fl t st j k x with
   | inl y =>
    rw [hf] at h
    have e1:=ih (k+1) y x' h h1
    subst e1
    exact a.1 x' hf h1
   | inr y =>
    rw [hf] at h
    cases y with
    | inl y=>have e1:=a.2 y hf;subst e1;cases h;rfl
    | inr y=>cases h
 unfold buF at e
 have key:s'.2=[]→s'=(s.1,s.2.2):=Bax (n:=n) (Inv:=fun _ (x:MK)=>x.2=[]→x=(s.1,s.2.2)) (fun j x x' _ q h3 h1=>by
  have e1:=col ps.length 0 x x' h3 h1
  subst e1
  exact q h1) n 0 (s.1,s.2.2) s' (by omega) (fun _=>rfl) e
 have k:=key h0
 subst k
 exact ⟨h0,rfl⟩
theorem Cgy {k:CT} {i:Nat} {x x':S2} (hx:x.1.length=k.bl.length) (h3:tkE k i x=.inl x') (h0:x'.2.2=[]):x.2.2=[]∧x'.2.1=x.2.1∧x'.1.length=k.bl.length∧∀ j:Nat,j<k.bl.length→V2 x'.1 j=frS (Bc1 k.bl j) (Bbu x.2.1 j) (V2 x.1 j)∧frK (Bc1 k.bl j) (Bbu x.2.1 j) (V2 x.1 j):=by
 have len:=(fun (h3:tkE k i x=.inl x')=>by
  unfold tkE at h3
  cases h1:mvF k.bl k.l k.t ((i+1:Nat):Int) k.bl.length x with
  | inr e=>rw [h1] at h3;cases h3
  | inl s1 =>
   rw [h1] at h3
   simp only at h3
   cases h2:seF k.bl k.c k.t ((i+1:Nat):Int) k.w k.fl k.bl.length s1 with
   | inr e=>rw [h2] at h3;cases h3
   | inl s2 =>
    rw [h2] at h3
    simp only at h3
    cases h4:buF k.bl k.c k.ps k.t ((i+1:Nat):Int) k.w k.fl k.bl.length (s2.1,s1.2.1,s2.2) with
    | inr e=>rw [h4] at h3;cases h3
    | inl s3 =>
     rw [h4] at h3
     cases h3
     obtain ⟨b1,b2⟩:=Cgx (s:=(s2.1,s1.2.1,s2.2)) h4 h0
     obtain ⟨c1,c2⟩:=Cgw h2 b1
     obtain ⟨a1,a2,a3⟩:=Cgv hx h1 c1
     have l1:s3.1.length=k.bl.length:=(C0s h4).trans ((Brq h2).trans (a3.l.trans hx))
     refine ⟨a1,a2,l1,fun j hj=>?_⟩
     have e:V2 s3.1 j=V2 s1.1 j:=by rw [b2];exact c2 j
     obtain ⟨d1,d2⟩:=a3.a j hj
     exact ⟨e.trans d1,d2⟩:tkE k i x=.inl x'→x.2.2=[]∧x'.2.1=x.2.1∧x'.1.length=k.bl.length∧∀ j:Nat,j<k.bl.length→V2 x'.1 j=frS (Bc1 k.bl j) (Bbu x.2.1 j) (V2 x.1 j)∧frK (Bc1 k.bl j) (Bbu x.2.1 j) (V2 x.1 j))
 exact len h3
def frN (b:TCT Fq) (o:Bool):Nat→TCT Baq→TCT Baq
 | 0,m=>m
 | k+1,m=>frN b o k (frS b o m)
theorem C95 {b:TCT Fq} {o:Bool}:∀ (k:Nat) (m:TCT Baq),frS b o (frN b o k m)=frN b o (k+1) m
 | 0,_=>rfl
 | k+1,m=>C95 k (frS b o m)
def frA (b:TCT Fq) (o:Bool) (k:Nat) (m:TCT Baq):Prop:=∀ i:Nat,i<k→frK b o (frN b o i m)
def slS (l:TCT Bam) (o:Bool) (f:Bool) (m:TCT Baq):TCT Baq:=bif (!o&&Bii m)&&!f then Bsw l m else m
def slK (l:TCT Bam) (o:Bool) (f:Bool) (m:TCT Baq):Prop:=((!o&&Bii m)&&!f)=true→Bdr l m.1=0∧(Bhq l m).2.1=0
structure SlI (l:TCT Bam) (os:List Bool) (w fl:Int) (ms:Baj) (i:Nat) (x:Baj):Prop where
 ll:x.length=ms.length
 a:∀ j:Nat,j<i→V2 x j=slS l (Bbu os j) (Bck w fl j) (V2 ms j)∧slK l (Bbu os j) (Bck w fl j) (V2 ms j)
 b:∀ j:Nat,i≤j→V2 x j=V2 ms j
theorem Cxs {a b:Bool}:(!a||b)=!(a&&!b):=by cases a <;> cases b <;> rfl
theorem Cgz {l:TCT Bam} {os:List Bool} {w fl:Int} {n:Nat} {ms ms':Baj} (hn:ms.length=n) (h:Bat (slE l os w fl) 0 n ms=.inl ms'):SlI l os w fl ms n ms' :=
 Bax (n:=n) (Inv:=fun i (x:Baj)=>SlI l os w fl ms i x) (fun i x x' hi q e=>by
  unfold slE at e
  have ql:=q.ll
  have eb:=q.b i (Nat.le_refl _)
  rw [C94,eb,Cxs] at e
  cases h1:((!Bbu os i&&Bii (V2 ms i))&&!Bck w fl i) with
  | false =>
   rw [h1] at e
   cases e
   refine ⟨q.ll,fun j hj=>?_,fun j hj=>q.b j (by omega)⟩
   by_cases e1:j=i
   ·subst e1
    refine ⟨?_,fun h2=>by rw [h1] at h2;cases h2⟩
    unfold slS
    rw [h1];exact eb
   ·exact q.a j (by omega)
  | true =>
   rw [h1] at e
   simp only [Bool.not_true,cond_false] at e
   cases h2:Bdr l (V2 ms i).1 != 0 with
   | true=>rw [h2] at e;cases e
   | false =>
    rw [h2] at e
    cases h3:(Bhq l (V2 ms i)).2.1 != 0 with
    | true=>rw [h3] at e;cases e
    | false =>
     rw [h3] at e
     cases e
     refine ⟨(Bba _ _ _).trans q.ll,fun j hj=>?_,fun j hj=>?_⟩
     ·by_cases e1:j=i
      ·subst e1
       refine ⟨?_,fun _=>⟨bne_eq_false_iff_eq.1 h2,bne_eq_false_iff_eq.1 h3⟩⟩
       unfold slS
       rw [h1,Bet (by omega) rfl];rfl
      ·rw [Bdk e1];exact q.a j (by omega)
     ·rw [Bdk (by omega)];exact q.b j (by omega)) n 0 ms ms' (by omega) ⟨rfl,fun j hj=>absurd hj (Nat.not_lt_zero j),fun _ _=>rfl⟩ h
structure TkI (bl:List (TCT Fq)) (os:List Bool) (ms:Baj) (i:Nat) (x:S2):Prop where
 l:x.1.length=bl.length
 o:x.2.1=os
 a:∀ j:Nat,j<bl.length→V2 x.1 j=frN (Bc1 bl j) (Bbu os j) i (V2 ms j)∧frA (Bc1 bl j) (Bbu os j) i (V2 ms j)
theorem Ccr {g:TCT cGr} {s:TCT cSt} {r:S2} (h:StaOk g s) (e:tkF (ctS g s) (msT s,osT s,[])=.inl r) (h0:r.2.2=[]) :
  ∃ ms:Baj,SlI g.1 (osT s) s.2.2.1 s.2.2.2.1 (msT s) (Fp g).length ms∧RQ (Fp g) (Fp g).length ms (osT s)∧TkI (Fp g) (osT s) ms 16 r:=by
 unfold tkF at e
 cases e0:(ctS g s).t==4000 with
 | true=>rw [e0] at e;cases e
 | false =>
  rw [e0,cond_false] at e
  cases e1:Bat (slE (ctS g s).l (osT s) (ctS g s).w (ctS g s).fl) 0 (ctS g s).bl.length (msT s) with
  | inr x=>rw [e1] at e;cases e
  | inl ms =>
   rw [e1] at e
   have sl:SlI g.1 (osT s) s.2.2.1 s.2.2.2.1 (msT s) (Fp g).length ms:=Cgz h.m e1
   have rq:RQ (Fp g) (Fp g).length ms (osT s)∧OL g.1 (Fp g).length ms (osT s):=Bax (n:=(Fp g).length) (Inv:=fun _ (x:Baj)=>RQ (Fp g) (Fp g).length x (osT s)∧OL g.1 (Fp g).length x (osT s)) (fun i x x' hi hq h=>C74 hi h hq.1 hq.2) (Fp g).length 0 _ _ (by omega) (Bmw h) e1
   refine ⟨ms,sl,rq.1,?_⟩
   have h2:Bat (tkE (ctS g s)) 0 16 (ms,osT s,[])=.inl r:=e
   have key:r.1.length=(Fp g).length∧(r.2.2=[]→TkI (Fp g) (osT s) ms 16 r):=Bax (n:=16) (Inv:=fun i (x:S2)=>x.1.length=(Fp g).length∧(x.2.2=[]→TkI (Fp g) (osT s) ms i x)) (fun i x x' _ q h3=>by
    have lx:x'.1.length=(Fp g).length:=by
     have h3:tkE (ctS g s) i x=.inl x':=h3
     unfold tkE at h3
     cases h1:mvF (ctS g s).bl (ctS g s).l (ctS g s).t ((i+1:Nat):Int) (ctS g s).bl.length x with
     | inr e=>rw [h1] at h3;cases h3
     | inl s1 =>
      rw [h1] at h3
      simp only at h3
      cases h2:seF (ctS g s).bl (ctS g s).c (ctS g s).t ((i+1:Nat):Int) (ctS g s).w (ctS g s).fl (ctS g s).bl.length s1 with
      | inr e=>rw [h2] at h3;cases h3
      | inl s2 =>
       rw [h2] at h3
       simp only at h3
       cases h4:buF (ctS g s).bl (ctS g s).c (ctS g s).ps (ctS g s).t ((i+1:Nat):Int) (ctS g s).w (ctS g s).fl (ctS g s).bl.length (s2.1,s1.2.1,s2.2) with
       | inr e=>rw [h4] at h3;cases h3
       | inl s3 =>
        rw [h4] at h3
        cases h3
        exact (C0s h4).trans ((Brq h2).trans ((Cgq h1).trans q.1))
    refine ⟨lx,fun h0=>?_⟩
    obtain ⟨a1,a2,a3,a4⟩:=Cgy (k:=ctS g s) q.1 h3 h0
    have t:=q.2 a1
    have to:=t.o
    refine ⟨a3,a2.trans to,fun j hj=>?_⟩
    obtain ⟨b1,b2⟩:=a4 j hj
    obtain ⟨c1,c2⟩:=t.a j hj
    have b1:V2 x'.1 j=frS (Bc1 (Fp g) j) (Bbu x.2.1 j) (V2 x.1 j):=b1
    have b2:frK (Bc1 (Fp g) j) (Bbu x.2.1 j) (V2 x.1 j):=b2
    rw [to,c1] at b1 b2
    refine ⟨b1.trans (C95 i _),fun k hk=>?_⟩
    by_cases e:k=i
    ·subst e;exact b2
    ·exact c2 k (by omega)) 16 0 (ms,osT s,[]) r (by omega) ⟨rq.1.m,fun _=>⟨rq.1.m,rfl,fun j _=>⟨rfl,fun k hk=>absurd hk (Nat.not_lt_zero k)⟩⟩⟩ h2
   exact key.2 h0
theorem Cxt {b:TCT Fq} {m:TCT Baq} (h:(Bhr b m).2.1=0):(Bhr b m).1=mot (stB (bm b m))∧fpt (sX (bm b m)) (sY (bm b m))=true:=by
 have h':(Bgt (bm b m)).2.1=0:=h
 show (Bgt (bm b m)).1=_∧_
 unfold Bgt at h' ⊢
 cases h1:(bm b m).ok with
 | false=>rw [h1] at h';cases h'
 | true =>
  rw [h1] at h'
  simp only [Bool.not_true,cond_false] at h' ⊢
  cases h2:fpt (sX (bm b m)) (sY (bm b m)) with
  | false=>rw [h2] at h';cases h'
  | true=>exact ⟨rfl,rfl⟩
theorem Bs7 {b:TCT Fq}:∀ (k:Nat) (m:TCT Baq),Bii m=true→frA b false k m→Bn3 k (bm b m)=true∧frN b false k m=mot (V.stE k (bm b m))
 | 0,m,_,_=>⟨rfl,rfl⟩
 | k+1,m,hm,h=>by
  have h0:(Bhr b m).2.1=0:=h 0 (by omega) (by show (!false&&Bii m)=true;rw [hm];rfl)
  obtain ⟨e1,e2⟩:=Cxt h0
  have e3:frS b false m=mot (stB (bm b m)):=by unfold frS;rw [hm];exact e1
  have hm2:Bii (frS b false m)=true:=by
   rw [e3];exact hm
  have ih:=Bs7 k (frS b false m) hm2 (fun i hi=>h (i+1) (by omega))
  have e4:bm b (frS b false m)=stB (bm b m):=by rw [e3];rfl
  rw [e4] at ih
  refine ⟨?_,?_⟩
  ·unfold Bn3;rw [e2];exact ih.1
  ·show frN b false k (frS b false m)=mot (V.stE (k+1) (bm b m))
   unfold V.stE;rw [e2];exact ih.2
theorem Bs8 {a:Bm} (h:a.Fit) (hx:a.mx=0) (hy:a.my=0):∀ k:Nat,Bn3 k a=true
 | 0=>rfl
 | k+1=>by
  have m1:=h.m1
  have rz:∀ r:Int,-(32*a.m)≤r→r≤32*a.m-1→DW r (64*a.m)=0∧DR r (64*a.m)=r:=fun r h1 h2=>by
   obtain ⟨d1,d2,d3⟩:=Bzc r (64*a.m) (by omega)
   have z:DW r (64*a.m)=0:=by
    rcases Int.lt_trichotomy (DW r (64*a.m)) 0 with q | q | q
    ·have:DW r (64*a.m)*(64*a.m) ≤ -1*(64*a.m):=Int.mul_le_mul_of_nonneg_right (by omega) (by omega)
     omega
    ·exact q
    ·have:1*(64*a.m)≤DW r (64*a.m)*(64*a.m):=Int.mul_le_mul_of_nonneg_right (by omega) (by omega)
     omega
   rw [z,Int.zero_mul,Int.zero_add] at d1
   exact ⟨z,d1.symm⟩
  obtain ⟨x1,x2⟩:=rz a.rx h.rx1 h.rx2
  obtain ⟨y1,y2⟩:=rz a.ry h.ry1 h.ry2
  have e:stB a=a:=by
   have sx:sX a=a.px:=by unfold sX;rw [hx,Int.zero_add,x1,Int.add_zero]
   have sy:sY a=a.py:=by unfold sY;rw [hy,Int.zero_add,y1,Int.add_zero]
   unfold stB
   rw [sx,sy,show a.mx+a.rx=a.rx by omega,show a.my+a.ry=a.ry by omega,x2,y2]
  have f:fpt (sX a) (sY a)=true:=by
   have sx:sX a=a.px:=by unfold sX;rw [hx,Int.zero_add,x1,Int.add_zero]
   have sy:sY a=a.py:=by unfold sY;rw [hy,Int.zero_add,y1,Int.add_zero]
   rw [sx,sy];exact h.p
  unfold Bn3
  rw [f,e]
  exact Bs8 h hx hy k
end St
end V
end Go.Proofs.YtcfanlgpkefogaaGreat
