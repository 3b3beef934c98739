import Derived.Test.YtlangijnealfjaaGreatWc
namespace Go.Proofs.YtlangijnealfjaaGreat
open Go.RowKit
namespace V
namespace Wi
open St Tp
structure GdK (n:Nat) (x:TCT cKn):Prop where
 b:0≤x.2.2.2.1∧x.2.2.2.1<(n:Int)
 o:x.2.2.1=0→0≤x.2.2.2.2.1∧x.2.2.2.2.1<(n:Int)
 t:0≤x.1∧x.1≤1000
def shK (x:TCT cKn):Bool:=x.2.2.2.1 != 0||(x.2.2.1==0&&x.2.2.2.2.1 != 0)
def Rf (x:TCT cKn):List (TCT cMk):=[mkM 5 x.2.2.2.1 x.1 x.1]++((bif x.2.2.1==0 then [mkM 5 x.2.2.2.2.1 x.1 x.1] else [])++bif x.2.2.1==1&&x.2.2.2.1==0 then [mkM 3 0 x.1 x.1] else [])
theorem Ab6 (x:TCT cKn):(Rf x).length≤2:=by
 unfold Rf
 by_cases h:x.2.2.1=0
 ·have e:(x.2.2.1==1)=false:=by rw [h];rfl
  rw [e]
  cases x.2.2.1==0 <;> simp
 ·have e:(x.2.2.1==0)=false:=beq_eq_false_iff_ne.2 h
  rw [e]
  cases x.2.2.1==1&&x.2.2.2.1==0 <;> simp
theorem Af3 {ms:List (TCT cMk)} {m:TCT cMk} {k:List (TCT cMk)→Tree CW0} (h:ms.length≤1000):Ab2 ms m k=k (ms++[m]):=by
 unfold Ab2
 rw [Hi (by rw [List.length_singleton];omega) (by decide),cond_true]
theorem B5u {q:QW} {sh:Bool} {ks:Kns} {i:Int} {x:TCT cKn} {ms:List (TCT cMk)} (h:ms.length≤500):B33 q sh ks i x ms=Nm q sh ks i (ms++bif x.2.2.1==1&&x.2.2.2.1==0 then [mkM 3 0 x.1 x.1] else []):=by
 unfold B33
 cases x.2.2.1==1 with
 | false=>show Nm q sh ks i ms=Nm q sh ks i (ms++[]);rw [List.append_nil]
 | true =>
  cases x.2.2.2.1==0 with
  | false=>show Nm q sh ks i ms=Nm q sh ks i (ms++[]);rw [List.append_nil]
  | true=>rw [cond_true,cond_true,Af3 (by omega)];rfl
theorem Avi {q:QW} {sh:Bool} {ks:Kns} {i:Int} {x:TCT cKn} {ms:List (TCT cMk)} (h:ms.length≤400):Am8 q ks i x ms sh=Nm q sh ks i (ms++Rf x):=by
 unfold Am8 Rf
 rw [Af3 (by omega)]
 cases x.2.2.1==0 with
 | true=>rw [cond_true,cond_true,Af3 (by rw [List.length_append,List.length_singleton];omega),B5u (by rw [List.length_append,List.length_append,List.length_singleton,List.length_singleton];omega),List.append_assoc,List.append_assoc]
 | false=>rw [cond_false,cond_false,B5u (by rw [List.length_append,List.length_singleton];omega),List.append_assoc];rfl
theorem Bfw {q:QW} {sh:Bool} {ks:Kns} {i:Int} {x:TCT cKn} {ms:List (TCT cMk)} (h:ms.length≤400):B34 q ks i x ms sh=Nm q (sh||shK x) ks i (ms++Rf x):=by
 unfold B34 shK
 rw [Avi h,Avi h,Avi h]
 cases sh with
 | true=>rfl
 | false =>
  cases x.2.2.2.1 != 0 with
  | true=>rfl
  | false=>cases x.2.2.1==0 <;> rfl
theorem Bfx {q:QW} {sh:Bool} {ks:Kns} {i:Int} {x:TCT cKn} {ms:List (TCT cMk)} (h:ms.length≤400) (g:GdK q.l.length x):Bat q ks i x ms sh=Nm q (sh||shK x) ks i (ms++Rf x):=by
 unfold Bat
 have hb:=g.b
 rw [decide_eq_false (Int.not_lt.2 hb.1),decide_eq_false (Int.not_le.2 hb.2),Bfw h]
 cases hz:x.2.2.1==0 with
 | false=>rfl
 | true =>
  have ho:=g.o (beq_iff_eq.1 hz)
  rw [decide_eq_false (Int.not_lt.2 ho.1),decide_eq_false (Int.not_le.2 ho.2)]
  rfl
theorem B5v {q:QW} {ks:Kns} (hk:ks.length≤25) (hg:∀ x ∈ ks,GdK q.l.length x):∀ (n i f:Nat) (ms:List (TCT cMk)) (sh:Bool),i+n=ks.length→n+1≤f→ms.length≤1+2*i →
  iter A16 f (A40 q ms sh ks (i:Int))=some (Aiz q (ms++(ks.drop i).flatMap Rf) (sh||(ks.drop i).any shK))
 | _,_,0,_,_,_,hf,_=>by omega
 | 0,i,f+1,ms,sh,hn,_,_=>by
  have e:i=ks.length:=by omega
  subst e
  refine G7 ?_
  show (Ab3 q ms sh ks (ks.length:Int)).run=_
  unfold Ab3
  rw [decide_eq_false (Int.lt_irrefl _),List.drop_length]
  show some (Sum.inr (Aiz q ms sh))=some (.inr (Aiz q (ms++[]) (sh||false)))
  rw [List.append_nil,Bool.or_false]
 | n+1,i,f+1,ms,sh,hn,hf,hm=>by
  have hi:i<ks.length:=by omega
  have hd:ks.drop i=ks[i]::ks.drop (i+1):=List.drop_eq_getElem_cons hi
  have hl:=Ab6 ks[i]
  have ih:=B5v hk hg n (i+1) f (ms++Rf ks[i]) (sh||shK ks[i]) (by omega) (by omega) (by rw [List.length_append];omega)
  rw [hd,List.flatMap_cons,List.any_cons,← List.append_assoc,← Bool.or_assoc]
  refine (Ez ?_).trans ih
  show (Ab3 q ms sh ks (i:Int)).run=_
  unfold Ab3
  rw [decide_eq_true (show (i:Int)<(ks.length:Int) by omega),cond_true,F3 (by omega),show Int.toNat (i:Int)=i by omega,De hi,Bfx (by omega) (hg _ (List.getElem_mem hi))]
  unfold Nm
  rw [Be (n:=(i:Int)+1) (by omega) (by omega)]
  rfl
theorem Bh {c:Bool} {nm t:ByteArray} {out:List ByteArray}:Ll (adF c nm out) t=(Ll out t||(c&&eqS nm t)):=by
 unfold adF Ll
 cases c with
 | true=>rw [cond_true,List.any_append,List.any_cons,List.any_nil,Bool.or_false,Bool.true_and]
 | false=>rw [cond_false,Bool.false_and,Bool.or_false]
theorem Bjm (sc:TCT cSc):Ll (Gy sc) nm0=cd0 sc:=by
 unfold Gy
 rw [Bh,Bh,Bh,Bh,Bh,Bh,Bh,Bh,Bh,Bh,show eqS nm0 nm0=true from rfl,show eqS nm1 nm0=false from rfl,show eqS nm2 nm0=false from rfl,show eqS nm3 nm0=false from rfl,show eqS nm4 nm0=false from rfl,show eqS nm5 nm0=false from rfl,show eqS nm6 nm0=false from rfl,show eqS nm7 nm0=false from rfl,show eqS nm8 nm0=false from rfl,show eqS nm9 nm0=false from rfl]
 simp only [Bool.and_true,Bool.and_false,Bool.or_false]
 rfl
theorem Bjn (sc:TCT cSc):Ll (Gy sc) nm1=cd1 sc:=by
 unfold Gy
 rw [Bh,Bh,Bh,Bh,Bh,Bh,Bh,Bh,Bh,Bh,show eqS nm0 nm1=false from rfl,show eqS nm1 nm1=true from rfl,show eqS nm2 nm1=false from rfl,show eqS nm3 nm1=false from rfl,show eqS nm4 nm1=false from rfl,show eqS nm5 nm1=false from rfl,show eqS nm6 nm1=false from rfl,show eqS nm7 nm1=false from rfl,show eqS nm8 nm1=false from rfl,show eqS nm9 nm1=false from rfl]
 simp only [Bool.and_true,Bool.and_false,Bool.or_false]
 rfl
theorem Bjo (sc:TCT cSc):Ll (Gy sc) nm2=cd2 sc:=by
 unfold Gy
 rw [Bh,Bh,Bh,Bh,Bh,Bh,Bh,Bh,Bh,Bh,show eqS nm0 nm2=false from rfl,show eqS nm1 nm2=false from rfl,show eqS nm2 nm2=true from rfl,show eqS nm3 nm2=false from rfl,show eqS nm4 nm2=false from rfl,show eqS nm5 nm2=false from rfl,show eqS nm6 nm2=false from rfl,show eqS nm7 nm2=false from rfl,show eqS nm8 nm2=false from rfl,show eqS nm9 nm2=false from rfl]
 simp only [Bool.and_true,Bool.and_false,Bool.or_false]
 rfl
theorem Bjp (sc:TCT cSc):Ll (Gy sc) nm8=cd8 sc:=by
 unfold Gy
 rw [Bh,Bh,Bh,Bh,Bh,Bh,Bh,Bh,Bh,Bh,show eqS nm0 nm8=false from rfl,show eqS nm1 nm8=false from rfl,show eqS nm2 nm8=false from rfl,show eqS nm3 nm8=false from rfl,show eqS nm4 nm8=false from rfl,show eqS nm5 nm8=false from rfl,show eqS nm6 nm8=false from rfl,show eqS nm7 nm8=false from rfl,show eqS nm8 nm8=true from rfl,show eqS nm9 nm8=false from rfl]
 simp only [Bool.and_true,Bool.and_false,Bool.or_false]
 rfl
theorem has9 (sc:TCT cSc):Ll (Gy sc) nm9=cd9 sc:=by
 unfold Gy
 rw [Bh,Bh,Bh,Bh,Bh,Bh,Bh,Bh,Bh,Bh,show eqS nm0 nm9=false from rfl,show eqS nm1 nm9=false from rfl,show eqS nm2 nm9=false from rfl,show eqS nm3 nm9=false from rfl,show eqS nm4 nm9=false from rfl,show eqS nm5 nm9=false from rfl,show eqS nm6 nm9=false from rfl,show eqS nm7 nm9=false from rfl,show eqS nm8 nm9=false from rfl,show eqS nm9 nm9=true from rfl]
 simp only [Bool.and_true,Bool.and_false,Bool.or_false]
 rfl
def Hf (ks:Kns) (tw:Bool):List (TCT cMk):=([mkM 0 0 0 0]++ks.flatMap Rf)++bif tw then [mkM 0 0 1000 1000] else []
theorem N8 (k:Int) (a b:List (TCT cMk)):flt k (a++b)=flt k a++flt k b:=List.filter_append _ _
theorem Avj:∀ (ks:Kns),(ks.flatMap Rf).length≤2*ks.length
 | []=>Nat.zero_le _
 | x::ks=>by
  rw [List.flatMap_cons,List.length_append,List.length_cons]
  have h1:=Ab6 x
  have h2:=Avj ks
  omega
theorem Aj3 {ks:Kns} {tw:Bool} (h:ks.length≤25):(Hf ks tw).length≤64:=by
 have h1:=Avj ks
 unfold Hf
 rw [List.length_append,List.length_append,List.length_singleton]
 cases tw with
 | true=>rw [cond_true,List.length_singleton];omega
 | false=>rw [cond_false,List.length_nil];omega
theorem Avk {x:TCT cKn} {m:TCT cMk} (h:m ∈ Rf x):(m=mkM 5 x.2.2.2.1 x.1 x.1)∨(x.2.2.1=0∧m=mkM 5 x.2.2.2.2.1 x.1 x.1)∨m=mkM 3 0 x.1 x.1:=by
 unfold Rf at h
 rcases List.mem_append.1 h with h | h
 ·exact .inl (List.mem_singleton.1 h)
 ·rcases List.mem_append.1 h with h | h
  ·cases hz:x.2.2.1==0 with
   | true=>rw [hz] at h;exact .inr (.inl ⟨beq_iff_eq.1 hz,List.mem_singleton.1 h⟩)
   | false=>rw [hz] at h;exact nomatch h
  ·cases hz:x.2.2.1==1&&x.2.2.2.1==0 with
   | true=>rw [hz] at h;exact .inr (.inr (List.mem_singleton.1 h))
   | false=>rw [hz] at h;exact nomatch h
theorem A1a {k b t:Int} (hk:0≤k∧k≤5) (hb:0≤b∧b<4) (ht:0≤t∧t≤1000):Ri (mkM k b t t)=true:=by
 show (decide (k≥0)&&(decide (k≤5)&&(decide (b≥0)&&(decide (b<4)&&(decide (t≥0)&&(decide (t≤t)&&decide (t≤1048576)))))))=true
 rw [decide_eq_true (show k≥0 by omega),decide_eq_true (show k≤5 by omega),decide_eq_true (show b≥0 by omega),decide_eq_true (show b<4 by omega),decide_eq_true (show t≥0 by omega),decide_eq_true (show t≤t by omega),decide_eq_true (show t≤1048576 by omega)]
 rfl
theorem B37 {ks:Kns} {tw:Bool} {n:Nat} (hn:n≤4) (hg:∀ x ∈ ks,GdK n x):∀ m ∈ Hf ks tw,Ri m=true:=by
 intro m hm
 unfold Hf at hm
 rcases List.mem_append.1 hm with hm | hm
 ·rcases List.mem_append.1 hm with hm | hm
  ·rw [List.mem_singleton.1 hm];exact A1a (by omega) (by omega) (by omega)
  ·obtain ⟨x,hx,hm⟩:=List.mem_flatMap.1 hm
   have g:=hg x hx
   rcases Avk hm with e | ⟨e0,e⟩ | e
   ·rw [e];exact A1a (by omega) ⟨g.b.1,Int.lt_of_lt_of_le g.b.2 (by omega)⟩ g.t
   ·rw [e];exact A1a (by omega) ⟨(g.o e0).1,Int.lt_of_lt_of_le (g.o e0).2 (by omega)⟩ g.t
   ·rw [e];exact A1a (by omega) (by omega) g.t
 ·cases tw with
  | true=>rw [List.mem_singleton.1 hm];exact A1a (by omega) (by omega) (by omega)
  | false=>exact nomatch hm
theorem Avl {k:Int} {ks:Kns} (h5:¬ k=5) (h3:¬ k=3):flt k (ks.flatMap Rf)=[]:=by
 unfold flt
 rw [List.filter_eq_nil_iff]
 intro m hm
 obtain ⟨x,_,hm⟩:=List.mem_flatMap.1 hm
 have e:mK m=5∨mK m=3:=by
  rcases Avk hm with e | ⟨_,e⟩ | e
  ·rw [e];exact .inl rfl
  ·rw [e];exact .inl rfl
  ·rw [e];exact .inr rfl
 rw [beq_iff_eq]
 omega
theorem B38 {ks:Kns} {tw:Bool}:flt 0 (Hf ks tw)=[mkM 0 0 0 0]++bif tw then [mkM 0 0 1000 1000] else []:=by
 unfold Hf
 rw [N8,N8,Avl (by decide) (by decide),List.append_nil]
 cases tw <;> rfl
theorem Aj4 {p:TCT cMk→Bool} {ks:Kns} {tw:Bool}:(flt 5 (Hf ks tw)).any p=ks.any fun x=>p (mkM 5 x.2.2.2.1 x.1 x.1)||(x.2.2.1==0&&p (mkM 5 x.2.2.2.2.1 x.1 x.1)):=by
 unfold Hf
 rw [N8,N8]
 have h0:flt 5 [mkM 0 0 0 0]=[]:=rfl
 have h1:flt 5 (bif tw then [mkM 0 0 1000 1000] else [])=[]:=by cases tw <;> rfl
 rw [h0,h1,List.nil_append,List.append_nil]
 induction ks with
 | nil=>rfl
 | cons x ks ih =>
  rw [List.flatMap_cons,N8,List.any_append,ih,List.any_cons]
  congr 1
  unfold Rf
  rw [N8,N8,List.any_append,List.any_append]
  have a1:flt 5 [mkM 5 x.2.2.2.1 x.1 x.1]=[mkM 5 x.2.2.2.1 x.1 x.1]:=rfl
  have a2:flt 5 (bif x.2.2.1==0 then [mkM 5 x.2.2.2.2.1 x.1 x.1] else [])=bif x.2.2.1==0 then [mkM 5 x.2.2.2.2.1 x.1 x.1] else []:=by cases x.2.2.1==0 <;> rfl
  have a3:flt 5 (bif x.2.2.1==1&&x.2.2.2.1==0 then [mkM 3 0 x.1 x.1] else [])=[]:=by cases x.2.2.1==1&&x.2.2.2.1==0 <;> rfl
  rw [a1,a2,a3,List.any_nil,Bool.or_false,List.any_cons,List.any_nil,Bool.or_false]
  cases x.2.2.1==0 with
  | true=>rw [cond_true,List.any_cons,List.any_nil,Bool.or_false,Bool.true_and]
  | false=>rfl
end Wi
end V
end Go.Proofs.YtlangijnealfjaaGreat
namespace Go.Proofs.YtlangijnealfjaaGreat
open Go.RowKit
namespace V
namespace Wi
open St Tp
theorem Bfy {g:TCT cGr} {s:TCT cSt} {w:TCT cBw} (h:(skV g s w).2.2.1=0):∀ x ∈ ((skV g s w).2.1:Kns),x.2.2.1=0∧x.1=0:=by
 obtain ⟨k,e⟩:=Ahh h
 rw [e] at h ⊢
 unfold skG at h ⊢
 cases h4:w.2.2.2.1==4 with
 | true=>exact fun x hx=>nomatch (show x ∈ ([]:Kns) from hx)
 | false =>
  rw [h4] at h
  simp only [cond_false] at h ⊢
  cases hf:seF (A2 g) g.2.2.1 0 0 w.1 0 (A2 g).length (He (msT s) w.1 (St.twP w),osT s,[]) with
  | inr x=>rw [hf] at h;exact absurd h (Yl hf)
  | inl r =>
   have hk:∀ x ∈ r.2,x.2.2.1=0∧x.1=0:=by
    unfold seF at hf
    cases he:(seS (A2 g) g.2.2.1 w.1 0 (A2 g).length (He (msT s) w.1 (St.twP w),osT s,[])).2.2.1 != 0 with
    | true=>rw [he] at hf;cases hf
    | false =>
     rw [he] at hf
     cases hf
     obtain ⟨l,e1,e2,_⟩:=Adg (W:=(seG (A2 g) w.1 0 (A2 g).length (He (msT s) w.1 (St.twP w),osT s,[])).1) (P:=(seS (A2 g) g.2.2.1 w.1 0 (A2 g).length (He (msT s) w.1 (St.twP w),osT s,[])).2.1) (t:=0) (st:=0) (seS (A2 g) g.2.2.1 w.1 0 (A2 g).length (He (msT s) w.1 (St.twP w),osT s,[])).2.1.length 0 [] (Nat.zero_add _)
     intro x hx
     have hx:x ∈ unE (Ax (kpE (seG (A2 g) w.1 0 (A2 g).length (He (msT s) w.1 (St.twP w),osT s,[])).1 (seS (A2 g) g.2.2.1 w.1 0 (A2 g).length (He (msT s) w.1 (St.twP w),osT s,[])).2.1 0 0) 0 (seS (A2 g) g.2.2.1 w.1 0 (A2 g).length (He (msT s) w.1 (St.twP w),osT s,[])).2.1.length []):=hx
     rw [e1,List.nil_append] at hx
     obtain ⟨p,_,rfl⟩:=e2 x hx
     exact ⟨rfl,rfl⟩
   rw [hf] at h
   show ∀ x ∈ ((skF (osT s) w (.inl (r.1,r.2))).2.1:Kns),x.2.2.1=0∧x.1=0
   unfold skF
   simp only
   cases decide ((r.2.length:Int)>0) with
   | false=>exact hk
   | true =>
    cases A56 (skM r.1 w) w.1 with
    | true=>exact fun x hx=>nomatch (show x ∈ ([]:Kns) from hx)
    | false=>exact hk
theorem Bfz {a:Int} {n:Nat} (h:0≤a∧a≤4000):W64 (a+1)=a+1:=Be (by omega) (by omega)
theorem B39 {x a:Int} {n:Nat} (h:x≤a+1+(n:Int)):x≤a+((n+1:Nat):Int):=by omega
theorem Af4 {g:TCT cGr} {i:Nat}:∀ (n:Nat) (s:TCT cSt) (ks:Kns) (r:TCT cSt×Kns),StaOk g s→rnS g n s ks=.inl r→REL i (msT s,osT s,ks) (msT r.1,osT r.1,r.2)∧r.1.2.2.2.2.1≤s.2.2.2.2.1+(n:Int)
 | 0,s,ks,r,h,e=>by
  rw [S0] at e
  cases hm:decide ((ks.length:Int)>4096) with
  | true=>rw [hm] at e;cases e
  | false=>rw [hm] at e;cases e;exact ⟨REL.refl,Int.le_of_eq (Int.add_zero _).symm⟩
 | n+1,s,ks,r,h,e=>by
  rw [S1] at e
  cases hm:decide ((ks.length:Int)>4096) with
  | true=>rw [hm] at e;cases e
  | false =>
   rw [hm] at e
   cases hs:D5 s with
   | true=>rw [hs] at e;cases e;exact ⟨REL.refl,Int.le_add_of_nonneg_right (Int.natCast_nonneg _)⟩
   | false =>
    rw [hs] at e
    simp only [Bool.not_false,cond_true,cond_false] at e
    cases ht:tkF (ctS g s) (msT s,osT s,ks) with
    | inr x=>rw [ht] at e;cases e
    | inl x =>
     rw [ht] at e
     have hn:(0≤s.2.2.1∧s.2.2.1<((A2 g).length:Int))∧(0≤s.2.2.2.1∧s.2.2.2.1≤8)∧(0≤s.2.2.2.2.1∧s.2.2.2.2.1≤4000):=Ade h.num
     have et:(nxS s x).2.2.2.2.1=s.2.2.2.2.1+1:=Bfz (n:=n) hn.2.2
     have R:REL i (msT s,osT s,ks) x:=Ahd (k:=ctS g s) h.n8 ht
     obtain ⟨R2,t2⟩:=Af4 n (nxS s x) x.2.2 r (O1 h ht) e
     rw [et] at t2
     exact ⟨R.trans R2,B39 t2⟩
theorem Baw (a:TCT cPt):Av9 a a=true:=by unfold Av9;rw [beq_self_eq_true,beq_self_eq_true];rfl
theorem Bjq (a:TCT B0):Bau a a=true:=by unfold Bau;rw [Baw,Baw,Baw];rfl
theorem B5w {q:QW} {sh:Bool} {fs:List ByteArray} (h4:q.l.length≤4) (hu:(V8 q.u).length=q.l.length) (hs:(V8 q.s).length=q.l.length) (h:sh=false→∀ j:Nat,1≤j→j<q.l.length→A9 (V8 q.u) j=A9 (V8 q.s) j):∀ (n i f:Nat),i+n=q.l.length→1≤i→n+1≤f →
  iter A19 f (A18 q sh fs (i:Int))=some (B5p q sh fs)
 | _,_,0,_,_,hf=>by omega
 | 0,i,f+1,hn,_,_=>by
  have e:i=q.l.length:=by omega
  subst e
  refine G7 ?_
  show (Ab5 q sh fs (q.l.length:Int)).run=_
  unfold Ab5
  rw [decide_eq_false (Int.lt_irrefl _)]
  rfl
 | n+1,i,f+1,hn,h1,hf=>by
  refine (Ez ?_).trans (B5w h4 hu hs h n (i+1) f (by omega) (by omega) (by omega))
  have hi:i<q.l.length:=by omega
  show (Ab5 q sh fs (i:Int)).run=_
  unfold Ab5
  rw [decide_eq_true (show (i:Int)<(q.l.length:Int) by omega),cond_true]
  have hnx:(Aj1 q sh fs (i:Int)).run=some (.inl (A18 q sh fs ((i+1:Nat):Int))):=by
   unfold Aj1
   rw [Be (n:=(i:Int)+1) (by omega) (by omega)]
   rfl
  cases hsh:sh with
  | true=>rw [hsh] at hnx;exact hnx
  | false =>
   rw [Bool.not_false,cond_true,F3 (by omega),F3 (by omega)]
   have e:Ava q.u (i:Int)=Ava q.s (i:Int):=by
    unfold Ava
    rw [show Int.toNat (i:Int)=i by omega]
    exact h hsh i h1 hi
   rw [e,Bjq,Bool.not_true,cond_false]
   rw [hsh] at hnx
   exact hnx
theorem Avm {ks:Kns} {tw:Bool} {n:Nat} (hk:ks.length≤25) (hn:n≤4) (hg:∀ x ∈ ks,GdK n x):∃ fs:List ByteArray,Nu (Hf ks tw) 0 3=(fs,0)∧Ll fs nm0=true∧Ll fs nm1=tw∧Ll fs nm2=false∧Ll fs nm8=ks.any shK∧Ll fs nm9=(tw&&ks.any shK):=by
 have hl:=Aj3 (tw:=tw) hk
 have hv:=B37 (tw:=tw) hn hg
 have hs:(flt 5 (Hf ks tw)).any (Amc (scO (sOf 0 3 (Hf ks tw))))=ks.any shK:=Aj4
 have h0:kd0 (scO (sOf 0 3 (Hf ks tw)))=[mkM 0 0 0 0]++bif tw then [mkM 0 0 1000 1000] else []:=B38
 have h5:kd5 (scO (sOf 0 3 (Hf ks tw)))=flt 5 (Hf ks tw):=rfl
 refine ⟨Gy (scO (sOf 0 3 (Hf ks tw))),?_,?_,?_,?_,?_,?_⟩
 ·unfold Nu
  have e:(Hf ks tw).any (fun m=>!Ri m)=false:=by
   rw [List.any_eq_false]
   intro m hm
   rw [hv m hm]
   exact Bool.false_ne_true
  rw [decide_eq_false (show ¬ ((Hf ks tw).length:Int)>64 by omega),e]
  rfl
 ·rw [Bjm]
  unfold cd0
  rw [h0]
  exact decide_eq_true (by rw [List.length_append,List.length_singleton];omega)
 ·rw [Bjn]
  unfold cd1
  rw [h0]
  cases tw <;> rfl
 ·rw [Bjo]
  unfold cd2
  rw [h0]
  cases tw <;> rfl
 ·rw [Bjp]
  unfold cd8
  rw [h5]
  exact hs
 ·rw [has9]
  unfold cd9
  rw [h0]
  cases tw with
  | false =>
   show ((decide ((0:Int)>mF (As (kd0 (scO (sOf 0 3 (Hf ks false)))) 0 (Aq cMk)))&&(kd5 (scO (sOf 0 3 (Hf ks false)))).any (pLt (scO (sOf 0 3 (Hf ks false))) (mkM 0 0 0 0)))||false)=false
   rw [h0]
   rfl
  | true =>
   show (Qb (scO (sOf 0 3 (Hf ks true))) (mkM 0 0 0 0)||(Qb (scO (sOf 0 3 (Hf ks true))) (mkM 0 0 1000 1000)||false))=(true&&ks.any shK)
   have p1:Qb (scO (sOf 0 3 (Hf ks true))) (mkM 0 0 0 0)=false:=by
    unfold Qb
    rw [h0]
    rfl
   have p2:Qb (scO (sOf 0 3 (Hf ks true))) (mkM 0 0 1000 1000)=ks.any shK:=by
    unfold Qb
    rw [h0,h5]
    show (true&&(flt 5 (Hf ks true)).any (pLt (scO (sOf 0 3 (Hf ks true))) (mkM 0 0 1000 1000)))=_
    rw [Bool.true_and,Aj4]
    have:∀ (l:Kns),(∀ x ∈ l,GdK n x)→(l.any fun x=>pLt (scO (sOf 0 3 (Hf ks true))) (mkM 0 0 1000 1000) (mkM 5 x.2.2.2.1 x.1 x.1)||(x.2.2.1==0&&pLt (scO (sOf 0 3 (Hf ks true))) (mkM 0 0 1000 1000) (mkM 5 x.2.2.2.2.1 x.1 x.1)))=l.any shK:=by
     intro l
     induction l with
     | nil=>exact fun _=>rfl
     | cons x l ih =>
      intro hx
      rw [List.any_cons,List.any_cons,ih fun y hy=>hx y (List.mem_cons_of_mem _ hy)]
      congr 1
      have ht:decide (x.1≤1000)=true:=decide_eq_true (hx x List.mem_cons_self).t.2
      show (((x.2.2.2.1 != 0)&&decide (x.1≤1000))||(x.2.2.1==0&&((x.2.2.2.2.1 != 0)&&decide (x.1≤1000))))=shK x
      rw [ht,Bool.and_true,Bool.and_true]
      rfl
    exact this ks hg
   rw [p1,p2,Bool.false_or,Bool.or_false,Bool.true_and]
end Wi
end V
end Go.Proofs.YtlangijnealfjaaGreat
namespace Go.Proofs.YtlangijnealfjaaGreat
open Go.RowKit
namespace V
namespace Wi
open St Tp
theorem Aj5 {g:TCT cGr}:∀ (n:Nat) (s:TCT cSt) (ks:Kns) (e:Int),StaOk g s→0≤s.2.2.2.2.1→s.2.2.2.2.1+(n:Int)≤4000→rnS g n s ks=.inr e→e=4∨e=6
 | 0,s,ks,e,_,_,_,h=>by
  rw [S0] at h
  cases h1:decide ((ks.length:Int)>4096) with
  | true=>rw [h1] at h;cases h;exact .inr rfl
  | false=>rw [h1] at h;cases h
 | n+1,s,ks,e,q,t0,t1,h=>by
  rw [S1] at h
  cases h1:decide ((ks.length:Int)>4096) with
  | true=>rw [h1] at h;cases h;exact .inr rfl
  | false =>
   rw [h1,cond_false] at h
   cases h2:D5 s with
   | true=>rw [h2] at h;cases h
   | false =>
    rw [h2] at h
    simp only [Bool.not_false,cond_true] at h
    have key:∀ a:Int,0≤a→a+((n+1:Nat):Int)≤4000→W64 (a+1)=a+1∧0≤a+1∧a+1+(n:Int)≤4000∧a≠4000:=fun a h0 h=>⟨Be (by omega) (by omega),by omega,by omega,by omega⟩
    cases h3:tkF (ctS g s) (msT s,osT s,ks) with
    | inl r =>
     rw [h3] at h
     obtain ⟨w,w1,w2,_⟩:=key _ t0 t1
     have w:(nxS s r).2.2.2.2.1=s.2.2.2.2.1+1:=w
     exact Aj5 n (nxS s r) r.2.2 e (O1 q h3) (by rw [w];exact w1) (by rw [w];exact w2) h
    | inr x =>
     rw [h3] at h
     cases h
     rw [B95] at h3
     cases h4:tkF (ctS g s) (msT s,osT s,[]) with
     | inl r=>rw [h4] at h3;cases h3
     | inr y =>
      rw [h4] at h3
      cases h3
      exact .inl (Ass q (key _ t0 t1).2.2.2 h4)
theorem Ab7 {ks:Kns} {x:TCT cKn} (h:x ∈ ks):∃ i:Nat,i<ks.length∧Lc ks i=x:=by
 obtain ⟨i,hi,e⟩:=List.getElem_of_mem h
 exact ⟨i,hi,by unfold Lc;rw [De hi];exact e⟩
theorem Bg0 {a T t b:Int} (h:a<T∨(a=T∧b≤0)) (h2:T≤0+t) (h3:t≤40):a≤1000:=by omega
theorem Bg1 {n:Int} (h:n≤40):0+n≤4000:=by omega
theorem Avn {a:Int} {i:Nat} (h:(a != 0)=false) (hi:1≤i):(a==(i:Int))=false:=by
 have:=bne_eq_false_iff_eq.1 h
 exact beq_eq_false_iff_ne.2 (by omega)
theorem B5x {ks:Kns} (h:ks.any shK=false) {i:Nat} (hi:1≤i):tcB i ks=false:=by
 unfold tcB
 rw [List.any_eq_false] at h ⊢
 intro x hx
 have:=h x hx
 unfold shK at this
 rw [Bool.not_eq_true,Bool.or_eq_false_iff] at this
 unfold tcK
 rw [Avn this.1 hi,Bool.false_or]
 cases hz:x.2.2.1==0 with
 | false=>exact Bool.false_ne_true
 | true =>
  have h2:=this.2
  rw [hz,Bool.true_and] at h2
  rw [Avn h2 hi]
  exact Bool.false_ne_true
theorem Bg2 {q:QW} {ks:Kns} {tw:Bool} (hq:q.tw=tw) (hk:ks.length≤25) (hn:q.l.length≤4) (h0:1≤q.l.length) (hg:∀ x ∈ ks,GdK q.l.length x) (hu:(V8 q.u).length=q.l.length) (hs:(V8 q.s).length=q.l.length)
  (h:ks.any shK=false→∀ j:Nat,1≤j→j<q.l.length→A9 (V8 q.u) j=A9 (V8 q.s) j):(B5r Nu (iter A16 (ks.length+1) (A40 q [mkM 0 0 0 0] false ks 0))).sat (fun _=>True):=by
 have it:=B5v hk hg ks.length 0 (ks.length+1) [mkM 0 0 0 0] false (Nat.zero_add _) (Nat.le_refl _) (Nat.le_refl _)
 rw [List.drop_zero,Bool.false_or] at it
 rw [show A40 q [mkM 0 0 0 0] false ks 0=A40 q [mkM 0 0 0 0] false ks ((0:Nat):Int) from rfl,it]
 show (Avf Nu q ([mkM 0 0 0 0]++ks.flatMap Rf) (ks.any shK)).sat _
 obtain ⟨fs,f0,f1,f2,f3,f4,f5⟩:=Avm (tw:=tw) hk hn hg
 have hN:(Aj2 Nu q (ks.any shK) (Hf ks tw)).sat (fun _=>True):=by
  unfold Aj2
  rw [f0]
  show (bif ((V8 q.u).length:Int)!=(q.l.length:Int) then .fail else B5q (iter A19 (q.l.length+1) (A18 q (ks.any shK) fs 1)):Tree Unit).sat _
  rw [hu,bne_self_eq_false,cond_false]
  have it1:=B5w (q:=q) (sh:=ks.any shK) (fs:=fs) hn hu hs h (q.l.length-1) 1 (q.l.length+1) (by omega) (Nat.le_refl _) (by omega)
  rw [show A18 q (ks.any shK) fs 1=A18 q (ks.any shK) fs ((1:Nat):Int) from rfl,it1]
  show (Ave q.tw (ks.any shK) fs).sat _
  rw [hq]
  unfold Ave Avd Avc
  rw [f1,f2,f3,f4,f5]
  cases tw with
  | true =>
   cases ks.any shK <;> exact trivial
  | false =>
   cases ks.any shK <;> exact trivial
 unfold Avf
 rw [hq]
 have hl:=Aj3 (tw:=tw) hk
 unfold Hf at hN hl
 cases tw with
 | true =>
  rw [cond_true] at hN hl ⊢
  rw [List.length_append,List.length_singleton] at hl
  rw [Hi (by rw [List.length_singleton];omega) (by decide),cond_true]
  exact hN
 | false =>
  rw [cond_false,List.append_nil] at hN
  exact hN
theorem Am9 {l:List (TCT F2)} {w:TCT Pu} {tk:Int} {tw:Bool} (hw:WFD Pu w) (h0:(l.length:Int)≠0) (h4:¬ (l.length:Int)>4) (ht:0≤tk∧tk≤255):(Avh skV PlayV Nu l tk tw (Lp 6000 0 (700,0,()) l) (N9 6000 0 (700,0,()) l) (Nx 6000 0 (700,0,()) l) (Me w 0)).sat (fun _=>True):=by
 unfold Avh
 cases hb:Nx 6000 0 (700,0,()) l with
 | false=>exact trivial
 | true =>
  obtain ⟨hS,hst,hout,hlen,hgr⟩:=B6u hb
  have hs:((Lp 6000 0 (700,0,()) l).1.1.size:Int)≤B7 .i64:=by rw [hgr];exact Xi 6000 0
  generalize Lp 6000 0 (700,0,()) l=g at *
  generalize N9 6000 0 (700,0,()) l=s at *
  rw [Bool.not_true,cond_false,Ei hs]
  have hbw:bwB ((A2 g).length:Int) (Me w 0)=false:=B6s hw (by omega)
  have k:SkOk g s (Me w 0):=⟨hS,Arm hbw,hst,hout _⟩
  unfold B5t
  cases he2:(skV g s (Me w 0)).2.2.1 != 0 with
  | true =>
   rw [B9l k hbw (bne_iff_ne.1 he2)]
   exact trivial
  | false =>
   have he':=bne_eq_false_iff_eq.1 he2
   obtain ⟨t1,_⟩:=Asn he'
   obtain ⟨kr,t0,kl,hoth⟩:=Asu he'
   have k0:=Bfy he'
   rw [cond_false,Ei hs]
   have w1:W64 tk=tk:=Be (by omega) (by omega)
   have m1:Int.tmod (W64 tk) 41=((tk % 41).toNat:Int):=by
    rw [w1,Int.tmod_eq_emod_of_nonneg ht.1]
    omega
   have pl:=play_of (n:=(tk % 41).toNat) t1 (by omega)
   have hn40:(((tk % 41).toNat:Nat):Int)≤40:=by omega
   rw [m1]
   show (B5s Nu l tw s (skV g s (Me w 0)).2.1 (PlayV g (skV g s (Me w 0)).1 ((tk % 41).toNat:Int))).sat _
   rw [pl]
   generalize (tk % 41).toNat=n at *
   generalize hT:skV g s (Me w 0)=T at *
   cases hP:rnS g n T.1 [] with
   | inr e =>
    have ee:=Aj5 n T.1 [] e t1 (Int.le_of_eq t0.symm) (by rw [t0];exact Bg1 hn40) hP
    show (bif e != 0 then bif e==4 then lfW else bif e==6 then lfW else .fail else _:Tree Unit).sat _
    rcases ee with rfl | rfl <;> exact trivial
   | inl r =>
    obtain ⟨h1,hk1⟩:=Ah8 n T.1 [] r t1 hP
    have kv:=Asg (o0:=osT T.1) (T0:=T.1.2.2.2.2.1) n T.1 [] r t1 (Int.le_refl _) Aho hP
    show (bif Df ([]:Kns) T.2.1 40 then bif Df (([]:Kns)++T.2.1) r.2 40 then Avg Nu ⟨l,tw,Lv s,Lv r.1⟩ ((([]:Kns)++T.2.1)++r.2) else .fail else .fail:Tree Unit).sat _
    have kl':(T.2.1:Kns).length≤10000:=kl
    rw [Hi (by rw [List.length_nil];omega) (by decide),Hi (by rw [List.nil_append];omega) (by decide),cond_true,cond_true,List.nil_append]
    unfold Avg
    cases hd:decide (((T.2.1++r.2:Kns).length:Int)>25) with
    | true=>exact trivial
    | false =>
     have hd:=of_decide_eq_false hd
     rw [cond_false]
     have hbl:(A2 g).length=l.length:=hlen
     have hg:∀ x ∈ (T.2.1++r.2:Kns),GdK l.length x:=by
      intro x hx
      rcases List.mem_append.1 hx with hx | hx
      ·obtain ⟨z0,zt⟩:=k0 x hx
       obtain ⟨i,hi,e⟩:=Ab7 hx
       have:=kr i hi (by rw [e];exact z0)
       rw [e,hbl] at this
       exact ⟨this.1,fun _=>this.2,by rw [zt];exact ⟨Int.le_refl _,by decide⟩⟩
      ·obtain ⟨i,hi,e⟩:=Ab7 hx
       have a:=kv.g i hi
       have b:=kv.l i hi
       rw [e] at a b
       have hr:=(Af4 (i:=0) n T.1 [] r t1 hP).2
       rw [t0] at b hr
       have gb:=a.b
       rw [hbl] at gb
       refine ⟨gb,fun z=>?_,b.1,?_⟩
       ·have o:=a.ot z
        rw [hbl] at o
        exact ⟨Int.le_of_lt (Int.lt_of_le_of_lt gb.1 o.1),o.2.1⟩
       ·exact Bg0 b.2 hr hn40
     refine Bg2 (q:=⟨l,tw,Lv s,Lv r.1⟩) (tw:=tw) rfl (by omega) (by show l.length≤4;omega) (by show 1≤l.length;omega) hg (h1.m.trans hbl) (hS.m.trans hbl) ?_
     intro hsh j hj1 hj2
     rw [List.any_append,Bool.or_eq_false_iff] at hsh
     have c1:tcB j T.2.1=false:=B5x hsh.1 hj1
     have c2:tcB j r.2=false:=B5x hsh.2 hj1
     have e1:=hoth j (by show j≠Int.toNat 0;rw [show Int.toNat 0=0 from rfl];omega) c1
     have hr:Fz (A9 (msT T.1) j)=true:=by rw [e1];exact S7 hst j
     have R:=(Af4 (i:=j) n T.1 [] r t1 hP).1
     have e2:=(R.r2 hr c2).1
     exact e2.trans e1
theorem Bax {l:List (TCT F2)} {w:TCT Pu} {tk:Int} {tw:Bool} (hw:WFD Pu w) (ht:0≤tk∧tk≤255):(B35 Lp N9 Nx Me skV PlayV Nu l w tk tw).sat (fun _=>True):=by
 unfold B35
 cases h1:(l.length:Int)==0 with
 | true=>exact trivial
 | false =>
  rw [cond_false]
  cases h2:decide ((l.length:Int)>4) with
  | true=>exact trivial
  | false =>
   have h3:=of_decide_eq_false h2
   rw [cond_false,decide_eq_true (by omega),cond_true]
   exact Am9 hw (by intro e;rw [e] at h1;cases h1) h3 ht
theorem Bjr:Aw Tryz.prog 6 Av6 (fun s=>Ar A15 Ab1 (D7 [.ret,.exit 0] A16 Av8) (fzT [19] s)):=Ama [19] (B8 (X:=A55) (Ap Ak puOk_nil A0) 6 _ A15 Ab1 (fun e=>by cases e <;> exact Nat.le_refl _) [.ret,.exit 0] A16 Av8 Bjj)
theorem Bjs:Aw Tryz.prog 6 Av7 (Ar A17 Ab4 (D7 [.ret,.exit 2] A19 Avb)):=B8 (X:=A55) (Ap Ak puOk_nil A0) 6 _ A17 Ab4 (fun e=>by cases e <;> exact Nat.le_refl _) [.ret,.exit 2] A19 Avb Bjl
end Wi
open Wi St Tp
noncomputable def X_topWitnessed:Ctx:=Nn Lp N9 Nx Me St.skV St.PlayV Nu
theorem X_topWitnessed_ok:CtxOk X_topWitnessed:=Bs Ak puTw (fns_cons is_TopWitnessed A0) (A8 (E6 (ds:=[Av6,Av7]) (by kernel_rfl) ⟨Dk (k:=18) (by kernel_rfl) rfl Bjr,Dk (k:=36) (by kernel_rfl) rfl Bjs,trivial⟩) Dd)
theorem topWitnessed_sat:LawSat X_topWitnessed 6 cs_topWitnessed 9:=Bap 9 (fun y=>B35 Lp N9 Nx Me St.skV St.PlayV Nu y.1 y.2.1 y.2.2.1 y.2.2.2.1) (B36 Lp N9 Nx Me St.skV St.PlayV Nu) fun _ hw=>Bax hw.2.1 hw.2.2.1
end V
end Go.Proofs.YtlangijnealfjaaGreat
