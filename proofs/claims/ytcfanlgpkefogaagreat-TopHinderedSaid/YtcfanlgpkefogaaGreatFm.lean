import Derived.Test.YtcfanlgpkefogaaGreatFl
import Derived.Test.YtcfanlgpkefogaaGreatDp
namespace Go.Proofs.YtcfanlgpkefogaaGreat
open Go.RowKit
namespace V
namespace St
theorem C5j {α:Type} (l:List α) (i:Nat) (x y:α):Bba (Bba l i x) i y=Bba l i y:=by
 rw [Bbl,Bbl,Bbl,List.set_set]
theorem RQ.skM {bl:List (TCT No)} {n:Nat} {N:Int} {ms:Bal} {os:List Bool} {w:TCT cBw} (q:RQ bl n ms os) (hs:SM ms) (hb:BwOk N w) (hi:Int.toNat w.1<n) (ho:Bbs os (Int.toNat w.1)=false) (hg:C1j (St.skM ms w) w.1=false):RQ bl n (St.skM ms w) os∧∀ j:Nat,(Bag (St.skM ms w) j).1=(Bag ms j).1:=by
 have hm:=q.m
 have e:=Cxe hs hb
 rw [hg] at e
 have hst:Bb3 (Bag (St.skM ms w) (Int.toNat w.1)).2.1.1 (Bag (St.skM ms w) (Int.toNat w.1)).2.1.2.1=true:=by
  cases h:Bb3 (Bag (St.skM ms w) (Int.toNat w.1)).2.1.1 (Bag (St.skM ms w) (Int.toNat w.1)).2.1.2.1 with
  | true=>rfl
  | false=>rw [h] at e;cases e
 have key:∃ x:TCT Bat,St.skM ms w=Bba ms (Int.toNat w.1) x∧arS (Bag ms (Int.toNat w.1)) x:=by
  unfold St.skM St.mY St.mX
  rw [C5j,Ber (show Int.toNat w.1<ms.length by omega) rfl]
  exact ⟨_,rfl,rfl,rfl⟩
 obtain ⟨x,hx,ha⟩:=key
 rw [hx] at hst ⊢
 rw [Ber (by omega) rfl] at hst
 refine ⟨q.set hi (Bml (q.ok _ hi) ha hst) ho,fun j=>?_⟩
 by_cases ej:j=Int.toNat w.1
 ·rw [Ber (by omega) ej,ej];exact ha.1
 ·rw [Bed (by omega) ej]
theorem Ceu {m:TCT Bat} (h:Bf0 m=true):m.2.1.1=0∧m.2.1.2.1=0:=by
 unfold Bf0 at h
 rw [Bool.and_eq_true] at h
 exact ⟨beq_iff_eq.1 h.1,beq_iff_eq.1 h.2⟩
theorem PartH.zero {h:TCT cPt→Int} (p:PartH h) {m:TCT Bat} (e:Bf0 m=true):h m.2.1=0:=by
 obtain ⟨a,b⟩:=Ceu e
 cases p with
 | x=>exact a
 | y=>exact b
theorem C5k {h:TCT cPt→Int} (p:PartH h):∀ (l:Bal),l.all Bf0=true→smP h l=0
 | [],_=>rfl
 | m::l,e=>by
  rw [List.all_cons,Bool.and_eq_true] at e
  show h m.2.1+smP h l=0
  rw [p.zero e.1,C5k p l e.2];rfl
theorem Bt6 {s:TCT cSt} (h:Bcc s=true):AS (msT s):=fun j=>by
 unfold Bcc at h
 unfold Bag
 by_cases hj:j<(msT s).length
 ·exact List.all_eq_true.1 h _ (Bcl hj _)
 ·rw [Bda,List.getD_eq_getElem?_getD,List.getElem?_eq_none (Nat.le_of_not_lt hj)];rfl
theorem D2l (a:Int):0-0+a=a:=by omega
structure SkOk (g:TCT cGr) (s:TCT cSt) (w:TCT cBw):Prop where
 sk:StaOk g s
 b:BwOk ((V2 g).length:Int) w
 r:Bcc s=true
 o:Bbs (osT s) (Int.toNat w.1)=false
theorem Cev {g:TCT cGr} {s:TCT cSt} {w:TCT cBw} (h:(skV g s w).2.2.1=0):SkOk g s w∧skV g s w=skG g s w:=by
 unfold skV at h ⊢
 cases h1:Be0 g s != 0 with
 | true=>rw [h1] at h;exact absurd h (bne_iff_ne.1 h1)
 | false =>
  rw [h1] at h
  cases h2:bwB ((V2 g).length:Int) w with
  | true=>rw [h2] at h;cases h
  | false =>
   rw [h2] at h
   cases h3:!Bcc s||Bam (osT s) (Int.toNat w.1) (Baj .b) with
   | true=>rw [h3] at h;cases h
   | false =>
    rw [Bool.or_eq_false_iff] at h3
    exact ⟨⟨C1i (bne_eq_false_iff_eq.1 h1),Cea h2,by simpa using h3.1,h3.2⟩,rfl⟩
theorem D6o {g:TCT cGr} {s:TCT cSt} {w:TCT cBw} (h:SkOk g s w) (hb:bwB ((V2 g).length:Int) w=false):skV g s w=skG g s w:=by
 unfold skV
 have h3:Bam (osT s) (Int.toNat w.1) (Baj .b)=false:=h.o
 rw [Bqw h.sk,hb,h.r,h3]
 rfl
theorem SkOk.set {g:TCT cGr} {s:TCT cSt} {w:TCT cBw} (h:SkOk g s w):RK (V2 g) (V2 g).length (msT s) (Bg9 (msT s) w.1 (twP w)) (osT s)∧SM (Bg9 (msT s) w.1 (twP w))∧∀ f:TCT cPt→Int,PartH f→smP f (Bg9 (msT s) w.1 (twP w))=f (twP w):=by
 have tw:=Ce9 h.b.f h.b.z h.b.p
 have q:=(Bqv h.sk).1
 have hm:=q.m
 have hi:Int.toNat w.1<(V2 g).length:=Bnd h.b.b.1 h.b.b.2
 have hst:Bb3 (twP w).1 (twP w).2.1=true:=Bv0 ⟨Int.le_trans (by decide) tw.2.1.1,Int.le_trans tw.2.1.2 (by decide)⟩ ⟨Int.le_trans (by decide) tw.2.2.1,Int.le_trans tw.2.2.2 (by decide)⟩
 have k0:RK (V2 g) (V2 g).length (msT s) (msT s) (osT s):=⟨q,fun _=>rfl⟩
 refine ⟨k0.set hi (Bml (q.ok _ hi) ⟨rfl,rfl⟩ hst) h.o rfl,?_,fun f p=>?_⟩
 ·refine SM.set (fun j=>?_) hst
  obtain ⟨a,b⟩:=Ceu (Bt6 h.r j)
  unfold smB
  rw [a,b];decide
 ·unfold Bg9
  rw [Bmn _ _ _ (by omega),C5k p _ h.r,p.zero (Bt6 h.r _)]
  cases p with
  | x=>exact D2l _
  | y=>exact D2l _
theorem Caa {g:TCT cGr} {w:TCT cBw} {ms:Bal} {os:List Bool} {fl:Int} (hb:BwOk ((V2 g).length:Int) w) (hf:0≤fl∧fl≤8):C0z (V2 g).length (ms,os,w.1,fl,0,())=false:=by
 unfold C0z
 show (decide (w.1<0)||(decide (w.1≥((V2 g).length:Int))||(decide (fl<0)||(decide (fl>8)||(decide ((0:Int)<0)||decide ((0:Int)>4000))))))=false
 rw [decide_eq_false (Int.not_lt.2 hb.b.1),decide_eq_false (Int.not_le.2 hb.b.2),decide_eq_false (Int.not_lt.2 hf.1),decide_eq_false (Int.not_lt.2 hf.2)]
 rfl
theorem Cew (m:Int):fwD m 0=0:=by
 unfold fwD
 rw [show Bqu 0=0 from rfl,Int.mul_zero]
 decide
theorem Cyg {h:TCT cPt→Int} {ms:Bal} {b:Int} (hs:SM ms):smP h (mX ms b 0)=smP h ms:=by
 unfold mX
 refine Bp9 ?_
 have a:=Be2 (hs (Int.toNat b))
 rw [Int.add_zero,Bb4 (Int.le_trans (by decide) a.1.1) (Int.le_trans a.1.2 (by decide))]
theorem Cqd {ms:Bal} {b:Int} (hs:SM ms):SM (mX ms b 0):=by
 unfold mX
 refine SM.set hs ?_
 have a:=Be2 (hs (Int.toNat b))
 rw [Int.add_zero,Bb4 (Int.le_trans (by decide) a.1.1) (Int.le_trans a.1.2 (by decide))]
 exact hs (Int.toNat b)
theorem Cyh {h:TCT cPt→Int} {ms:Bal} {b:Int} (hs:SM ms):smP h (mY ms b 0)=smP h ms:=by
 unfold mY
 refine Bp9 ?_
 have a:=Be2 (hs (Int.toNat b))
 rw [Int.add_zero,Bb4 (Int.le_trans (by decide) a.2.1) (Int.le_trans a.2.2 (by decide))]
theorem Cab {g:TCT cGr} {s:TCT cSt} {w:TCT cBw} (h:(skV g s w).2.2.1=0):StaOk g (skV g s w).1∧∀ f:TCT cPt→Int,PartH f→((skV g s w).2.1=[]∨w.2.2.2.1=0∨w.2.2.2.1=4)→smP f (msT (skV g s w).1)=f (twP w):=by
 obtain ⟨k,e⟩:=Cev h
 obtain ⟨k1,k2,k3⟩:=k.set
 have p:=(Bqv k.sk).2
 have n8:=k.sk.n8
 have hi:Int.toNat w.1<(V2 g).length:=Bnd k.b.b.1 k.b.b.2
 rw [e] at h ⊢
 unfold skG at h ⊢
 cases h4:w.2.2.2.1==4 with
 | true =>
  simp only [cond_true]
  exact ⟨Bv2 k.sk.gr k.sk.n1 n8 k1.q (k1.ol p) (Caa k.b (by decide)),fun f pf _=>k3 f pf⟩
 | false =>
  rw [h4] at h
  simp only [cond_false] at h ⊢
  cases hf:seF (V2 g) g.2.2.1 0 0 w.1 0 (V2 g).length (Bg9 (msT s) w.1 (twP w),osT s,[]) with
  | inr x=>rw [hf] at h;exact absurd h (Buv hf)
  | inl r =>
   rw [hf] at h
   have rk:=Cpy hf k1.q
   have sm:=D5z hf k2
   have ol:OL g.1 (V2 g).length r.1 (osT s):=rk.ol (k1.ol p)
   have sum:∀ f:TCT cPt→Int,PartH f→smP f r.1=f (twP w):=fun f pf=>(C5i pf k1.q.m hf).trans (k3 f pf)
   obtain ⟨ms,ks⟩:=r
   unfold skF at h ⊢
   simp only at h ⊢
   cases hk:decide ((ks.length:Int)>0) with
   | false =>
    exact ⟨Bv2 k.sk.gr k.sk.n1 n8 rk.q ol (Caa k.b (by decide)),fun f pf _=>sum f pf⟩
   | true =>
    rw [hk] at h
    cases hg:C1j (skM ms w) w.1 with
    | true=>rw [hg] at h;cases h
    | false =>
     obtain ⟨r1,r2⟩:=rk.q.skM sm k.b hi k.o hg
     refine ⟨Bv2 k.sk.gr k.sk.n1 n8 r1 (fun j hj hjo=>?_) (Caa k.b (by decide)),fun f pf hc=>?_⟩
     ·show onB g.1 (Bag (skM ms w) j).1=true
      rw [r2 j];exact ol j hj hjo
     ·rcases hc with hc | hc | hc
      ·have:(ks:Kns)=[]:=hc
       rw [this] at hk
       cases hk
      ·show smP f (skM ms w)=_
       unfold skM
       rw [hc,Cew,Cew,Cyh (Cqd sm),Cyg sm]
       exact sum f pf
      ·rw [hc] at h4;cases h4
end St
end V
end Go.Proofs.YtcfanlgpkefogaaGreat
