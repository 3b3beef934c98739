import Derived.Test.YtcfanlgpkefogaaGreatFl
import Derived.Test.YtcfanlgpkefogaaGreatDp
namespace Go.Proofs.YtcfanlgpkefogaaGreat
open Go.RowKit
namespace V
namespace St
theorem C2x {α:Type} (l:List α) (i:Nat) (x y:α):Bb7 (Bb7 l i x) i y=Bb7 l i y:=by
 rw [Bbe,Bbe,Bbe,List.set_set]
theorem RQ.skM {bl:List (TCT Fq)} {n:Nat} {N:Int} {ms:Baj} {os:List Bool} {w:TCT cBw} (q:RQ bl n ms os) (hs:SM ms) (hb:BwOk N w) (hi:Int.toNat w.1<n) (ho:Bbu os (Int.toNat w.1)=false) (hg:C2q (St.skM ms w) w.1=false):RQ bl n (St.skM ms w) os∧∀ j:Nat,(V2 (St.skM ms w) j).1=(V2 ms j).1:=by
 have hm:=q.m
 have e:=Csg hs hb
 rw [hg] at e
 have hst:Bb3 (V2 (St.skM ms w) (Int.toNat w.1)).2.1.1 (V2 (St.skM ms w) (Int.toNat w.1)).2.1.2.1=true:=by
  cases h:Bb3 (V2 (St.skM ms w) (Int.toNat w.1)).2.1.1 (V2 (St.skM ms w) (Int.toNat w.1)).2.1.2.1 with
  | true=>rfl
  | false=>rw [h] at e;cases e
 have key:∃ x:TCT Baq,St.skM ms w=Bb7 ms (Int.toNat w.1) x∧arS (V2 ms (Int.toNat w.1)) x:=by
  unfold St.skM St.mY St.mX
  rw [C2x,Bet (show Int.toNat w.1<ms.length by omega) rfl]
  exact ⟨_,rfl,rfl,rfl⟩
 obtain ⟨x,hx,ha⟩:=key
 rw [hx] at hst ⊢
 rw [Bet (by omega) rfl] at hst
 refine ⟨q.set hi (Blm (q.ok _ hi) ha hst) ho,fun j=>?_⟩
 by_cases ej:j=Int.toNat w.1
 ·rw [Bet (by omega) ej,ej];exact ha.1
 ·rw [Bdx (by omega) ej]
theorem Cax {m:TCT Baq} (h:Bdo m=true):m.2.1.1=0∧m.2.1.2.1=0:=by
 unfold Bdo at h
 rw [Bool.and_eq_true] at h
 exact ⟨beq_iff_eq.1 h.1,beq_iff_eq.1 h.2⟩
theorem PartH.zero {h:TCT cPt→Int} (p:PartH h) {m:TCT Baq} (e:Bdo m=true):h m.2.1=0:=by
 obtain ⟨a,b⟩:=Cax e
 cases p with
 | x=>exact a
 | y=>exact b
theorem C2y {h:TCT cPt→Int} (p:PartH h):∀ (l:Baj),l.all Bdo=true→smP h l=0
 | [],_=>rfl
 | m::l,e=>by
  rw [List.all_cons,Bool.and_eq_true] at e
  show h m.2.1+smP h l=0
  rw [p.zero e.1,C2y p l e.2];rfl
theorem Brs {s:TCT cSt} (h:Bex s=true):AS (msT s):=fun j=>by
 unfold Bex at h
 unfold V2
 by_cases hj:j<(msT s).length
 ·exact List.all_eq_true.1 h _ (Bdn hj _)
 ·rw [Bcv,List.getD_eq_getElem?_getD,List.getElem?_eq_none (Nat.le_of_not_lt hj)];rfl
theorem Cwn (a:Int):0-0+a=a:=by omega
structure SkOk (g:TCT cGr) (s:TCT cSt) (w:TCT cBw):Prop where
 sk:StaOk g s
 b:BwOk ((Fp g).length:Int) w
 r:Bex s=true
 o:Bbu (osT s) (Int.toNat w.1)=false
theorem Clw {g:TCT cGr} {s:TCT cSt} {w:TCT cBw} (h:(skV g s w).2.2.1=0):SkOk g s w∧skV g s w=skG g s w:=by
 unfold skV at h ⊢
 cases h1:Bih g s != 0 with
 | true=>rw [h1] at h;exact absurd h (bne_iff_ne.1 h1)
 | false =>
  rw [h1] at h
  cases h2:bwB ((Fp g).length:Int) w with
  | true=>rw [h2] at h;cases h
  | false =>
   rw [h2] at h
   cases h3:!Bex s||Bav (osT s) (Int.toNat w.1) (Bas .b) with
   | true=>rw [h3] at h;cases h
   | false =>
    rw [Bool.or_eq_false_iff] at h3
    exact ⟨⟨C70 (bne_eq_false_iff_eq.1 h1),Cl8 h2,by simpa using h3.1,h3.2⟩,rfl⟩
theorem D0l {g:TCT cGr} {s:TCT cSt} {w:TCT cBw} (h:SkOk g s w) (hb:bwB ((Fp g).length:Int) w=false):skV g s w=skG g s w:=by
 unfold skV
 have h3:Bav (osT s) (Int.toNat w.1) (Bas .b)=false:=h.o
 rw [Cln h.sk,hb,h.r,h3]
 rfl
theorem SkOk.set {g:TCT cGr} {s:TCT cSt} {w:TCT cBw} (h:SkOk g s w):RK (Fp g) (Fp g).length (msT s) (Bhs (msT s) w.1 (twP w)) (osT s)∧SM (Bhs (msT s) w.1 (twP w))∧∀ f:TCT cPt→Int,PartH f→smP f (Bhs (msT s) w.1 (twP w))=f (twP w):=by
 have tw:=Cl7 h.b.f h.b.z h.b.p
 have q:=(Bmw h.sk).1
 have hm:=q.m
 have hi:Int.toNat w.1<(Fp g).length:=Bmc h.b.b.1 h.b.b.2
 have hst:Bb3 (twP w).1 (twP w).2.1=true:=Btd ⟨Int.le_trans (by decide) tw.2.1.1,Int.le_trans tw.2.1.2 (by decide)⟩ ⟨Int.le_trans (by decide) tw.2.2.1,Int.le_trans tw.2.2.2 (by decide)⟩
 have k0:RK (Fp g) (Fp g).length (msT s) (msT s) (osT s):=⟨q,fun _=>rfl⟩
 refine ⟨k0.set hi (Blm (q.ok _ hi) ⟨rfl,rfl⟩ hst) h.o rfl,?_,fun f p=>?_⟩
 ·refine SM.set (fun j=>?_) hst
  obtain ⟨a,b⟩:=Cax (Brs h.r j)
  unfold smB
  rw [a,b];decide
 ·unfold Bhs
  rw [Blo _ _ _ (by omega),C2y p _ h.r,p.zero (Brs h.r _)]
  cases p with
  | x=>exact Cwn _
  | y=>exact Cwn _
theorem C77 {g:TCT cGr} {w:TCT cBw} {ms:Baj} {os:List Bool} {fl:Int} (hb:BwOk ((Fp g).length:Int) w) (hf:0≤fl∧fl≤8):Bvx (Fp g).length (ms,os,w.1,fl,0,())=false:=by
 unfold Bvx
 show (decide (w.1<0)||(decide (w.1≥((Fp g).length:Int))||(decide (fl<0)||(decide (fl>8)||(decide ((0:Int)<0)||decide ((0:Int)>4000))))))=false
 rw [decide_eq_false (Int.not_lt.2 hb.b.1),decide_eq_false (Int.not_le.2 hb.b.2),decide_eq_false (Int.not_lt.2 hf.1),decide_eq_false (Int.not_lt.2 hf.2)]
 rfl
theorem Cay (m:Int):fwD m 0=0:=by
 unfold fwD
 rw [show Bpo 0=0 from rfl,Int.mul_zero]
 decide
theorem Ct0 {h:TCT cPt→Int} {ms:Baj} {b:Int} (hs:SM ms):smP h (mX ms b 0)=smP h ms:=by
 unfold mX
 refine Bo5 ?_
 have a:=Bdu (hs (Int.toNat b))
 rw [Int.add_zero,Bbb (Int.le_trans (by decide) a.1.1) (Int.le_trans a.1.2 (by decide))]
theorem Clx {ms:Baj} {b:Int} (hs:SM ms):SM (mX ms b 0):=by
 unfold mX
 refine SM.set hs ?_
 have a:=Bdu (hs (Int.toNat b))
 rw [Int.add_zero,Bbb (Int.le_trans (by decide) a.1.1) (Int.le_trans a.1.2 (by decide))]
 exact hs (Int.toNat b)
theorem Ct1 {h:TCT cPt→Int} {ms:Baj} {b:Int} (hs:SM ms):smP h (mY ms b 0)=smP h ms:=by
 unfold mY
 refine Bo5 ?_
 have a:=Bdu (hs (Int.toNat b))
 rw [Int.add_zero,Bbb (Int.le_trans (by decide) a.2.1) (Int.le_trans a.2.2 (by decide))]
theorem Cly {g:TCT cGr} {s:TCT cSt} {w:TCT cBw} (h:(skV g s w).2.2.1=0):StaOk g (skV g s w).1∧∀ f:TCT cPt→Int,PartH f→((skV g s w).2.1=[]∨w.2.2.2.1=0∨w.2.2.2.1=4)→smP f (msT (skV g s w).1)=f (twP w):=by
 obtain ⟨k,e⟩:=Clw h
 obtain ⟨k1,k2,k3⟩:=k.set
 have p:=(Bmw k.sk).2
 have n8:=k.sk.n8
 have hi:Int.toNat w.1<(Fp g).length:=Bmc k.b.b.1 k.b.b.2
 rw [e] at h ⊢
 unfold skG at h ⊢
 cases h4:w.2.2.2.1==4 with
 | true =>
  simp only [cond_true]
  exact ⟨Btf k.sk.gr k.sk.n1 n8 k1.q (k1.ol p) (C77 k.b (by decide)),fun f pf _=>k3 f pf⟩
 | false =>
  rw [h4] at h
  simp only [cond_false] at h ⊢
  cases hf:seF (Fp g) g.2.2.1 0 0 w.1 0 (Fp g).length (Bhs (msT s) w.1 (twP w),osT s,[]) with
  | inr x=>rw [hf] at h;exact absurd h (Bz7 hf)
  | inl r =>
   rw [hf] at h
   have rk:=Clj hf k1.q
   have sm:=Czz hf k2
   have ol:OL g.1 (Fp g).length r.1 (osT s):=rk.ol (k1.ol p)
   have sum:∀ f:TCT cPt→Int,PartH f→smP f r.1=f (twP w):=fun f pf=>(C2w pf k1.q.m hf).trans (k3 f pf)
   obtain ⟨ms,ks⟩:=r
   unfold skF at h ⊢
   simp only at h ⊢
   cases hk:decide ((ks.length:Int)>0) with
   | false =>
    exact ⟨Btf k.sk.gr k.sk.n1 n8 rk.q ol (C77 k.b (by decide)),fun f pf _=>sum f pf⟩
   | true =>
    rw [hk] at h
    cases hg:C2q (skM ms w) w.1 with
    | true=>rw [hg] at h;cases h
    | false =>
     obtain ⟨r1,r2⟩:=rk.q.skM sm k.b hi k.o hg
     refine ⟨Btf k.sk.gr k.sk.n1 n8 r1 (fun j hj hjo=>?_) (C77 k.b (by decide)),fun f pf hc=>?_⟩
     ·show onB g.1 (V2 (skM ms w) j).1=true
      rw [r2 j];exact ol j hj hjo
     ·rcases hc with hc | hc | hc
      ·have:(ks:Kns)=[]:=hc
       rw [this] at hk
       cases hk
      ·show smP f (skM ms w)=_
       unfold skM
       rw [hc,Cay,Cay,Ct1 (Clx sm),Ct0 sm]
       exact sum f pf
      ·rw [hc] at h4;cases h4
end St
end V
end Go.Proofs.YtcfanlgpkefogaaGreat
