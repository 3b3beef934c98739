import Derived.Test.YtcfanlgpkefogaaGreatAq
import Derived.Test.YtcfanlgpkefogaaGreatAj
namespace Go.Proofs.YtcfanlgpkefogaaGreat
open Go.RowKit
namespace V
namespace Tp
open St
theorem D1v (d:Int):∀ n:Nat,Bas (Bc4 (grn d 0)) n (Bap Bc1)=(d,0,0,())∨Bas (Bc4 (grn d 0)) n (Bap Bc1)=(0,0,0,()):=fun n=>by
 cases n with
 | zero=>exact .inl rfl
 | succ n=>exact .inr rfl
theorem Cx9 {d:Int} (h:0≤d):Ccd (grn d 0):=fun p=>by
 unfold Bgf
 cases Be0 (grn d 0) p==0 with
 | false=>exact ⟨Int.le_refl _,rfl,rfl⟩
 | true =>
  rw [cond_true]
  rcases D1v d (Int.toNat (Bny (grn d 0) p)) with e | e
  ·rw [e];exact ⟨h,rfl,rfl⟩
  ·rw [e];exact ⟨Int.le_refl _,rfl,rfl⟩
theorem Cxa (n:Nat):Ms (List.replicate n Bf7) 450:=fun i hi=>by
 rw [List.length_replicate] at hi
 have:Bas (List.replicate n Bf7) i (Bap Fq)=Bf7:=by
  rw [Bcv,List.getD_eq_getElem?_getD,List.getElem?_replicate,if_pos hi];rfl
 rw [this];rfl
theorem Cxb {d s:Int} {x:TCT Bbu} {l:List (TCT Bdx)}:Ms (No (Bgu d s x l)) 450∧∀ i:Nat,i<(No (Bgu d s x l)).length→Bcj (No (Bgu d s x l)) i=Bf7:=by
 refine ⟨Cxa _,fun i hi=>?_⟩
 have hi:i<(List.replicate (sN (Bmm d s l)) Bf7).length:=hi
 rw [List.length_replicate] at hi
 show Bas (List.replicate (sN (Bmm d s l)) Bf7) i (Bap Fq)=Bf7
 rw [Bcv,List.getD_eq_getElem?_getD,List.getElem?_replicate,if_pos hi];rfl
theorem Cxc {m:Bak} (h:m.length=2):smP nE m=nE (Bah m 0).2.1+nE (Bah m 1).2.1:=by
 match m,h with
 | [a,b],_ =>
  show nE a.2.1+(nE b.2.1+0)=nE a.2.1+nE b.2.1
  omega
theorem Cv0 {g:TCT cGr} {t:TCT cSt} (h:StaOk g t) (hn:(No g).length=2) (hb:∀ i:Nat,i<(No g).length→Bcj (No g) i=Bf7):wk5 (msT t)=(450*smP nE (msT t),0,()):=by
 have hm:(msT t).length=2:=h.m.trans hn
 have q:=(Bmt h).1
 have ok:∀ j:Nat,j<2→(bm Bf7 (Bah (msT t) j)).ok=true:=fun j hj=>by
  have k:=q.ok j (by omega)
  rw [hb j (by omega)] at k
  exact k
 have e:Btm (bm Bf7 (Bah (msT t) 0)) (bm Bf7 (Bah (msT t) 1))=(450*smP nE (msT t),0,()):=by
  unfold Btm
  rw [ok 0 (by omega),ok 1 (by omega),Cxc hm]
  have w:Boe (bm Bf7 (Bah (msT t) 0)) (bm Bf7 (Bah (msT t) 1))=450*(nE (Bah (msT t) 0).2.1+nE (Bah (msT t) 1).2.1):=by
   rw [Int.mul_add];rfl
  rw [w];rfl
 exact e
structure TI (g:TCT cGr) (i:Nat) (t:TCT cSt):Prop where
 a:StaOk g t
 tk:t.2.2.2.2.1=(i:Int)
theorem Cov {g:TCT cGr} {t:TCT cSt} {tk:Int} {i:Nat} (hs:(g.1.1.size:Int)≤Bb4 .i64) (hl:Ccd g.1) (hM:Ms (No g) 450) (hn:(No g).length=2) (hb:∀ i:Nat,i<(No g).length→Bcj (No g) i=Bf7) (hi:i≤41) (c:TI g i t) (hd:(i:Int)<Int.tmod (W64 tk) 41) :
  (Bnl TickV (Bqc tk (Bds g) t (i:Int))).run=some (.inr (Bnk true))∨∃ t',(Bnl TickV (Bqc tk (Bds g) t (i:Int))).run=some (.inl (Bqc tk (Bds g) t' ((i+1:Nat):Int)))∧TI g (i+1) t':=by
 show (Bw8 TickV tk (Bds g) t (i:Int)).run=_∨∃ t',(Bw8 TickV tk (Bds g) t (i:Int)).run=_∧_
 unfold Bw8
 rw [decide_eq_true hd,cond_true,show szT (lwG (Bds g)) _=_ from Bdm (l:=g.1) hs]
 show (C8s tk (Bds g) t (i:Int) (TickV g t)).run=_∨∃ t',(C8s tk (Bds g) t (i:Int) (TickV g t)).run=_∧_
 rcases Cg5 c.a (by rw [c.tk];exact fun e=>by have e:(i:Int)=4000:=e;omega) with e | ⟨r,hf,e⟩
 ·rw [e];exact .inl rfl
 ·rw [e]
  have su:StaOk g (nxS t r):=C2g c.a hf
  have hm:(msT t).length=2:=c.a.m.trans hn
  have hu:(msT (nxS t r)).length=2:=su.m.trans hn
  refine .inr ⟨nxS t r,?_,su,?_⟩
  ·have w1:=Cv0 c.a hn hb
   have w2:=Cv0 su hn hb
   have le:smP nE (msT (nxS t r))≤smP nE (msT t):=Cor hl hM (by decide) c.a hf
   unfold C8s
   show (bif ((0:Int)!=0) then _ else bif ((msT t).length:Int)!=2 then _ else bif ((msT (nxS t r)).length:Int)!=2 then _ else
    inN (msT t).length 0 (inN (msT t).length 1 (inN (msT (nxS t r)).length 0 (inN (msT (nxS t r)).length 1 (
    bif (wk5 (msT t)).2.1 != 0 then _ else bif (wk5 (msT (nxS t r))).2.1 != 0 then _ else bif decide ((wk5 (msT (nxS t r))).1>(wk5 (msT t)).1) then _ else _)))):Cgg).run=_
   rw [w1,w2,hm,hu,Bde (by decide),Bde (by decide),Bde (by decide),Bde (by decide)]
   show (bif decide (450*smP nE (msT (nxS t r))>450*smP nE (msT t)) then _ else .leaf (.inl (Bqc tk (Bds g) (nxS t r) (W64 ((i:Int)+1)))):Cgg).run=_
   rw [decide_eq_false (by omega),Bbc (n:=(i:Int)+1) (by omega) (by omega)]
   rfl
  ·show W64 (t.2.2.2.2.1+1)=_
   rw [c.tk,Bbc (n:=(i:Int)+1) (by omega) (by omega)];rfl
theorem Cxd {t:Int}:Int.tmod (W64 t) 41≤40:=by
 have:=Int.tmod_lt_of_pos (W64 t) (show (0:Int)<41 by decide)
 omega
theorem Cv1 {g:TCT cGr} {tk:Int} (hs:(g.1.1.size:Int)≤Bb4 .i64) (hl:Ccd g.1) (hM:Ms (No g) 450) (hn:(No g).length=2) (hb:∀ i:Nat,i<(No g).length→Bcj (No g) i=Bf7):∀ (k i m:Nat) (t:TCT cSt),i+k=41→k+1≤m→TI g i t→∃ y,iter (Bnl TickV) m (Bqc tk (Bds g) t (i:Int))=some y∧(y=Bnk true∨y=Cgh)
 | k,i,0,t,_,hm,_=>by omega
 | k,i,m+1,t,hk,hm,o=>by
  cases hd:decide ((i:Int)<Int.tmod (W64 tk) 41) with
  | false =>
   refine ⟨Cgh,Bht ?_,.inr rfl⟩
   show (Bw8 TickV tk (Bds g) t (i:Int)).run=_
   unfold Bw8
   rw [hd]
   rfl
  | true =>
   have hd':=of_decide_eq_true hd
   have h40:=Cxd (t:=tk)
   rcases Cov hs hl hM hn hb (by omega) o hd' with e | ⟨t',e,o'⟩
   ·exact ⟨_,Bht e,.inl rfl⟩
   ·cases k with
    | zero=>omega
    | succ k =>
     obtain ⟨y,e2,hy⟩:=Cv1 hs hl hM hn hb k (i+1) m t' (by omega) (by omega) o'
     exact ⟨y,(Brv e).trans e2,hy⟩
def bwM (x y p k:Int):TCT cBl:=(1,(x,(bif x==0&&(y==0&&true) then 1 else y),()),p,k,())
theorem Cxe {x y p k n:Int} (h1 : -32768≤x∧x≤32767) (h2 : -32768≤y∧y≤32767) (h3:1≤p∧p≤2097152) (h4:0≤k∧k≤4) (hn:2≤n):bwB n (bwM x y p k)=false:=by
 have a:=Cwv (n:=n) h1 h2 h3 h4 (by omega)
 unfold bwB bwN at a
 unfold bwB bwM
 simp only at a ⊢
 rw [decide_eq_false (show ¬ (0:Int)<0 by decide),decide_eq_false (show ¬ (0:Int)≥n by omega)] at a
 rw [decide_eq_false (show ¬ (1:Int)<0 by decide),decide_eq_false (show ¬ (1:Int)≥n by omega)]
 exact a
theorem Cow {w:TCT Bni} (hw:WFD Bni w):Bkf w 1=bwM w.1 w.2.1 (1+w.2.2.1 % 2097152) (w.2.2.2.1 % 5):=by
 unfold Bkf bwM
 rw [D1l hw.2.2.1,D1m hw.2.2.2.1,w16 hw.1,w16 hw.2.1]
theorem Cox {w:TCT Bni} (hw:WFD Bni w) {n:Int} (hn:2≤n):bwB n (Bkf w 1)=false:=by
 rw [Cow hw]
 exact Cxe hw.1 hw.2.1 (D1n _) (D5h _) hn
theorem Cce {l:List (TCT Bdx)} {w:TCT Bni} {d tk:Int} (x:TCT Bbu) (hw:WFD Bni w) (hl:l.length=2) (hd:0≤d):(Cgk skV TickV tk (Bgu d 0 x l) (Bkg d 0 x l) (Bmb d 0 x l) (Bkf w 1)).sat (fun _=>True):=by
 unfold Cgk
 cases hb:Bmb d 0 x l with
 | false=>exact trivial
 | true =>
  obtain ⟨hS,hst,hout,hlen,hgr⟩:=Cwx hb
  have he:Ccd (Bgu d 0 x l).1:=by rw [hgr];exact Cx9 hd
  have hs:((Bgu d 0 x l).1.1.size:Int)≤Bb4 .i64:=by rw [hgr];exact Bs0 d 0
  obtain ⟨hM,hB⟩:=Cxb (d:=d) (s:=0) (x:=x) (l:=l)
  generalize Bgu d 0 x l=g at *
  generalize Bkg d 0 x l=s at *
  rw [Bool.not_true,cond_false,Bdm hs]
  have hbw:bwB ((No g).length:Int) (Bkf w 1)=false:=Cox hw (by omega)
  have k:SkOk g s (Bkf w 1):=⟨hS,Ckn hbw,hst,hout _⟩
  unfold Cuz
  cases he2:(skV g s (Bkf w 1)).2.2.1 != 0 with
  | true =>
   rw [D02 k hbw (bne_iff_ne.1 he2)]
   exact trivial
  | false =>
   have he':=bne_eq_false_iff_eq.1 he2
   obtain ⟨t1,_⟩:=Cle he'
   obtain ⟨_,t0,_,_⟩:=Cll he'
   rw [cond_false]
   obtain ⟨y,e,hy⟩:=Cv1 (tk:=tk) hs he hM (hlen.trans hl) hB 41 0 50 (skV g s (Bkf w 1)).1 (by omega) (by omega) ⟨t1,t0⟩
   rw [show iter (Bnl TickV) 50 (Bqc tk (Bds g) (skV g s (Bkf w 1)).1 0)=some y from e]
   rcases hy with rfl | rfl
   ·exact trivial
   ·exact trivial
theorem D5p {x:Int} (h:0≤x∧x≤65535):0≤W64 x:=by rw [Bbc (by omega) (by omega)];exact h.1
end Tp
open Tp
theorem topTired_sat:LawSat X_topTired 4 cs_topTired 10:=D15 10 (fun y=>D1u Bgu Bkg Bmb Bkf St.skV St.TickV [y.1.1,y.1.2.1] y.2.1 y.2.2.1 y.2.2.2.1.1 y.2.2.2.1.2.1 y.2.2.2.2.1) (Cou Bgu Bkg Bmb Bkf St.skV St.TickV) fun _ hw=>Cce _ hw.2.1 rfl (D5p hw.2.2.1)
end V
end Go.Proofs.YtcfanlgpkefogaaGreat
