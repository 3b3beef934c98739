import Derived.Test.YtcfanlgpkefogaaGreatAu
import Derived.Test.YtcfanlgpkefogaaGreatAr
namespace Go.Proofs.YtcfanlgpkefogaaGreat
open Go.RowKit
namespace V
namespace Tp
open St
theorem Cvp {m:TCT Baq} (h:zM5 m=false):Bii m=true:=by
 show (!zM5 m)=true
 rw [h];rfl
theorem D2h {m:TCT Baq} (h:zM5 m=true):Bii m=false:=by
 show (!zM5 m)=false
 rw [h];rfl
theorem Ch7 {m:TCT Baq} (h:zM5 m=true):Bdo m=true:=by
 unfold zM5 at h
 unfold Bdo
 rw [Bool.and_true] at h
 exact h
theorem C0u {b:TCT Fq} {o:Bool} {m:TCT Baq} (h:Bii m=false):∀ k:Nat,frN b o k m=m
 | 0=>rfl
 | k+1=>by
  show frN b o k (frS b o m)=m
  have e:frS b o m=m:=by unfold frS;rw [h,Bool.and_false];rfl
  rw [e];exact C0u h k
theorem Cct (m:TCT Baq):Cxv m m=true:=by unfold Cxv;simp only [beq_self_eq_true,Bool.and_self]
theorem Cxw {m x:TCT Baq} (hok:Biu Be0 m=true) (hx:x=frN Be0 false 16 m) (ha:frA Be0 false 16 m):(tkM m).2.1=0∧(zM5 m=false→(tkM m).1=x)∧(zM5 m=true→x=m):=by
 have ok:(bm Be0 m).ok=true:=hok
 have st:Bn3 16 (bm Be0 m)=true∧(zM5 m=false→x=mot (V.stE 16 (bm Be0 m))):=by
  cases hz:zM5 m with
  | false =>
   obtain ⟨a,b⟩:=Bs7 16 m (Cvp hz) ha
   exact ⟨a,fun _=>hx.trans b⟩
  | true =>
   have hr:=Ch7 hz
   unfold Bdo at hr
   rw [Bool.and_eq_true] at hr
   exact ⟨Bs8 (Bm.fit ok) (beq_iff_eq.1 hr.1) (beq_iff_eq.1 hr.2) 16,fun h=>by cases h⟩
 have e:tkM m=(mot (V.stE 16 (bm Be0 m)),0,()):=by
  unfold tkM C3s
  rw [ok]
  show Bn4 (16*1) (bm Be0 m)=_
  unfold Bn4
  rw [ok]
  show (bif Bn3 16 (bm Be0 m) then (mot (V.stE 16 (bm Be0 m)),0,()) else (Bce,4,()):Brg)=_
  rw [st.1];rfl
 refine ⟨by rw [e],fun h=>by rw [e];exact (st.2 h).symm,fun h=>hx.trans (C0u (D2h h) 16)⟩
structure BI (g:TCT cGr) (s:TCT cSt) (r:S2) (k:Nat) (m':TCT Baq):Prop where
 e:m'=slS g.1 false (Bck s.2.2.1 s.2.2.2.1 k) (V2 (msT s) k)
 c:slK g.1 false (Bck s.2.2.1 s.2.2.2.1 k) (V2 (msT s) k)
 t:(tkM m').2.1=0
 x:zM5 m'=false→(tkM m').1=V2 r.1 k
 y:zM5 m'=true→V2 r.1 k=m'
theorem Cpc {g:TCT cGr} {s:TCT cSt} {r:S2} (h:StaOk g s) (hb:∀ i:Nat,i<(Fp g).length→Bc1 (Fp g) i=Be0) (e:tkF (ctS g s) (msT s,osT s,[])=.inl r) (h0:r.2.2=[]) {k:Nat} (hk:k<(Fp g).length) (hz:zM5 (V2 (msT s) k)=false):∃ m',BI g s r k m':=by
 obtain ⟨ms,sl,rq,tk⟩:=Ccr h e h0
 have q:=(Bmw h).1
 have ho:Bbu (osT s) k=false:=by
  cases ho:Bbu (osT s) k with
  | false=>rfl
  | true =>
   have:=q.z k hk ho
   unfold Bdo at this
   unfold zM5 at hz
   rw [Bool.and_true,this] at hz
   cases hz
 obtain ⟨a1,a2⟩:=sl.a k hk
 obtain ⟨b1,b2⟩:=tk.a k hk
 rw [ho] at a1 a2 b1 b2
 rw [hb k hk] at b1 b2
 have ok:=rq.ok k hk
 rw [hb k hk] at ok
 obtain ⟨t,x,y⟩:=Cxw ok b1 b2
 exact ⟨V2 ms k,a1,a2,t,x,y⟩
theorem Cxx {w fl:Int} {k:Nat} (h0:0≤fl) (h:Bck w fl k=false):(((k:Int)!=w)=true)∨(((k:Int)!=w)=false∧(fl==0)=true):=by
 unfold Bck at h
 by_cases e:(k:Int)=w
 ·right
  refine ⟨bne_eq_false_iff_eq.2 e,?_⟩
  rw [beq_iff_eq.2 e,Bool.true_and] at h
  have:=of_decide_eq_false h
  exact beq_iff_eq.2 (by omega)
 ·left
  exact bne_iff_ne.2 e
theorem Cpd {w fl:Int} {k:Nat} (h:Bck w fl k=true):(((k:Int)!=w)=false)∧(fl==0)=false:=by
 unfold Bck at h
 rw [Bool.and_eq_true] at h
 have a:=beq_iff_eq.1 h.1
 have b:=of_decide_eq_true h.2
 exact ⟨bne_eq_false_iff_eq.2 a,beq_eq_false_iff_ne.2 (by omega)⟩
theorem D2i {q:QTg} {k:Nat} {m':TCT Baq} (ht:k<(q.t.1:Baj).length) (h1:(tkM m').2.1=0) (h2:zM5 m'=false→(tkM m').1=V2 q.t.1 k) (h3:zM5 m'=true→V2 q.t.1 k=m'):Bpb q (k:Int) m'=Bkj q (k:Int):=by
 have hT:moT q.t (k:Int)=V2 q.t.1 k:=rfl
 unfold Bpb C5m
 rw [h1,hT,Bde (by omega),Bde (by omega)]
 cases hz:zM5 m' with
 | false =>
  rw [h2 hz,Bwf]
  rfl
 | true =>
  rw [h3 hz,Cct]
  rfl
theorem Cxy {g:TCT cGr} {s:TCT cSt} (h:StaOk g s):0≤s.2.2.2.1:=by
 have n:=h.num
 unfold Bvx at n
 simp only [Bool.or_eq_false_iff] at n
 have:=of_decide_eq_false n.2.2.1
 exact Int.not_lt.1 this
theorem Cxz {g:TCT cGr} {s:TCT cSt} {r:S2} {l:List (TCT Bcn)} {tk i:Int} (hs:(g.1.1.size:Int)≤Bb2 .i64) (h:StaOk g s) (hn:(Fp g).length=l.length) (hb:∀ i:Nat,i<(Fp g).length→Bc1 (Fp g) i=Be0) (e:tkF (ctS g s) (msT s,osT s,[])=.inl r) :
  iter Bmo (l.length+1) (Bsb ⟨l,tk,Bcb g,s,nxS s r,r.2.2,i⟩ 0)=some (Byc ⟨l,tk,Bcb g,s,nxS s r,r.2.2,i⟩):=by
 have h8:=h.n8
 have n1:=h.n1
 have su:StaOk g (nxS s r):=Btg h e
 have hm:(msT s).length=l.length:=h.m.trans hn
 have hu:(msT (nxS s r)).length=l.length:=su.m.trans hn
 cases hk:((r.2.2:Kns).length:Int)==0 with
 | false =>
  refine Bgj ?_
  show (Bkk ⟨l,tk,Bcb g,s,nxS s r,r.2.2,i⟩ 0).run=_
  unfold Bkk
  rw [decide_eq_true (show (0:Int)<(l.length:Int) by omega),hk]
  rfl
 | true =>
  have h0:r.2.2=[]:=List.eq_nil_of_length_eq_zero (by have:=beq_iff_eq.1 hk;omega)
  have key:=Bfq (st:=Bmo) (S:=Unit) (B:=Empty) l.length (fun k _=>Bsb ⟨l,tk,Bcb g,s,nxS s r,r.2.2,i⟩ (k:Int)) (fun _ x=>.inl x) (fun _=>Byc ⟨l,tk,Bcb g,s,nxS s r,r.2.2,i⟩) (fun _ _=>True)
   (fun k x hi _=>by
    show (Bkk ⟨l,tk,Bcb g,s,nxS s r,r.2.2,i⟩ (k:Int)).run=_
    have ht:k<(msT (nxS s r)).length:=by omega
    have hkb:k<(Fp g).length:=by omega
    have e1:Bkk ⟨l,tk,Bcb g,s,nxS s r,r.2.2,i⟩ (k:Int)=Bkj ⟨l,tk,Bcb g,s,nxS s r,r.2.2,i⟩ (k:Int):=by
     unfold Bkk
     rw [decide_eq_true (show (k:Int)<(l.length:Int) by omega),hk,cond_true,cond_true]
     show inN (msT s).length (k:Int) (C5n ⟨l,tk,Bcb g,s,nxS s r,r.2.2,i⟩ (k:Int) (V2 (msT s) k))=_
     rw [Bde (by omega)]
     unfold C5n
     cases hz:zM5 (V2 (msT s) k) with
     | true =>
      have R:REL k (msT s,osT s,[]) r:=Cau (k:=ctS g s) h.n8 e
      have e2:=(R.r2 (Ch7 hz) (by rw [h0];rfl)).1
      have hT:moT (nxS s r) (k:Int)=V2 (msT s) k:=e2
      rw [cond_true]
      show inN (msT (nxS s r)).length (k:Int) (bif !Ccp (moT (nxS s r) (k:Int)) (V2 (msT s) k) then _ else _)=_
      rw [Bde (by omega),hT,Bwf]
      rfl
     | false =>
      obtain ⟨m',B⟩:=Cpc h hb e h0 hkb hz
      have kc:Bpb ⟨l,tk,Bcb g,s,nxS s r,r.2.2,i⟩ (k:Int) m'=Bkj ⟨l,tk,Bcb g,s,nxS s r,r.2.2,i⟩ (k:Int):=D2i (q:=⟨l,tk,Bcb g,s,nxS s r,r.2.2,i⟩) ht B.t B.x B.y
      have be:=B.e
      have bc:=B.c
      have hmv:=Cvp hz
      rw [cond_false]
      cases hf:Bck s.2.2.1 s.2.2.2.1 k with
      | true =>
       obtain ⟨f1,f2⟩:=Cpd hf
       rw [f1,f2,cond_false,cond_false]
       unfold slS at be
       rw [hf,hmv] at be
       have be:m'=V2 (msT s) k:=be
       rw [← be];exact kc
      | false =>
       unfold slS at be
       unfold slK at bc
       rw [hf,hmv] at be bc
       have be:m'=Bsw g.1 (V2 (msT s) k):=be
       obtain ⟨c1,c2⟩:=bc rfl
       have ks:Bye ⟨l,tk,Bcb g,s,nxS s r,r.2.2,i⟩ (k:Int) (V2 (msT s) k)=Bkj ⟨l,tk,Bcb g,s,nxS s r,r.2.2,i⟩ (k:Int):=by
        unfold Bye
        rw [show szT (lwG (Bcb g)) _=_ from Bdd (l:=g.1) hs]
        show (bif Bdr g.1 (V2 (msT s) k).1 != 0 then _ else bif (Bhq g.1 (V2 (msT s) k)).2.1 != 0 then _ else Bpb ⟨l,tk,Bcb g,s,nxS s r,r.2.2,i⟩ (k:Int) (Bsw g.1 (V2 (msT s) k)):Byd)=_
        rw [c1,c2,← be]
        exact kc
       rcases Cxx (Cxy h) hf with f | ⟨f1,f2⟩
       ·rw [f,cond_true];exact ks
       ·rw [f1,f2,cond_false,cond_true];exact ks
    rw [e1]
    unfold Bkj
    rw [Bbb (n:=(k:Int)+1) (by omega) (by omega)]
    rfl) (fun _ _ _ _ _ _=>trivial) (fun x _=>by
    show (Bkk ⟨l,tk,Bcb g,s,nxS s r,r.2.2,i⟩ (l.length:Int)).run=_
    unfold Bkk
    rw [decide_eq_false (show ¬ (l.length:Int)<(l.length:Int) by omega)]
    rfl) l.length 0 () (by omega) trivial
  exact key
theorem Cy0 {t:Int}:Int.tmod (W64 t) 11≤10:=by
 have:=Int.tmod_lt_of_pos (W64 t) (show (0:Int)<11 by decide)
 omega
theorem Cpe {g:TCT cGr} {t:TCT cSt} {l:List (TCT Bcn)} {tk:Int} {i:Nat} (hs:(g.1.1.size:Int)≤Bb2 .i64) (hn:(Fp g).length=l.length) (hb:∀ i:Nat,i<(Fp g).length→Bc1 (Fp g) i=Be0) (hi:i≤11) (c:TI g i t) (hd:(i:Int)<Int.tmod (W64 tk) 11) :
  (Bja TickV (Bkl l tk (Bcb g) t (i:Int))).run=some (.inr (Bmp true))∨∃ t',(Bja TickV (Bkl l tk (Bcb g) t (i:Int))).run=some (.inl (Bkl l tk (Bcb g) t' ((i+1:Nat):Int)))∧TI g (i+1) t':=by
 show (Bpc TickV l tk (Bcb g) t (i:Int)).run=_∨∃ t',(Bpc TickV l tk (Bcb g) t (i:Int)).run=_∧_
 unfold Bpc
 rw [decide_eq_true hd,cond_true,show szT (lwG (Bcb g)) _=_ from Bdd (l:=g.1) hs]
 show (Byf l tk (Bcb g) t (i:Int) (TickV g t)).run=_∨∃ t',(Byf l tk (Bcb g) t (i:Int) (TickV g t)).run=_∧_
 rcases Cgn c.a (by rw [c.tk];exact fun e=>by have e:(i:Int)=4000:=e;omega) with e | ⟨r,hf,e⟩
 ·rw [e];exact .inl rfl
 ·rw [e]
  have su:StaOk g (nxS t r):=Btg c.a hf
  have hm:(msT t).length=l.length:=c.a.m.trans hn
  have hu:(msT (nxS t r)).length=l.length:=su.m.trans hn
  refine .inr ⟨nxS t r,?_,su,?_⟩
  ·unfold Byf
   show (bif ((0:Int)!=0) then _ else bif ((msT (nxS t r)).length:Int)!=(l.length:Int) then _ else bif ((msT t).length:Int)!=(l.length:Int) then _ else Ch2 (iter Bmo (l.length+1) (Bsb ⟨l,tk,Bcb g,t,nxS t r,r.2.2,(i:Int)⟩ 0)):Ch1).run=_
   rw [hu,hm,bne_self_eq_false,show ((l.length:Int)!=(l.length:Int))=false from bne_self_eq_false _,Cxz hs c.a hn hb hf]
   show some (Sum.inl (Bkl l tk (Bcb g) (nxS t r) (W64 ((i:Int)+1))))=_
   rw [Bbb (n:=(i:Int)+1) (by omega) (by omega)]
   rfl
  ·show W64 (t.2.2.2.2.1+1)=_
   rw [c.tk,Bbb (n:=(i:Int)+1) (by omega) (by omega)];rfl
theorem Cvq {g:TCT cGr} {l:List (TCT Bcn)} {tk:Int} (hs:(g.1.1.size:Int)≤Bb2 .i64) (hn:(Fp g).length=l.length) (hb:∀ i:Nat,i<(Fp g).length→Bc1 (Fp g) i=Be0):∀ (k i m:Nat) (t:TCT cSt),i+k=11→k+1≤m→TI g i t→∃ y,iter (Bja TickV) m (Bkl l tk (Bcb g) t (i:Int))=some y∧(y=Bmp true∨y=C5p)
 | k,i,0,t,_,hm,_=>by omega
 | k,i,m+1,t,hk,hm,o=>by
  cases hd:decide ((i:Int)<Int.tmod (W64 tk) 11) with
  | false =>
   refine ⟨C5p,Bgj ?_,.inr rfl⟩
   show (Bpc TickV l tk (Bcb g) t (i:Int)).run=_
   unfold Bpc
   rw [hd]
   rfl
  | true =>
   have hd':=of_decide_eq_true hd
   have h10:=Cy0 (t:=tk)
   rcases Cpe hs hn hb (by omega) o hd' with e | ⟨t',e,o'⟩
   ·exact ⟨_,Bgj e,.inl rfl⟩
   ·cases k with
    | zero=>omega
    | succ k =>
     obtain ⟨y,e2,hy⟩:=Cvq hs hn hb k (i+1) m t' (by omega) (by omega) o'
     exact ⟨y,(Bs1 e).trans e2,hy⟩
theorem Ccu {l:List (TCT Bcn)} {w:TCT Bm7} {d sl tk:Int} (x:TCT Bbv) (hw:WFD Bm7 w) (hl:(l.length:Int)≠0) (h4:¬ (l.length:Int)>4):(Ch6 skV TickV l tk (Bgr d sl x l) (Bk3 d sl x l) (Bki d sl x l) (Bkb w 0)).sat (fun _=>True):=by
 unfold Ch6
 cases hb:Bki d sl x l with
 | false=>exact trivial
 | true =>
  obtain ⟨hS,hst,hout,hlen,hgr⟩:=Cxp hb
  have hs:((Bgr d sl x l).1.1.size:Int)≤Bb2 .i64:=by rw [hgr];exact Bs6 d sl
  obtain ⟨_,hB⟩:=Cxr (d:=d) (s:=sl) (x:=x) (l:=l)
  generalize Bgr d sl x l=g at *
  generalize Bk3 d sl x l=s at *
  rw [Bool.not_true,cond_false,Bdd hs]
  have hbw:bwB ((Fp g).length:Int) (Bkb w 0)=false:=Cxn hw (by omega)
  have k:SkOk g s (Bkb w 0):=⟨hS,Cl8 hbw,hst,hout _⟩
  unfold Cvo
  cases he2:(skV g s (Bkb w 0)).2.2.1 != 0 with
  | true =>
   rw [D0p k hbw (bne_iff_ne.1 he2)]
   exact trivial
  | false =>
   have he':=bne_eq_false_iff_eq.1 he2
   obtain ⟨t1,_⟩:=Cly he'
   obtain ⟨_,t0,_,_⟩:=Cm5 he'
   rw [cond_false]
   obtain ⟨y,e,hy⟩:=Cvq (l:=l) (tk:=tk) hs hlen hB 11 0 20 (skV g s (Bkb w 0)).1 (by omega) (by omega) ⟨t1,t0⟩
   rw [show iter (Bja TickV) 20 (Bkl l tk (Bcb g) (skV g s (Bkb w 0)).1 0)=some y from e]
   rcases hy with rfl | rfl
   ·exact trivial
   ·exact trivial
theorem Cy1 {l:List (TCT Bcn)} {w:TCT Bm7} {d sl tk:Int} (hw:WFD Bm7 w):(Cpa Bgr Bk3 Bki Bkb skV TickV l w d sl tk).sat (fun _=>True):=by
 unfold Cpa
 cases c0:(l.length:Int)==0 with
 | true=>exact trivial
 | false =>
  cases c4:decide ((l.length:Int)>4) with
  | true=>exact trivial
  | false =>
   have h4:=of_decide_eq_false c4
   have h0:(l.length:Int)≠0:=fun e=>by rw [e] at c0;cases c0
   rw [cond_false,cond_false,decide_eq_true (show l.length≤1000 by omega),cond_true]
   exact Ccu _ hw h0 h4
end Tp
open Tp
theorem topGrass_sat:LawSat X_topGrass 5 cs_topGrass 10:=D1s 10 (fun y=>Cpa Bgr Bk3 Bki Bkb St.skV St.TickV y.1 y.2.1 y.2.2.1 y.2.2.2.1 y.2.2.2.2.1) (Cpb Bgr Bk3 Bki Bkb St.skV St.TickV) fun _ hw=>Cy1 hw.2.1
end V
end Go.Proofs.YtcfanlgpkefogaaGreat
