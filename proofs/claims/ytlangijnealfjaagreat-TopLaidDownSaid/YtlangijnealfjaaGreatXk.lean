import Derived.Test.YtlangijnealfjaaGreatXi
import Derived.Test.YtlangijnealfjaaGreatFb
namespace Go.Proofs.YtlangijnealfjaaGreat
open Go.RowKit
namespace V
namespace St
theorem B4u {bl:List (TCT A2)} {c:TCT Cc} {t st w fl e:Int} {n:Nat} {s:S2} (hn8:n≤8) (q:RQ bl n s.1 s.2.1) (ha:AS s.1) (hc:Gl c.1 c.2.1=true) (h:seF bl c t st w fl n s=.inr e):False:=by
 have hG:InvH s.1 s.2.1 n n (seG bl w fl n s):=Ts
 have hV:InvV n (seG bl w fl n s):=B7u q
 have hb:=hV.b
 have hm:=hV.m
 have hk:=hG.g.k
 have hA:AS (seG bl w fl n s).2.2:=fun k=>by
  by_cases hk:k<(seG bl w fl n s).1.length
  ·rw [(hG.h k hk).1];exact ha _
  ·have hm:=hG.g.m
   unfold A9
   rw [Cf,List.getD_eq_getElem?_getD,List.getElem?_eq_none (by omega)];rfl
 have ck:Kn (seG bl w fl n s).2.1 (seG bl w fl n s).2.2=0:=by
  unfold Kn
  rw [decide_eq_false (show ¬ ((seG bl w fl n s).2.1.length:Int)>8 by omega),show (((seG bl w fl n s).2.1.length:Int)!=((seG bl w fl n s).2.2.length:Int))=false from bne_eq_false_iff_eq.2 (by omega),Aos _ _ (by omega) (fun k hk=>hV.v k (by omega))]
  rfl
 have e0:(seS bl c w fl n s).2.2.1=0:=by
  unfold seS Bi
  rw [ck,hc,Se _ _ ((seG bl w fl n s).2.2,[]) hA]
  rfl
 unfold seF at h
 rw [e0] at h
 cases h
theorem B4v {bl:List (TCT A2)} {l:TCT A8} {t st e:Int} {n:Nat} {s:S2} (ha:AS s.1) (h:mvF bl l t st n s=.inr e):False:=by
 unfold mvF at h
 have e1:An (stE bl s.2.1) 0 n s.1=.inl s.1:=by
  have:∀ (k i:Nat),An (stE bl s.2.1) i k s.1=.inl s.1:=fun k=>by
   induction k with
   | zero=>intro i;rfl
   | succ k ih =>
    intro i
    unfold An
    rw [show stE bl s.2.1 i s.1=.inl s.1 by unfold stE;rw [ha.roll];rfl]
    exact ih (i+1)
  exact this n 0
 rw [e1] at h
 have h2:An (lvE l t st) 0 n (s.1,s.2.1,s.2.2)=.inr e:=h
 obtain ⟨j,x,hf⟩:=Ha _ _ _ _ h2
 exact Awe hf
theorem B4w {bl:List (TCT A2)} {c:TCT Cc} {ps:Dss} {n:Nat} {w fl t st e:Int} {s:S2} (ha:AS s.1) (h:buF bl c ps t st w fl n s=.inr e):False:=by
 unfold buF at h
 have one:∀ j:Nat,Ux (An (bpE (Ef bl j) c ps s.2.1 w fl t st j) 0 ps.length (s.1,s.2.2))=.inl (s.1,s.2.2):=fun j=>by
  cases hp:ps.length with
  | zero=>rfl
  | succ m =>
   unfold An
   rw [show bpE (Ef bl j) c ps s.2.1 w fl t st j 0 (s.1,s.2.2)=.inr (.inl (s.1,s.2.2)) by unfold bpE;rw [show C6 (s.1,s.2.2).1 s.2.1 j=false from ha.roll];rfl]
   rfl
 have all:∀ (k i:Nat),An (fun j x=>Ux (An (bpE (Ef bl j) c ps s.2.1 w fl t st j) 0 ps.length x)) i k (s.1,s.2.2)=.inl (s.1,s.2.2):=fun k=>by
  induction k with
  | zero=>intro i;rfl
  | succ k ih =>
   intro i
   unfold An
   rw [one i]
   exact ih (i+1)
 have h2:An (fun j x=>Ux (An (bpE (Ef bl j) c ps s.2.1 w fl t st j) 0 ps.length x)) 0 n (s.1,s.2.2)=.inr e:=h
 rw [all n 0] at h2
 cases h2
theorem B4x {k:CT} {i:Nat} {s:S2} {e:Int} (hn8:k.bl.length≤8) (hc:Gl k.c.1 k.c.2.1=true) (q:RQ k.bl k.bl.length s.1 s.2.1) (ho:OL k.l k.bl.length s.1 s.2.1) (ha:AS s.1) (h:tkE k i s=.inr e):False:=by
 unfold tkE at h
 cases h1:mvF k.bl k.l k.t ((i+1:Nat):Int) k.bl.length s with
 | inr x=>exact B4v ha h1
 | inl s1 =>
  rw [h1] at h
  simp only at h
  have a:=Ao8 h1 q
  have n1:NH s s1:=Aoj h1 ha ho
  cases h2:seF k.bl k.c k.t ((i+1:Nat):Int) k.w k.fl k.bl.length s1 with
  | inr x=>exact B4u hn8 a.1 (n1.as ha) hc h2
  | inl s2 =>
   rw [h2] at h
   simp only at h
   have n2:NH s1 (s2.1,s1.2.1,s2.2):=Aoi hn8 h2 (n1.as ha)
   cases h3:buF k.bl k.c k.ps k.t ((i+1:Nat):Int) k.w k.fl k.bl.length (s2.1,s1.2.1,s2.2) with
   | inr x=>exact B4w (s:=(s2.1,s1.2.1,s2.2)) (n2.as (n1.as ha)) h3
   | inl s3=>rw [h3] at h;cases h
theorem B02 {s:TCT cSt} (h:Df s=true):AS (msT s):=fun j=>by
 unfold Df at h
 unfold A9
 by_cases hj:j<(msT s).length
 ·exact List.all_eq_true.1 h _ (Ck hj _)
 ·rw [Cf,List.getD_eq_getElem?_getD,List.getElem?_eq_none (Nat.le_of_not_lt hj)];rfl
theorem Ach {g:TCT cGr} {s:TCT cSt} (h:StaOk g s) (ht:s.2.2.2.2.1≠4000) (hs:Df s=true):∃ r:S2,tkF (ctS g s) (msT s,osT s,[])=.inl r∧TickV g s=(nxS s r,r.2.2,0,())∧NH (msT s,osT s,[]) r:=by
 have ha:=B02 hs
 have q:=Ws h
 unfold TickV
 rw [B2t h,cond_false]
 unfold tkV
 cases hf:tkF (ctS g s) (msT s,osT s,[]) with
 | inl r=>exact ⟨r,rfl,rfl,B2w (k:=ctS g s) h.n8 hf ha q.2⟩
 | inr e =>
  exfalso
  unfold tkF at hf
  cases h0:(ctS g s).t==4000 with
  | true=>exact absurd (beq_iff_eq.1 h0) ht
  | false =>
   rw [h0] at hf
   simp only [cond_false] at hf
   have e1:An (slE (ctS g s).l (osT s) (ctS g s).w (ctS g s).fl) 0 (ctS g s).bl.length (msT s)=.inl (msT s):=by
    have:∀ (m i:Nat),An (slE (ctS g s).l (osT s) (ctS g s).w (ctS g s).fl) i m (msT s)=.inl (msT s):=fun m=>by
     induction m with
     | zero=>intro i;rfl
     | succ m ih =>
      intro i
      unfold An
      rw [show slE (ctS g s).l (osT s) (ctS g s).w (ctS g s).fl i (msT s)=.inl (msT s) by unfold slE;rw [ha.roll];rfl]
      exact ih (i+1)
    exact this _ 0
   rw [e1] at hf
   have h2:An (tkE (ctS g s)) 0 16 (msT s,osT s,[])=.inr e:=hf
   obtain ⟨j,t,_,⟨t1,t2,t3⟩,hj⟩:=Wx (n:=16) (Inv:=fun _ (x:S2)=>RQ (A5 g) (A5 g).length x.1 x.2.1∧OL g.1 (A5 g).length x.1 x.2.1∧AS x.1) (fun i x x' _ hx h3=>⟨(Aao (k:=ctS g s) h3 hx.1).1,(Aao (k:=ctS g s) h3 hx.1).2,(Aok (k:=ctS g s) h.n8 h3 hx.2.2 hx.2.1).as hx.2.2⟩) 16 0 (msT s,osT s,[]) e (by omega) ⟨q.1,q.2,ha⟩ h2
   exact B4x (k:=ctS g s) h.n8 (Awb h.gr) t1 t2 t3 hj
end St
end V
end Go.Proofs.YtlangijnealfjaaGreat
namespace Go.Proofs.YtlangijnealfjaaGreat
open Go.RowKit
namespace V
namespace Tp
open St
theorem Aiy {ps:List (TCT cPt)} {i:Nat} {q:TCT cPt} (h:q ∈ ps.take i):∃ j:Nat,j<i∧j<ps.length∧q=Al ps j (Ak cPt):=by
 obtain ⟨j,hj,e⟩:=List.getElem_of_mem h
 rw [List.length_take] at hj
 refine ⟨j,by omega,by omega,?_⟩
 rw [← e,List.getElem_take,D2 (by omega)]
theorem Aiz {ps:List (TCT cPt)} {i:Nat} {q:TCT cPt} (h:q ∈ ps.drop (i+1)):∃ j:Nat,i<j∧j<ps.length∧q=Al ps j (Ak cPt):=by
 obtain ⟨j,hj,e⟩:=List.getElem_of_mem h
 rw [List.length_drop] at hj
 refine ⟨i+1+j,by omega,by omega,?_⟩
 rw [← e,List.getElem_drop,D2 (by omega)]
theorem Gd8.may {ps:List (TCT cPt)} (h:Gd8 ps) (h4:ps.length≤4) {i:Nat} (hi:i<ps.length):Kw G8 (Al ps i (Ak cPt)) 2946 (rsL (ps.map Bd) (i:Int))=(true,0):=by
 have e:rsL (ps.map Bd) (i:Int)=(ps.take i++ps.drop (i+1)).map Bd:=by
  unfold rsL
  rw [B5 (n:=(i:Int)+1) (by omega) (by omega),show Int.toNat (i:Int)=i by omega,show Int.toNat ((i:Int)+1)=i+1 by omega,List.nil_append,List.map_append,List.map_take,List.map_drop]
 have hm:∀ q ∈ ps.take i++ps.drop (i+1),q ∈ ps:=fun q hq=>by
  rcases List.mem_append.1 hq with k | k
  ·exact List.mem_of_mem_take k
  ·exact List.mem_of_mem_drop k
 have m:=B4q (p:=Al ps i (Ak cPt)) (ps:=ps.take i++ps.drop (i+1)) (h.fp _ (Ck hi _)) (fun q hq=>h.fp q (hm q hq)) (by rw [List.length_append,List.length_take,List.length_drop];omega)
 have no:(ps.take i++ps.drop (i+1)).any (nr8 (Al ps i (Ak cPt)))=false:=by
  rw [List.any_eq_false]
  intro q hq
  rcases List.mem_append.1 hq with k | k
  ·obtain ⟨j,a,b,rfl⟩:=Aiy k
   rw [h.sep j i a hi];decide
  ·obtain ⟨j,a,b,rfl⟩:=Aiz k
   rw [Arn,h.sep i j a b];decide
 unfold Kw
 rw [e,m.1,m.2,h.on _ (Ck hi _),no];rfl
theorem Arw {l:List (TCT Bz)} {ps:List (TCT cPt)} (h:Gd8 ps) (hl:ps.length=l.length) (h4:l.length≤4):∀ (k i m:Nat),i+k=l.length→k+1≤m →
  iter (Pr Kw) m (Zn l (gbN gb8 l.length) ps (ps.map Bd) (i:Int))=some (A4b l (gbN gb8 l.length) ps)
 | k,i,0,_,hm=>by omega
 | 0,i,m+1,hk,_=>by
  have e:i=l.length:=by omega
  subst e
  refine Gy ?_
  show (Zo Kw l (gbN gb8 l.length) ps (ps.map Bd) (l.length:Int)).run=_
  unfold Zo
  rw [decide_eq_false (Int.lt_irrefl _)]
  rfl
 | k+1,i,m+1,hk,hm=>by
  refine (O6 ?_).trans (Arw h hl h4 k (i+1) m (by omega) (by omega))
  show (Zo Kw l (gbN gb8 l.length) ps (ps.map Bd) (i:Int)).run=_
  have lm:(ps.map Bd).length=l.length:=by rw [List.length_map,hl]
  unfold Zo
  rw [decide_eq_true (show (i:Int)<(l.length:Int) by omega),lm,B5 (n:=(i:Int)+1) (by omega) (by omega),decide_eq_true (show 0≤(i:Int)∧(i:Int)≤(l.length:Int) by omega),decide_eq_true (show 0≤(i:Int)+1∧(i:Int)+1≤(l.length:Int) by omega)]
  rw [H9 (by rw [List.length_take,List.length_nil];omega) (by decide),H9 (by rw [List.length_append,List.length_take,List.length_drop,List.length_nil];omega) (by decide),Ea (by omega),Ea (by omega),show Int.toNat (i:Int)=i by omega,show Ait (lwb (gbN gb8 l.length))=true from decide_eq_true Art]
  simp only [cond_true]
  have e:Kw (lwb (gbN gb8 l.length)) (Al ps i (Ak cPt)) 2946 (rsL (ps.map Bd) (i:Int))=(true,0):=h.may (by omega) (by omega)
  rw [e]
  unfold B00
  rw [B5 (n:=(i:Int)+1) (by omega) (by omega)]
  rfl
theorem Arx {l:List (TCT Bz)} {ps:List (TCT cPt)} {t:SKTs kSt} (hl:ps.length=l.length) (h4:l.length≤4) (ht:(msT (St.stOf t)).length=l.length) (h:∀ j:Nat,j<l.length→(Al (msT (St.stOf t)) j (Ak Au)).1.1=(Al ps j (Ak cPt)).1∧(Al (msT (St.stOf t)) j (Ak Au)).1.2.1=(Al ps j (Ak cPt)).2.1):∀ (k i m:Nat),i+k=l.length→k+1≤m →
  iter Pt m (Zp l ps t (i:Int))=some Acd
 | k,i,0,_,hm=>by omega
 | 0,i,m+1,hk,_=>by
  have e:i=l.length:=by omega
  subst e
  refine Gy ?_
  show (Zq l ps t (l.length:Int)).run=_
  unfold Zq
  rw [decide_eq_false (Int.lt_irrefl _)]
  rfl
 | k+1,i,m+1,hk,hm=>by
  refine (O6 ?_).trans (Arx hl h4 ht h k (i+1) m (by omega) (by omega))
  show (Zq l ps t (i:Int)).run=_
  obtain ⟨a,b⟩:=h i (by omega)
  unfold Zq
  rw [decide_eq_true (show (i:Int)<(l.length:Int) by omega),Ea (by omega),Ea (by omega),show Int.toNat (i:Int)=i by omega,a,b,beq_self_eq_true,beq_self_eq_true,B5 (n:=(i:Int)+1) (by omega) (by omega)]
  rfl
theorem A8y {l:TCT A8} {p:List (TCT cPt)} (h:∀ j:Nat,j<p.length→Amm l p j=true):∀ (k i:Nat) (ms:List (TCT Au)),i+k=p.length→∃ ms':List (TCT Au),An (f_li l p) i k ms=.inl ms'
 | 0,_,ms,_=>⟨ms,rfl⟩
 | k+1,i,ms,hk=>by
  have e:f_li l p i ms=.inl (ms++[A02 (Al p i (Ak cPt))]):=by
   unfold f_li
   rw [h i (by omega)];rfl
  obtain ⟨ms',a⟩:=A8y h k (i+1) (ms++[A02 (Al p i (Ak cPt))]) (by omega)
  refine ⟨ms',?_⟩
  unfold An
  rw [e]
  exact a
theorem B4y {g:TCT cGr} {ps:List (TCT cPt)} (hg:groE g=0) (hn:ps.length=(A5 g).length) (hp:∀ p ∈ ps,onB g.1 p=true):(Et g ps).2.1=0∧(Et g ps).1.2.2.2.2.1=0:=by
 obtain ⟨ms,a⟩:=A8y (l:=g.1) (p:=ps) (fun j hj=>hp _ (Ck hj (Ak cPt))) ps.length 0 [] (by omega)
 unfold Et
 rw [hg,a]
 have e:W6 ps.length (A5 g).length=false:=by
  unfold W6
  rw [hn];exact bne_eq_false_iff_eq.2 rfl
 rw [e]
 exact ⟨rfl,rfl⟩
theorem B4z {g:TCT cGr} {p:List (TCT cPt)} (h:(Et g p).2.1=0):∀ j:Nat,j<p.length→A9 (msT (Et g p).1) j=A02 (Al p j (Ak cPt)):=by
 unfold Et at h ⊢
 cases h1:groE g != 0 with
 | true=>rw [h1] at h;exact absurd h (bne_iff_ne.1 h1)
 | false =>
  rw [h1] at h
  simp only [cond_false] at h ⊢
  cases h2:W6 p.length (A5 g).length with
  | true=>rw [h2] at h;cases h
  | false =>
   rw [h2] at h
   simp only [cond_false] at h ⊢
   cases h3:An (f_li g.1 p) 0 p.length [] with
   | inr e=>rw [h3] at h;cases h
   | inl ms=>exact fun j hj=>((Aei h3).g j hj).1
theorem Aj0 {s:TCT cSt} (h:AS (msT s)):Df s=true:=by
 unfold Df
 rw [List.all_eq_true]
 intro x hx
 obtain ⟨j,hj,e⟩:=List.getElem_of_mem hx
 have:=h j
 unfold A9 at this
 rw [D2 hj,e] at this
 exact this
theorem B50 {l:List (TCT Bz)} {ps:List (TCT cPt)} (h:Gd8 ps) (hl:ps.length=l.length) (h1:1≤l.length) (h4:l.length≤4):(Arm Zi TickV Ti (some (A4b l (gbN gb8 l.length) ps))).sat (fun _=>True):=by
 show (szT (lwb (gbN gb8 l.length)) (Arl TickV Ti l (grb (gbN gb8 l.length)) ps (Zi (grb (gbN gb8 l.length)) ps))).sat _
 rw [E1 (l:=lwb (gbN gb8 l.length)) Art]
 have eg:grb (gbN gb8 l.length)=gN 6000 0 (0,0,()) l.length:=rfl
 rw [eg]
 have hb:(A5 (gN 6000 0 (0,0,()) l.length)).length=l.length:=List.length_replicate
 have hg1:(gN 6000 0 (0,0,()) l.length).1=G8:=rfl
 have hg:=Bbr l.length h1 h4
 generalize gN 6000 0 (0,0,()) l.length=g at *
 obtain ⟨e0,t0⟩:=B4y hg (hl.trans hb.symm) (fun p hp=>by rw [hg1];exact Acf (h.on p hp))
 obtain ⟨sta,still,_,_⟩:=B3b e0
 have pl:=B4z e0
 have hs:((g.1).1.size:Int)≤B0 .i64:=by rw [hg1];exact Px 6000 0
 unfold Arl
 rw [E1 hs]
 show (Ark Ti l g ps (Zi g ps) (TickV g (Et g ps).1)).sat _
 have le:(Zi g ps).2=0:=e0
 generalize (Et g ps).1=s at *
 obtain ⟨r,hr,ht,nh⟩:=Ach sta (by rw [t0];decide) still
 have stu:StaOk g (nxS s r):=A6g sta hr
 have sl:Df (nxS s r)=true:=Aj0 (nh.as (B02 still))
 unfold Ark
 rw [E1 hs,le,ht]
 show (Arj l ps (nxS s r,r.2.2,0,()) (Ti g (nxS s r))).sat _
 have sv:Ti g (nxS s r)=(true,0):=by
  unfold Ti
  rw [Aoe stu,sl];rfl
 have hm:(msT (nxS s r)).length=l.length:=stu.m.trans hb
 unfold Arj
 rw [sv]
 show (bif ((r.2.2:Kns).length:Int)!=0 then Tree.fail else bif ((msT (nxS s r)).length:Int)!=(l.length:Int) then Tree.fail else B01 (iter Pt (l.length+1) (Zp l ps (M9 (nxS s r)) 0))).sat _
 rw [nh.k,hm,bne_self_eq_false,show ((([]:Kns).length:Int)!=0)=false by rfl]
 have it:=Arx (l:=l) (ps:=ps) (t:=M9 (nxS s r)) hl h4 hm (fun j hj=>by
  have k:=pl j (by omega)
  have m:A9 r.1 j=A9 (msT s) j:=nh.m j
  have m2:Al (msT (nxS s r)) j (Ak Au)=A02 (Al ps j (Ak cPt)):=m.trans k
  show (Al (msT (nxS s r)) j (Ak Au)).1.1=_∧(Al (msT (nxS s r)) j (Ak Au)).1.2.1=_
  rw [m2];exact ⟨rfl,rfl⟩) l.length 0 (l.length+1) (by omega) (by omega)
 have it:iter Pt (l.length+1) (Zp l ps (M9 (nxS s r)) 0)=some Acd:=it
 rw [it]
 exact trivial
theorem B51 {l:List (TCT Bz)} (hw:WFD (.sl Bz) l):(Ayd Jj Kw Kx Zi TickV Ti l).sat (fun _=>True):=by
 unfold Ayd
 cases h1:(l.length:Int)==0 with
 | true=>exact trivial
 | false =>
  rw [cond_false]
  cases h2:decide ((l.length:Int)>4) with
  | true=>exact trivial
  | false =>
   have h3:=of_decide_eq_false h2
   have h0:=beq_eq_false_iff_ne.1 h1
   rw [cond_false]
   obtain ⟨out,a,b⟩:=Arv hw (by omega) l.length 0 (l.length+1) [] (by omega) (by omega) rfl ⟨(fun _ h=>nomatch h),(fun i j _ h=>absurd h (Nat.not_lt_zero _))⟩
   have a:iter (Pq Jj Kx) (l.length+1) (Ng l (gb0 6000 0 (0,0,())) [] [] 0)=some out:=a
   rw [a]
   rcases b with rfl | ⟨ps,hl,hg,rfl⟩
   ·exact trivial
   ·show (Arm Zi TickV Ti (iter (Pr Kw) (l.length+1) (Zn l (gbN gb8 l.length) ps (ps.map Bd) 0))).sat _
    have e:iter (Pr Kw) (l.length+1) (Zn l (gbN gb8 l.length) ps (ps.map Bd) 0)=some (A4b l (gbN gb8 l.length) ps):=Arw hg hl (by omega) l.length 0 (l.length+1) (by omega) (by omega)
    rw [e]
    exact B50 hg hl (by omega) (by omega)
end Tp
open Tp
theorem topLaidDown_sat:LawSat X_topLaidDown 5 cs_topLaidDown 7:=B4c 7 (fun y=>Ayd Jj Kw Kx Zi St.TickV Ti y.1) (Aye Jj Kw Kx Zi St.TickV Ti) fun _ hw=>B51 hw.1
end V
end Go.Proofs.YtlangijnealfjaaGreat
