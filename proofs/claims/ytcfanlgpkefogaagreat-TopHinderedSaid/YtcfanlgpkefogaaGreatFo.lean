import Derived.Test.YtcfanlgpkefogaaGreatFm
namespace Go.Proofs.YtcfanlgpkefogaaGreat
open Go.RowKit
namespace V
namespace St
structure InvV (i:Nat) (s:GA):Prop where
 b:s.2.1.length=s.1.length
 m:s.2.2.length=s.1.length
 v:∀ k:Nat,k<s.1.length→Bk7 (Bch s.2.1 k) (Bag s.2.2 k)=true
theorem Dbv {bl:List (TCT No)} {ms:Bal} {os:List Bool} {w fl:Int} {n:Nat} (q:RQ bl n ms os):InvV n (gaV bl w fl n ms os) :=
 Bay (n:=n) (Inv:=InvV) (fun i s s' hi h h2=>by
  unfold gaE at h2
  have hb:=h.b
  have hm:=h.m
  cases hc:!Bam os i (Baj .b)&&!Bdb w fl i with
  | false=>rw [hc] at h2;cases h2;exact ⟨hb,hm,h.v⟩
  | true =>
   rw [hc] at h2
   cases h2
   refine ⟨?_,?_,fun k hk=>?_⟩
   ·show (s.2.1++[Bch bl i]).length=(s.1++[(i:Int)]).length
    rw [List.length_append,List.length_append,hb];rfl
   ·show (s.2.2++[Bag ms i]).length=(s.1++[(i:Int)]).length
    rw [List.length_append,List.length_append,hm];rfl
   ·have hk2:k<(s.1++[(i:Int)]).length:=hk
    have hk':k<s.1.length+1:=by rw [List.length_append,List.length_singleton] at hk2;exact hk2
    show Bk7 (Bam (s.2.1++[Bch bl i]) k (Baj No)) (Bam (s.2.2++[Bag ms i]) k (Baj Bat))=true
    rw [Bej (by omega),Bej (by omega)]
    by_cases e:k=s.1.length
    ·rw [if_pos (by omega),if_pos (by omega)];exact q.ok i hi
    ·rw [if_neg (by omega),if_neg (by omega)];exact h.v k (by omega)) n 0 ([],[],[]) _ (by omega) ⟨rfl,rfl,fun k hk=>absurd hk (Nat.not_lt_zero k)⟩ (Bgh (Bap (gaE bl ms os w fl) 0 n ([],[],[])))
theorem Cqe:∀ (l:List (TCT No)) (s:Bal),l.length=s.length→(∀ k,k<l.length→Bk7 (Bch l k) (Bag s k)=true)→(l.zip s).all Bnx=true
 | [],[],_,_=>rfl
 | [],_::_,h,_=>by simp at h
 | _::_,[],h,_=>by simp at h
 | b::l,m::s,h,k=>by
  rw [List.zip_cons_cons,List.all_cons,Bool.and_eq_true]
  exact ⟨k 0 (by simp),Cqe l s (by simpa using h) fun j hj=>k (j+1) (by simpa using hj)⟩
theorem Cex {g:TCT cGr} (h:groE g=0):Be3 g.2.2.1.1 g.2.2.1.2.1=true:=by
 unfold groE at h
 cases h1:Bc3 g.1 != 0 with
 | true=>rw [h1,cond_true] at h;exact absurd h (bne_iff_ne.1 h1)
 | false =>
  rw [h1,cond_false] at h
  cases h2:decide (((V2 g).length:Int)<1)||decide (((V2 g).length:Int)>8) with
  | true=>rw [h2] at h;cases h
  | false =>
   rw [h2,cond_false] at h
   cases h3:okG g with
   | false=>rw [h3] at h;cases h
   | true =>
    unfold okG at h3
    rw [Bool.and_eq_true] at h3
    exact h3.2
end St
end V
end Go.Proofs.YtcfanlgpkefogaaGreat
namespace Go.Proofs.YtcfanlgpkefogaaGreat
open Go.RowKit
namespace V
namespace St
theorem Cqf {p a:Int} {i:Nat} (hi:i<8) (hp : -(i*16777216)≤p∧p≤i*16777216) (ha : -16777216≤a∧a≤16777216):W64 (p+a)=p+a ∧ -((i+1:Nat)*16777216)≤p+a∧p+a≤(i+1:Nat)*16777216:=by
 refine ⟨Bb4 (by omega) (by omega),by omega,by omega⟩
structure InvT (m:Bal) (i:Nat) (p:SKTs kPt):Prop where
 x:p.1=smP ptX (m.take i)
 y:p.2.1=smP ptY (m.take i)
 bx : -(i*16777216)≤smP ptX (m.take i)∧smP ptX (m.take i)≤i*16777216
 by' : -(i*16777216)≤smP ptY (m.take i)∧smP ptY (m.take i)≤i*16777216
theorem Cey {m:Bal} (h8:m.length≤8) (hs:SM m):(Bud m).1=smP ptX m∧(Bud m).2.1=smP ptY m:=by
 have key:∃ p:SKTs kPt,Bap (C9h m) 0 m.length p0=.inl p∧InvT m m.length p:=by
  have e:∀ x:SKTs kPt⊕Unit,(∀ u,x≠.inr u)→∃ p,x=.inl p:=fun x h=>by
   cases x with
   | inl p=>exact ⟨p,rfl⟩
   | inr u=>exact absurd rfl (h u)
  obtain ⟨p,hp⟩:=e (Bap (C9h m) 0 m.length p0) (fun u hu=>by
   obtain ⟨j,v,hj⟩:=Be1 _ _ _ _ hu
   unfold C9h at hj
   cases hj)
  refine ⟨p,hp,Bay (n:=m.length) (Inv:=fun i (x:SKTs kPt)=>InvT m i x) (fun i x x' hi h h2=>?_) m.length 0 p0 p (by omega) ⟨rfl,rfl,by simp [smP],by simp [smP]⟩ hp⟩
  unfold C9h at h2
  cases h2
  have b:=Be2 (hs i)
  have ex:smP ptX (m.take (i+1))=smP ptX (m.take i)+ptX (Bag m i).2.1:=Bli m i hi
  have ey:smP ptY (m.take (i+1))=smP ptY (m.take i)+ptY (Bag m i).2.1:=Bli m i hi
  have wx:=Cqf (i:=i) (by omega) h.bx b.1
  have wy:=Cqf (i:=i) (by omega) h.by' b.2
  refine ⟨?_,?_,?_,?_⟩
  ·show W64 (x.1+(Bag m i).2.1.1)=_
   rw [h.x,ex];exact wx.1
  ·show W64 (x.2.1+(Bag m i).2.1.2.1)=_
   rw [h.y,ey];exact wy.1
  ·rw [ex];exact wx.2
  ·rw [ey];exact wy.2
 obtain ⟨p,hp,h⟩:=key
 unfold Bud
 rw [hp]
 have hx:=h.x
 have hy:=h.y
 rw [List.take_length] at hx hy
 exact ⟨hx,hy⟩
end St
end V
end Go.Proofs.YtcfanlgpkefogaaGreat
