import Derived.Test.YtcfanlgpkefogaaGreatFm
namespace Go.Proofs.YtcfanlgpkefogaaGreat
open Go.RowKit
namespace V
namespace St
structure InvV (i:Nat) (s:GA):Prop where
 b:s.2.1.length=s.1.length
 m:s.2.2.length=s.1.length
 v:∀ k:Nat,k<s.1.length→Biu (Bc1 s.2.1 k) (V2 s.2.2 k)=true
theorem D53 {bl:List (TCT Fq)} {ms:Baj} {os:List Bool} {w fl:Int} {n:Nat} (q:RQ bl n ms os):InvV n (gaV bl w fl n ms os) :=
 Bax (n:=n) (Inv:=InvV) (fun i s s' hi h h2=>by
  unfold gaE at h2
  have hb:=h.b
  have hm:=h.m
  cases hc:!Bav os i (Bas .b)&&!Bck w fl i with
  | false=>rw [hc] at h2;cases h2;exact ⟨hb,hm,h.v⟩
  | true =>
   rw [hc] at h2
   cases h2
   refine ⟨?_,?_,fun k hk=>?_⟩
   ·show (s.2.1++[Bc1 bl i]).length=(s.1++[(i:Int)]).length
    rw [List.length_append,List.length_append,hb];rfl
   ·show (s.2.2++[V2 ms i]).length=(s.1++[(i:Int)]).length
    rw [List.length_append,List.length_append,hm];rfl
   ·have hk2:k<(s.1++[(i:Int)]).length:=hk
    have hk':k<s.1.length+1:=by rw [List.length_append,List.length_singleton] at hk2;exact hk2
    show Biu (Bav (s.2.1++[Bc1 bl i]) k (Bas Fq)) (Bav (s.2.2++[V2 ms i]) k (Bas Baq))=true
    rw [Bej (by omega),Bej (by omega)]
    by_cases e:k=s.1.length
    ·rw [if_pos (by omega),if_pos (by omega)];exact q.ok i hi
    ·rw [if_neg (by omega),if_neg (by omega)];exact h.v k (by omega)) n 0 ([],[],[]) _ (by omega) ⟨rfl,rfl,fun k hk=>absurd hk (Nat.not_lt_zero k)⟩ (Bgl (Bat (gaE bl ms os w fl) 0 n ([],[],[])))
theorem Clz:∀ (l:List (TCT Fq)) (s:Baj),l.length=s.length→(∀ k,k<l.length→Biu (Bc1 l k) (V2 s k)=true)→(l.zip s).all Bmy=true
 | [],[],_,_=>rfl
 | [],_::_,h,_=>by simp at h
 | _::_,[],h,_=>by simp at h
 | b::l,m::s,h,k=>by
  rw [List.zip_cons_cons,List.all_cons,Bool.and_eq_true]
  exact ⟨k 0 (by simp),Clz l s (by simpa using h) fun j hj=>k (j+1) (by simpa using hj)⟩
theorem Caz {g:TCT cGr} (h:groE g=0):Bfj g.2.2.1.1 g.2.2.1.2.1=true:=by
 unfold groE at h
 cases h1:Bc3 g.1 != 0 with
 | true=>rw [h1,cond_true] at h;exact absurd h (bne_iff_ne.1 h1)
 | false =>
  rw [h1,cond_false] at h
  cases h2:decide (((Fp g).length:Int)<1)||decide (((Fp g).length:Int)>8) with
  | true=>rw [h2] at h;cases h
  | false =>
   rw [h2,cond_false] at h
   cases h3:okG g with
   | false=>rw [h3] at h;cases h
   | true =>
    unfold okG at h3
    rw [Bool.and_eq_true] at h3
    exact h3.2
end St
end V
end Go.Proofs.YtcfanlgpkefogaaGreat
namespace Go.Proofs.YtcfanlgpkefogaaGreat
open Go.RowKit
namespace V
namespace St
end St
end V
end Go.Proofs.YtcfanlgpkefogaaGreat
