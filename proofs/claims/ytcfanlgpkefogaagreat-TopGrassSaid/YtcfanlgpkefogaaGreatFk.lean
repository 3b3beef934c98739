import Derived.Test.YtcfanlgpkefogaaGreatEr
namespace Go.Proofs.YtcfanlgpkefogaaGreat
open Go.RowKit
namespace V
namespace St
def smP (h:TCT cPt→Int):Baj→Int
 | []=>0
 | m::l=>h m.2.1+smP h l
def ptX (p:TCT cPt):Int:=p.1
def ptY (p:TCT cPt):Int:=p.2.1
theorem Blo {h:TCT cPt→Int}:∀ (l:Baj) (i:Nat) (x:TCT Baq),i<l.length→smP h (Bb7 l i x)=smP h l-h (V2 l i).2.1+h x.2.1
 | [],i,_,hi=>absurd hi (Nat.not_lt_zero i)
 | m::l,0,x,_=>by
  show h x.2.1+smP h l=h m.2.1+smP h l-h m.2.1+h x.2.1
  omega
 | m::l,i+1,x,hi=>by
  have ih:=Blo (h:=h) l i x (by simpa using hi)
  show h m.2.1+smP h (Bb7 l i x)=h m.2.1+smP h l-h (V2 l i).2.1+h x.2.1
  omega
theorem Bo5 {h:TCT cPt→Int} {l:Baj} {i:Nat} {x:TCT Baq} (e:x.2.1=(V2 l i).2.1):smP h (Bb7 l i x)=smP h l:=by
 by_cases hi:i<l.length
 ·rw [Blo l i x hi,e];omega
 ·rw [Bbe,List.set_eq_of_length_le (Nat.le_of_not_lt hi)]
theorem Cls {n:Int}:∃ q:Int,W64 n=n-18446744073709551616*q:=by
 unfold W64 IntKind.wrap
 simp [IntKind.bits,IntKind.signed]
 split
 ·exact ⟨n / 18446744073709551616+1,by omega⟩
 ·exact ⟨n / 18446744073709551616,by omega⟩
theorem Cwm {a b k:Int} (ha : -16777216≤a∧a≤16777216) (hb : -16777216≤b∧b≤16777216) (h1 : -16777216≤W64 (a-k)∧W64 (a-k)≤16777216) (h2 : -16777216≤W64 (b+k)∧W64 (b+k)≤16777216):W64 (a-k)+W64 (b+k)=a+b:=by
 obtain ⟨p,e1⟩:=Cls (n:=a-k)
 obtain ⟨q,e2⟩:=Cls (n:=b+k)
 omega
theorem Css {a b:Bm} {k:Bme} (ha:Bb3 a.mx a.my=true) (hb:Bb3 b.mx b.my=true) (h:(Bfe a b k).2.2.1=0):ptX (Bfe a b k).1.2.1+ptX (Bfe a b k).2.1.2.1=a.mx+b.mx∧ptY (Bfe a b k).1.2.1+ptY (Bfe a b k).2.1.2.1=a.my+b.my:=by
 unfold Bfe at h ⊢
 cases h1:k.2.1 != 0 with
 | true=>rw [h1] at h;exact absurd h (bne_iff_ne.1 h1)
 | false =>
  rw [h1] at h
  simp only [cond_false] at h ⊢
  cases h2:Bb3 (W64 (a.mx-k.1.1)) (W64 (a.my-k.1.2.1)) with
  | false=>rw [h2] at h;cases h
  | true =>
   rw [h2] at h
   simp only [Bool.not_true,cond_false] at h ⊢
   cases h3:Bb3 (W64 (b.mx+k.1.1)) (W64 (b.my+k.1.2.1)) with
   | false=>rw [h3] at h;cases h
   | true =>
    have a1:=Bdu ha
    have b1:=Bdu hb
    have a2:=Bdu h2
    have b2:=Bdu h3
    exact ⟨Cwm a1.1 b1.1 a2.1 b2.1,Cwm a1.2 b1.2 a2.2 b2.2⟩
inductive PartH:(TCT cPt→Int)→Prop where
 | x:PartH ptX
 | y:PartH ptY
theorem PartH.bnc {h:TCT cPt→Int} (p:PartH h) {a b:TCT Fq} {m m':TCT Baq} {re dr:Int} (ha:smB m=true) (hb:smB m'=true) (e:(Bbm (bm a m) (bm b m') re dr).2.2.1=0):h (Bbm (bm a m) (bm b m') re dr).1.2.1+h (Bbm (bm a m) (bm b m') re dr).2.1.2.1=h m.2.1+h m'.2.1:=by
 have r:=Css (a:=bm a m) (b:=bm b m') (k:=Bqs (bm a m) (bm b m') re dr) ha hb e
 cases p with
 | x=>exact r.1
 | y=>exact r.2
theorem Cdo {h:TCT cPt→Int} (p:PartH h) {l:List (TCT Fq)} {re dr:Int} {i k:Nat} {s s':SS} (hik:¬ k=i) (hi:i<s.1.length) (hk:k<s.1.length) (e:Bdp l re dr i k s=some s') (hs:SM s.1):smP h s'.1=smP h s.1∧s'.1.length=s.1.length:=by
 unfold Bdp at e
 cases h1:(Bbm (bAt l s.1 i) (bAt l s.1 k) re dr).2.2.1==0 with
 | true =>
  rw [h1] at e
  simp only [cond_true,Option.some.injEq] at e
  subst e
  have b:=p.bnc (a:=Bav l i (Bas Fq)) (b:=Bav l k (Bas Fq)) (m:=V2 s.1 i) (m':=V2 s.1 k) (re:=re) (dr:=dr) (hs i) (hs k) (beq_iff_eq.1 h1)
  refine ⟨?_,by rw [Bba,Bba]⟩
  show smP h (Bb7 (Bb7 s.1 i _) k _)=smP h s.1
  rw [Blo _ k _ (by rw [Bba];exact hk),Blo _ i _ hi,Bdx hi hik]
  have b':h (Bbm (bAt l s.1 i) (bAt l s.1 k) re dr).1.2.1+h (Bbm (bAt l s.1 i) (bAt l s.1 k) re dr).2.1.2.1=h (V2 s.1 i).2.1+h (V2 s.1 k).2.1:=b
  omega
 | false =>
  rw [h1,cond_false] at e
  cases h2:(Bbm (bAt l s.1 i) (bAt l s.1 k) re dr).2.2.1==4 with
  | true=>rw [h2] at e;simp at e
  | false=>rw [h2] at e;simp only [cond_false,Option.some.injEq] at e;subst e;exact ⟨rfl,rfl⟩
theorem Cav {h:TCT cPt→Int} (p:PartH h) {l:List (TCT Fq)} {re dr:Int} {i n:Nat} (hi:i<n):∀ (f k:Nat) (s s':SS),i<k→k+f≤n→s.1.length=n→V.inR l re dr i f k s=some s'→SM s.1→smP h s'.1=smP h s.1∧s'.1.length=n
 | 0,k,s,s',_,_,hl,e,hs=>by rw [V.inR,Option.some.injEq] at e;subst e;exact ⟨rfl,hl⟩
 | f+1,k,s,s',hk,hf,hl,e,hs=>by
  rw [V.inR] at e
  cases h1:Bdp l re dr i k s with
  | none=>rw [h1] at e;simp at e
  | some s1 =>
   rw [h1,Option.bind_some] at e
   obtain ⟨a1,a2⟩:=Cdo p (by omega) (by omega) (by omega) h1 hs
   obtain ⟨b1,b2⟩:=Cav p hi f (k+1) s1 s' (by omega) (by omega) (by omega) e (C2n h1 hs)
   exact ⟨b1.trans a1,b2⟩
theorem C2v {h:TCT cPt→Int} (p:PartH h) {l:List (TCT Fq)} {re dr:Int} {n:Nat} (hn:l.length=n):∀ (f i:Nat) (s s':SS),i+f≤n→s.1.length=n→Bfr l re dr f i s=some s'→SM s.1→smP h s'.1=smP h s.1∧s'.1.length=n
 | 0,i,s,s',_,hl,e,hs=>by rw [Biz,Option.some.injEq] at e;subst e;exact ⟨rfl,hl⟩
 | f+1,i,s,s',hf,hl,e,hs=>by
  rw [Bh5] at e
  cases h1:V.inR l re dr i (l.length-(i+1)) (i+1) s with
  | none=>rw [h1] at e;simp at e
  | some s1 =>
   rw [h1,Option.bind_some] at e
   obtain ⟨a1,a2⟩:=Cav p (n:=n) (by omega) _ _ _ _ (by omega) (by omega) hl h1 hs
   obtain ⟨b1,b2⟩:=C2v p hn f (i+1) s1 s' (by omega) a2 e (C71 _ _ _ _ h1 hs)
   exact ⟨b1.trans a1,b2⟩
theorem C76 {h:TCT cPt→Int} (p:PartH h) {l:List (TCT Fq)} {s:Baj} {re dr:Int} (hl:l.length=s.length) (hs:SM s) (e:(Bbr l s re dr).2.2.1=0):smP h (Bbr l s re dr).1=smP h s∧(Bbr l s re dr).1.length=s.length:=by
 unfold Bbr at e ⊢
 cases h1:Bjh l s != 0 with
 | true=>rw [h1,cond_true] at e;exact absurd e (bne_iff_ne.1 h1)
 | false =>
  rw [h1,cond_false] at e
  simp only [cond_false]
  cases h2:!Bfj re dr with
  | true=>rw [h2] at e;cases e
  | false =>
   rw [h2,cond_false] at e
   simp only [cond_false]
   cases h3:Bfr l re dr l.length 0 (s,[]) with
   | none=>rw [h3] at e;cases e
   | some s'=>exact C2v p hl l.length 0 (s,[]) s' (by omega) rfl h3 hs
end St
end V
end Go.Proofs.YtcfanlgpkefogaaGreat
