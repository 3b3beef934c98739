import Derived.Test.YtcfanlgpkefogaaGreatEr
namespace Go.Proofs.YtcfanlgpkefogaaGreat
open Go.RowKit
namespace V
namespace St
def smP (h:TCT cPt→Int):Bal→Int
 | []=>0
 | m::l=>h m.2.1+smP h l
def ptX (p:TCT cPt):Int:=p.1
def ptY (p:TCT cPt):Int:=p.2.1
theorem Bmn {h:TCT cPt→Int}:∀ (l:Bal) (i:Nat) (x:TCT Bat),i<l.length→smP h (Bba l i x)=smP h l-h (Bag l i).2.1+h x.2.1
 | [],i,_,hi=>absurd hi (Nat.not_lt_zero i)
 | m::l,0,x,_=>by
  show h x.2.1+smP h l=h m.2.1+smP h l-h m.2.1+h x.2.1
  omega
 | m::l,i+1,x,hi=>by
  have ih:=Bmn (h:=h) l i x (by simpa using hi)
  show h m.2.1+smP h (Bba l i x)=h m.2.1+smP h l-h (Bag l i).2.1+h x.2.1
  omega
theorem Bp9 {h:TCT cPt→Int} {l:Bal} {i:Nat} {x:TCT Bat} (e:x.2.1=(Bag l i).2.1):smP h (Bba l i x)=smP h l:=by
 by_cases hi:i<l.length
 ·rw [Bmn l i x hi,e];omega
 ·rw [Bbl,List.set_eq_of_length_le (Nat.le_of_not_lt hi)]
theorem Cq9 {n:Int}:∃ q:Int,W64 n=n-18446744073709551616*q:=by
 unfold W64 IntKind.wrap
 simp [IntKind.bits,IntKind.signed]
 split
 ·exact ⟨n / 18446744073709551616+1,by omega⟩
 ·exact ⟨n / 18446744073709551616,by omega⟩
theorem D2k {a b k:Int} (ha : -16777216≤a∧a≤16777216) (hb : -16777216≤b∧b≤16777216) (h1 : -16777216≤W64 (a-k)∧W64 (a-k)≤16777216) (h2 : -16777216≤W64 (b+k)∧W64 (b+k)≤16777216):W64 (a-k)+W64 (b+k)=a+b:=by
 obtain ⟨p,e1⟩:=Cq9 (n:=a-k)
 obtain ⟨q,e2⟩:=Cq9 (n:=b+k)
 omega
theorem Cy8 {a b:Bm} {k:Bky} (ha:Bb3 a.mx a.my=true) (hb:Bb3 b.mx b.my=true) (h:(Bf9 a b k).2.2.1=0):ptX (Bf9 a b k).1.2.1+ptX (Bf9 a b k).2.1.2.1=a.mx+b.mx∧ptY (Bf9 a b k).1.2.1+ptY (Bf9 a b k).2.1.2.1=a.my+b.my:=by
 unfold Bf9 at h ⊢
 cases h1:k.2.1 != 0 with
 | true=>rw [h1] at h;exact absurd h (bne_iff_ne.1 h1)
 | false =>
  rw [h1] at h
  simp only [cond_false] at h ⊢
  cases h2:Bb3 (W64 (a.mx-k.1.1)) (W64 (a.my-k.1.2.1)) with
  | false=>rw [h2] at h;cases h
  | true =>
   rw [h2] at h
   simp only [Bool.not_true,cond_false] at h ⊢
   cases h3:Bb3 (W64 (b.mx+k.1.1)) (W64 (b.my+k.1.2.1)) with
   | false=>rw [h3] at h;cases h
   | true =>
    have a1:=Be2 ha
    have b1:=Be2 hb
    have a2:=Be2 h2
    have b2:=Be2 h3
    exact ⟨D2k a1.1 b1.1 a2.1 b2.1,D2k a1.2 b1.2 a2.2 b2.2⟩
inductive PartH:(TCT cPt→Int)→Prop where
 | x:PartH ptX
 | y:PartH ptY
theorem PartH.bnc {h:TCT cPt→Int} (p:PartH h) {a b:TCT No} {m m':TCT Bat} {re dr:Int} (ha:smB m=true) (hb:smB m'=true) (e:(Bbi (bm a m) (bm b m') re dr).2.2.1=0):h (Bbi (bm a m) (bm b m') re dr).1.2.1+h (Bbi (bm a m) (bm b m') re dr).2.1.2.1=h m.2.1+h m'.2.1:=by
 have r:=Cy8 (a:=bm a m) (b:=bm b m') (k:=Bln (bm a m) (bm b m') re dr) ha hb e
 cases p with
 | x=>exact r.1
 | y=>exact r.2
theorem Chq {h:TCT cPt→Int} (p:PartH h) {l:List (TCT No)} {re dr:Int} {i k:Nat} {s s':SS} (hik:¬ k=i) (hi:i<s.1.length) (hk:k<s.1.length) (e:Bds l re dr i k s=some s') (hs:SM s.1):smP h s'.1=smP h s.1∧s'.1.length=s.1.length:=by
 unfold Bds at e
 cases h1:(Bbi (bAt l s.1 i) (bAt l s.1 k) re dr).2.2.1==0 with
 | true =>
  rw [h1] at e
  simp only [cond_true,Option.some.injEq] at e
  subst e
  have b:=p.bnc (a:=Bam l i (Baj No)) (b:=Bam l k (Baj No)) (m:=Bag s.1 i) (m':=Bag s.1 k) (re:=re) (dr:=dr) (hs i) (hs k) (beq_iff_eq.1 h1)
  refine ⟨?_,by rw [Bbd,Bbd]⟩
  show smP h (Bba (Bba s.1 i _) k _)=smP h s.1
  rw [Bmn _ k _ (by rw [Bbd];exact hk),Bmn _ i _ hi,Bed hi hik]
  have b':h (Bbi (bAt l s.1 i) (bAt l s.1 k) re dr).1.2.1+h (Bbi (bAt l s.1 i) (bAt l s.1 k) re dr).2.1.2.1=h (Bag s.1 i).2.1+h (Bag s.1 k).2.1:=b
  omega
 | false =>
  rw [h1,cond_false] at e
  cases h2:(Bbi (bAt l s.1 i) (bAt l s.1 k) re dr).2.2.1==4 with
  | true=>rw [h2] at e;simp at e
  | false=>rw [h2] at e;simp only [cond_false,Option.some.injEq] at e;subst e;exact ⟨rfl,rfl⟩
theorem Ces {h:TCT cPt→Int} (p:PartH h) {l:List (TCT No)} {re dr:Int} {i n:Nat} (hi:i<n):∀ (f k:Nat) (s s':SS),i<k→k+f≤n→s.1.length=n→V.inR l re dr i f k s=some s'→SM s.1→smP h s'.1=smP h s.1∧s'.1.length=n
 | 0,k,s,s',_,_,hl,e,hs=>by rw [V.inR,Option.some.injEq] at e;subst e;exact ⟨rfl,hl⟩
 | f+1,k,s,s',hk,hf,hl,e,hs=>by
  rw [V.inR] at e
  cases h1:Bds l re dr i k s with
  | none=>rw [h1] at e;simp at e
  | some s1 =>
   rw [h1,Option.bind_some] at e
   obtain ⟨a1,a2⟩:=Chq p (by omega) (by omega) (by omega) h1 hs
   obtain ⟨b1,b2⟩:=Ces p hi f (k+1) s1 s' (by omega) (by omega) (by omega) e (C5a h1 hs)
   exact ⟨b1.trans a1,b2⟩
theorem C5h {h:TCT cPt→Int} (p:PartH h) {l:List (TCT No)} {re dr:Int} {n:Nat} (hn:l.length=n):∀ (f i:Nat) (s s':SS),i+f≤n→s.1.length=n→Bfk l re dr f i s=some s'→SM s.1→smP h s'.1=smP h s.1∧s'.1.length=n
 | 0,i,s,s',_,hl,e,hs=>by rw [Bjp,Option.some.injEq] at e;subst e;exact ⟨rfl,hl⟩
 | f+1,i,s,s',hf,hl,e,hs=>by
  rw [Bhu] at e
  cases h1:V.inR l re dr i (l.length-(i+1)) (i+1) s with
  | none=>rw [h1] at e;simp at e
  | some s1 =>
   rw [h1,Option.bind_some] at e
   obtain ⟨a1,a2⟩:=Ces p (n:=n) (by omega) _ _ _ _ (by omega) (by omega) hl h1 hs
   obtain ⟨b1,b2⟩:=C5h p hn f (i+1) s1 s' (by omega) a2 e (Ca3 _ _ _ _ h1 hs)
   exact ⟨b1.trans a1,b2⟩
theorem Ca9 {h:TCT cPt→Int} (p:PartH h) {l:List (TCT No)} {s:Bal} {re dr:Int} (hl:l.length=s.length) (hs:SM s) (e:(Bbn l s re dr).2.2.1=0):smP h (Bbn l s re dr).1=smP h s∧(Bbn l s re dr).1.length=s.length:=by
 unfold Bbn at e ⊢
 cases h1:Bjd l s != 0 with
 | true=>rw [h1,cond_true] at e;exact absurd e (bne_iff_ne.1 h1)
 | false =>
  rw [h1,cond_false] at e
  simp only [cond_false]
  cases h2:!Be3 re dr with
  | true=>rw [h2] at e;cases e
  | false =>
   rw [h2,cond_false] at e
   simp only [cond_false]
   cases h3:Bfk l re dr l.length 0 (s,[]) with
   | none=>rw [h3] at e;cases e
   | some s'=>exact C5h p hl l.length 0 (s,[]) s' (by omega) rfl h3 hs
end St
end V
end Go.Proofs.YtcfanlgpkefogaaGreat
