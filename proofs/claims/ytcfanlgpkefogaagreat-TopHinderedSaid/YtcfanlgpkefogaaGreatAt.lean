import Derived.Test.YtcfanlgpkefogaaGreatAp
namespace Go.Proofs.YtcfanlgpkefogaaGreat
open Go.RowKit
namespace V
namespace St
def frS (b:TCT No) (o:Bool) (m:TCT Bat):TCT Bat:=bif !o&&Bil m then (Bja b m).1 else m
def frK (b:TCT No) (o:Bool) (m:TCT Bat):Prop:=(!o&&Bil m)=true→(Bja b m).2.1=0
structure FrI (bl:List (TCT No)) (os:List Bool) (ms:Bal) (i:Nat) (x:Bal):Prop where
 l:x.length=ms.length
 a:∀ j:Nat,j<i→Bag x j=frS (Bch bl j) (Bbs os j) (Bag ms j)∧frK (Bch bl j) (Bbs os j) (Bag ms j)
 b:∀ j:Nat,i≤j→Bag x j=Bag ms j
theorem C0c {ms:Bal} {os:List Bool} {i:Nat}:Bbu ms os i=(!Bbs os i&&Bil (Bag ms i)):=rfl
theorem Cl5 {bl:List (TCT No)} {os:List Bool} {n:Nat} {ms ms':Bal} (hn:ms.length=n) (h:Bap (stE bl os) 0 n ms=.inl ms'):FrI bl os ms n ms' :=
 Bay (n:=n) (Inv:=fun i (x:Bal)=>FrI bl os ms i x) (fun i x x' hi q e=>by
  unfold stE at e
  have ql:=q.l
  have eb:=q.b i (Nat.le_refl _)
  rw [C0c,eb] at e
  cases h1:(!Bbs os i&&Bil (Bag ms i)) with
  | false =>
   rw [h1] at e
   cases e
   refine ⟨q.l,fun j hj=>?_,fun j hj=>q.b j (by omega)⟩
   by_cases e1:j=i
   ·subst e1
    refine ⟨?_,fun h2=>by rw [h1] at h2;cases h2⟩
    unfold frS
    rw [h1];exact eb
   ·exact q.a j (by omega)
  | true =>
   rw [h1] at e
   simp only [Bool.not_true,cond_false] at e
   cases h3:(Bja (Bch bl i) (Bag ms i)).2.1 != 0 with
   | true=>rw [h3] at e;cases e
   | false =>
    rw [h3] at e
    cases e
    refine ⟨(Bbd _ _ _).trans q.l,fun j hj=>?_,fun j hj=>?_⟩
    ·by_cases e1:j=i
     ·subst e1
      refine ⟨?_,fun _=>bne_eq_false_iff_eq.1 h3⟩
      unfold frS
      rw [h1,Ber (by omega) rfl];rfl
     ·rw [Bd4 e1];exact q.a j (by omega)
    ·rw [Bd4 (by omega)];exact q.b j (by omega)) n 0 ms ms' (by omega) ⟨rfl,fun j hj=>absurd hj (Nat.not_lt_zero j),fun _ _=>rfl⟩ h
def slS (l:TCT Ban) (o:Bool) (f:Bool) (m:TCT Bat):TCT Bat:=bif (!o&&Bil m)&&!f then C4p l m else m
def slK (l:TCT Ban) (o:Bool) (f:Bool) (m:TCT Bat):Prop:=((!o&&Bil m)&&!f)=true→Be9 l m.1=0∧(Bi9 l m).2.1=0
structure SlI (l:TCT Ban) (os:List Bool) (w fl:Int) (ms:Bal) (i:Nat) (x:Bal):Prop where
 ll:x.length=ms.length
 a:∀ j:Nat,j<i→Bag x j=slS l (Bbs os j) (Bdb w fl j) (Bag ms j)∧slK l (Bbs os j) (Bdb w fl j) (Bag ms j)
 b:∀ j:Nat,i≤j→Bag x j=Bag ms j
theorem D3w {a b:Bool}:(!a||b)=!(a&&!b):=by cases a <;> cases b <;> rfl
theorem Cl6 {l:TCT Ban} {os:List Bool} {w fl:Int} {n:Nat} {ms ms':Bal} (hn:ms.length=n) (h:Bap (slE l os w fl) 0 n ms=.inl ms'):SlI l os w fl ms n ms' :=
 Bay (n:=n) (Inv:=fun i (x:Bal)=>SlI l os w fl ms i x) (fun i x x' hi q e=>by
  unfold slE at e
  have ql:=q.ll
  have eb:=q.b i (Nat.le_refl _)
  rw [C0c,eb,D3w] at e
  cases h1:((!Bbs os i&&Bil (Bag ms i))&&!Bdb w fl i) with
  | false =>
   rw [h1] at e
   cases e
   refine ⟨q.ll,fun j hj=>?_,fun j hj=>q.b j (by omega)⟩
   by_cases e1:j=i
   ·subst e1
    refine ⟨?_,fun h2=>by rw [h1] at h2;cases h2⟩
    unfold slS
    rw [h1];exact eb
   ·exact q.a j (by omega)
  | true =>
   rw [h1] at e
   simp only [Bool.not_true,cond_false] at e
   cases h2:Be9 l (Bag ms i).1 != 0 with
   | true=>rw [h2] at e;cases e
   | false =>
    rw [h2] at e
    cases h3:(Bi9 l (Bag ms i)).2.1 != 0 with
    | true=>rw [h3] at e;cases e
    | false =>
     rw [h3] at e
     cases e
     refine ⟨(Bbd _ _ _).trans q.ll,fun j hj=>?_,fun j hj=>?_⟩
     ·by_cases e1:j=i
      ·subst e1
       refine ⟨?_,fun _=>⟨bne_eq_false_iff_eq.1 h2,bne_eq_false_iff_eq.1 h3⟩⟩
       unfold slS
       rw [h1,Ber (by omega) rfl];rfl
      ·rw [Bd4 e1];exact q.a j (by omega)
     ·rw [Bd4 (by omega)];exact q.b j (by omega)) n 0 ms ms' (by omega) ⟨rfl,fun j hj=>absurd hj (Nat.not_lt_zero j),fun _ _=>rfl⟩ h
theorem D3x {b:TCT No} {m:TCT Bat} (h:(Bja b m).2.1=0):(Bja b m).1=mot (stB (bm b m))∧fpt (sX (bm b m)) (sY (bm b m))=true:=by
 have h':(Bhe (bm b m)).2.1=0:=h
 show (Bhe (bm b m)).1=_∧_
 unfold Bhe at h' ⊢
 cases h1:(bm b m).ok with
 | false=>rw [h1] at h';cases h'
 | true =>
  rw [h1] at h'
  simp only [Bool.not_true,cond_false] at h' ⊢
  cases h2:fpt (sX (bm b m)) (sY (bm b m)) with
  | false=>rw [h2] at h';cases h'
  | true=>exact ⟨rfl,rfl⟩
end St
end V
end Go.Proofs.YtcfanlgpkefogaaGreat
