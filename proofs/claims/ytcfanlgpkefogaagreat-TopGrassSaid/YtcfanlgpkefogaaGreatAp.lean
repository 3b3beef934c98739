import Derived.Test.YtcfanlgpkefogaaGreatAo
import Derived.Test.YtcfanlgpkefogaaGreatNd
namespace Go.Proofs.YtcfanlgpkefogaaGreat
open Go.RowKit
namespace V
namespace St
def Ms (l:List (TCT Fq)) (M:Int):Prop:=∀ i:Nat,i<l.length→(Bav l i (Bas Fq)).1=M
theorem Cgo {l:TCT Bam} {j:Nat} {T st:Int} {s s':S2} (e:lvE l T st j s=.inl s'):s'.1.length=s.1.length:=by
 unfold lvE at e
 cases e1:Bav s.2.1 j (Bas .b) with
 | true=>rw [e1] at e;cases e;rfl
 | false =>
  rw [e1] at e
  cases e2:onB l (V2 s.1 j).1 with
  | true=>rw [e2] at e;cases e;rfl
  | false=>rw [e2] at e;cases e;exact Bba _ _ _
theorem Cgp {bl:List (TCT Fq)} {os:List Bool} {i:Nat} {ms ms':Baj} (e:stE bl os i ms=.inl ms'):ms'.length=ms.length:=by
 unfold stE at e
 cases h1:!Bbo ms os i with
 | true=>rw [h1] at e;cases e;rfl
 | false =>
  rw [h1] at e
  cases h3:(Bhr (Bc1 bl i) (V2 ms i)).2.1 != 0 with
  | true=>rw [h3] at e;cases e
  | false=>rw [h3] at e;cases e;exact Bba _ _ _
theorem Cgq {bl:List (TCT Fq)} {l:TCT Bam} {n:Nat} {T st:Int} {s s':S2} (e:mvF bl l T st n s=.inl s'):s'.1.length=s.1.length:=by
 unfold mvF at e
 cases e1:Bat (stE bl s.2.1) 0 n s.1 with
 | inr x=>rw [e1] at e;cases e
 | inl ms =>
  rw [e1] at e
  have h1:ms.length=s.1.length:=Bax (n:=n) (Inv:=fun _ (x:Baj)=>x.length=s.1.length) (fun j x x' _ hx h3=>(Cgp h3).trans hx) n 0 s.1 ms (by omega) rfl e1
  have h2:Bat (lvE l T st) 0 n (ms,s.2.1,s.2.2)=.inl s':=e
  exact Bax (n:=n) (Inv:=fun _ (x:S2)=>x.1.length=s.1.length) (fun j x x' _ hx h3=>(Cgo h3).trans hx) n 0 (ms,s.2.1,s.2.2) s' (by omega) h1 h2
theorem Cgr {b:TCT Fq} {c:TCT Bbv} {ps:Dss} {os:List Bool} {w fl t st:Int} {j k:Nat} {s:MK}:(∀ s',bpE b c ps os w fl t st j k s=.inl s'→s'.1.length=s.1.length)∧(∀ s',bpE b c ps os w fl t st j k s=.inr (.inl s')→s'=s):=by
 unfold bpE
 cases e1:!Bbo s.1 os j||Bck w fl j with
 | true=>exact ⟨(fun s' h=>by cases h),(fun s' h=>by cases h;rfl)⟩
 | false =>
  simp only [cond_false]
  cases e2:(bmV b (V2 s.1 j) (Bdh ps k) c).2.1==0 with
  | true=>exact ⟨(fun s' h=>by cases h;exact Bba _ _ _),(fun s' h=>by cases h)⟩
  | false =>
   simp only [cond_false]
   cases e3:(bmV b (V2 s.1 j) (Bdh ps k) c).2.1==4 with
   | true=>exact ⟨(fun s' h=>by cases h),(fun s' h=>by cases h)⟩
   | false=>exact ⟨(fun s' h=>by cases h;rfl),(fun s' h=>by cases h)⟩
theorem C0r {b:TCT Fq} {c:TCT Bbv} {ps:Dss} {os:List Bool} {w fl t st:Int} {j:Nat}:∀ (m k:Nat) (s s':MK),Bt7 (Bat (bpE b c ps os w fl t st j) k m s)=.inl s'→s'.1.length=s.1.length
 | 0,k,s,s',e=>by cases e;rfl
 | m+1,k,s,s',e=>by
  unfold Bat at e
  have a:=Cgr (b:=b) (c:=c) (ps:=ps) (os:=os) (w:=w) (fl:=fl) (t:=t) (st:=st) (j:=j) (k:=k) (s:=s)
  cases hf:bpE b c ps os w fl t st j k s with
  | inl t1=>rw [hf] at e;exact (C0r m (k+1) t1 s' e).trans (a.1 t1 hf)
  | inr y =>
   rw [hf] at e
   cases y with
   | inl t1 =>
    have e':=a.2 t1 hf
    subst e'
    cases e
    rfl
   | inr x=>cases e
theorem C0s {bl:List (TCT Fq)} {c:TCT Bbv} {ps:Dss} {n:Nat} {w fl t st:Int} {s:S2} {s':MK} (e:buF bl c ps t st w fl n s=.inl s'):s'.1.length=s.1.length:=by
 unfold buF at e
 exact Bax (n:=n) (Inv:=fun _ (x:MK)=>x.1.length=s.1.length) (fun j x x' _ hx h3=>(C0r ps.length 0 x x' h3).trans hx) n 0 (s.1,s.2.2) s' (by omega) rfl e
end St
end V
end Go.Proofs.YtcfanlgpkefogaaGreat
