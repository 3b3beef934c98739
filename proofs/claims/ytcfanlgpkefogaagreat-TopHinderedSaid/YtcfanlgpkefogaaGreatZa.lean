import Derived.Test.YtcfanlgpkefogaaGreatVD
import Derived.Test.YtcfanlgpkefogaaGreatChecked
namespace Go.Proofs.YtcfanlgpkefogaaGreat
open Go.RowKit
namespace V
abbrev cI:TC:=.i .i64
abbrev W64 (n:Int):Int:=IntKind.i64.wrap n
theorem Bar:Tryz.prog.follows .mixedOrders=true:=by kernel_rfl
theorem Bc0 {P:Program} {f:Nat} {fn:Func} {lb:Code} {sum:St→Tree (XE×St)} {k:Nat} (hk:keyOf lb=k) (h1:Bak (bodyOf fn)=[lb]) (h2:Baw P f lb sum) :
  ∀ p ∈ [(f,fn)],∀ d ∈ Bak (bodyOf p.2),∀ g,Bc4 [((f,k),sum)] p.1 (keyOf d)=some g→Baw P p.1 d g:=by
 intro p hp d hd g hg
 simp only [List.mem_singleton] at hp
 subst hp
 simp only at hd hg
 rw [h1,List.mem_singleton] at hd
 subst hd
 subst hk
 simp [Bc4] at hg
 subst hg
 exact h2
theorem Bb4 {n:Int} (h : -9223372036854775808≤n) (h2:n≤9223372036854775807):W64 n=n:=Fp h h2
theorem Bd9 {i n:Nat} (h:i<n) (hn:(n:Int)≤Bb2 .i64):W64 ((i:Int)+1)=((i+1:Nat):Int):=by
 simp only [Bb2] at hn
 rw [show W64 ((i:Int)+1)=(i:Int)+1 from Fp (by omega) (by omega)];rfl
section
variable {L:Lay} {E:XE→Lay} {step:L.T→Tree (L.T⊕Fq E)} {R:Fq E→Prop} {S α:Type}
theorem Ctg (l:List α) (d:α) (hn:(l.length:Int)≤Bb2 .i64) (hd:Int→Int→S→L.T) (f:α→Nat→S→S⊕Fq E) (ex:S→Fq E) (Inv:S→Prop) (body:α→Int→S→Tree (L.T⊕Fq E))
  (hstep:∀ (i:Int) (s:S),step (hd l.length i s)=bif decide (i<(l.length:Int)) then bif decide (0≤i∧i<(l.length:Int)) then body (Bam l i.toNat d) i s else .fail else .leaf (.inr (ex s)))
  (hbody:∀ (i:Nat) (s:S) (hi:i<l.length) (Q:L.T⊕Fq E→Prop),Inv s→L.WF (hd l.length i s)→W64 ((i:Int)+1)=((i+1:Nat):Int)→(match f l[i] i s with
   | .inl s'=>Inv s'→Q (.inl (hd l.length ((i+1:Nat):Int) s'))
   | .inr b=>Q (.inr b))→(body l[i] i s).sat Q) (s:S) (hs:Inv s) (hr:R (C74 f ex l 0 s)):∃ n,Cbp L E step R n (hd l.length 0 s):=by
 refine ⟨_,Bre l (fun i s=>hd l.length i s) f ex Inv ?_ ?_ l.length 0 s (by omega) hs (by rw [List.drop_zero];exact hr)⟩
 ·intro i s hi Q hI hw hQ
  rw [hstep,decide_eq_true (show (i:Int)<l.length by omega),decide_eq_true (show 0≤(i:Int)∧(i:Int)<l.length by omega),cond_true,cond_true]
  have ht:(i:Int).toNat=i:=by omega
  rw [ht,Bby hi]
  exact hbody i s hi Q hI hw (Bd9 hi hn) hQ
 ·intro s Q hI hQ
  rw [hstep,decide_eq_false (show ¬ (l.length:Int)<l.length by omega)]
  exact hQ
end
def Bjj {β:Type} (n i:Int) (l:List β):Bool:=decide (n=(l.length:Int)∧i=0)
theorem Bez {c:TC} {l:List (TCT c)} (h:WFD (.sl c) l):(l.length:Int)≤Bb2 .i64:=by
 simp only [WFD] at h
 exact h.1
theorem D0y {c:TC} {l:List (TCT c)} (h:WFD (.sl c) l):∀ x ∈ l,WFD c x:=by
 simp only [WFD] at h
 exact h.2
theorem Bn2 {α B:Type} (p:α→Bool) (r:Nat→B) (e:B):∀ (l:List α) (i:Nat),C74 (fun x i (_:Unit)=>bif p x then .inr (r i) else .inl ()) (fun _=>e) l i ()=bif l.any p then r (i+l.findIdx p) else e
 | [],i=>rfl
 | x::l,i=>by
  simp only [C74,List.any_cons,List.findIdx_cons]
  cases p x with
  | true=>simp
  | false =>
   simp only [cond_false,Bool.false_or]
   rw [Bn2 p r e l (i+1)]
   cases l.any p with
   | true=>simp only [cond_true];congr 1;omega
   | false=>rfl
theorem Bq8 {α:Type} (p:α→Bool) (l:List α):decide ((bif l.any p then (l.findIdx p:Int) else -1)≥0)=l.any p:=by
 cases l.any p with
 | true=>exact decide_eq_true (by simp only [cond_true];omega)
 | false=>rfl
theorem Bnm {X:Ctx} (hX:CtxOk X) {f:FuncId} {ks:List SK} {rs:List TC} {ok:SKTs ks→Bool} {F:SKTs ks→TCTs rs} (m:Nat) (T:SKTs ks→Tree (TCTs rs))
  (e:∀ x:SKTs ks,Bcr X m (.fn f) (ofKs ks x 0) Bbz 0 (Bh7 X.P rs)=T x) (h:∀ x:SKTs ks,ok x=true→WFKs ks x→(T x).sat (fun y=>y=F x)):Bai X.P f (Bj3 ks rs ok F) :=
 kq hX m fun x h1 h2=>Cbw (e x) (h x h1 h2)
section
variable {L:Lay} {E:XE→Lay} {step:L.T→Tree (L.T⊕Fq E)} {R:Fq E→Prop} {S α:Type}
end
def Cjl (u:Nat) (P:Program) (pu:List (Nat×PureT)) (fns:List (Nat×Func)):Ctx:={ P:=P,u:=u,fns:=fns,loops:=[],pures:=pu,specs:=[] }
theorem Bn3 {u:Nat} {P:Program} (hm:P.follows .mixedOrders=true) {pu:List (Nat×PureT)} {fns:List (Nat×Func)} (hp:Bcd P pu) (hf:∀ p ∈ fns,FnIs P p):CtxOk (Cjl u P pu fns) :=
 ⟨hm,hp,fun p h=>⟨(hf p h).1,(hf p h).2.1,fun _ _ _ _ _ h=>by simp [Cjl,Bc4] at h⟩,fun p h=>by simp [Cjl] at h⟩
section
variable {L:Lay2} {E:XE→Lay2} {step:L.T→Tree (L.T⊕Bdx E)} {R:Bdx E→Prop} {S α:Type}
end
end V
end Go.Proofs.YtcfanlgpkefogaaGreat
