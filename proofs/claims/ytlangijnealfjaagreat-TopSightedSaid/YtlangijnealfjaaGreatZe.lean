import Derived.Test.YtlangijnealfjaaGreatVD
import Derived.Test.YtlangijnealfjaaGreatChecked
namespace Go.Proofs.YtlangijnealfjaaGreat
open Go.RowKit
namespace V
abbrev cI:TC:=.i .i64
abbrev W64 (n:Int):Int:=IntKind.i64.wrap n
theorem Ak:Tryz.prog.follows .mixedOrders=true:=by kernel_rfl
theorem Bs {P:Program} {f:Nat} {fn:Func} {lb:Code} {sum:St→Tree (XE×St)} {k:Nat} (hk:keyOf lb=k) (h1:Ai (bodyOf fn)=[lb]) (h2:As P f lb sum) :
  ∀ p ∈ [(f,fn)],∀ d ∈ Ai (bodyOf p.2),∀ g,C4 [((f,k),sum)] p.1 (keyOf d)=some g→As P p.1 d g:=by
 intro p hp d hd g hg
 simp only [List.mem_singleton] at hp
 subst hp
 simp only at hd hg
 rw [h1,List.mem_singleton] at hd
 subst hd
 subst hk
 simp [C4] at hg
 subst hg
 exact h2
theorem C6 {n:Int} (h : -9223372036854775808≤n) (h2:n≤9223372036854775807):W64 n=n:=A8 h h2
theorem Agj {x:Int} (h:inK .i64 x) : -9223372036854775808≤x∧x≤9223372036854775807:=h
theorem I9 {i n:Nat} (h:i<n) (hn:(n:Int)≤Au .i64):W64 ((i:Int)+1)=((i+1:Nat):Int):=by
 simp only [Au] at hn
 rw [show W64 ((i:Int)+1)=(i:Int)+1 from A8 (by omega) (by omega)];rfl
section
variable {L:Lay} {E:XE→Lay} {step:L.T→Tree (L.T⊕A4 E)} {R:A4 E→Prop} {S α:Type}
theorem Abb (l:List α) (d:α) (hn:(l.length:Int)≤Au .i64) (hd:Int→Int→S→L.T) (f:α→Nat→S→S⊕A4 E) (ex:S→A4 E) (Inv:S→Prop) (body:α→Int→S→Tree (L.T⊕A4 E))
  (hstep:∀ (i:Int) (s:S),step (hd l.length i s)=bif decide (i<(l.length:Int)) then bif decide (0≤i∧i<(l.length:Int)) then body (Ar l i.toNat d) i s else .fail else .leaf (.inr (ex s)))
  (hbody:∀ (i:Nat) (s:S) (hi:i<l.length) (Q:L.T⊕A4 E→Prop),Inv s→L.WF (hd l.length i s)→W64 ((i:Int)+1)=((i+1:Nat):Int)→(match f l[i] i s with
   | .inl s'=>Inv s'→Q (.inl (hd l.length ((i+1:Nat):Int) s'))
   | .inr b=>Q (.inr b))→(body l[i] i s).sat Q) (s:S) (hs:Inv s) (hr:R (A1s f ex l 0 s)):∃ n,Aah L E step R n (hd l.length 0 s):=by
 refine ⟨_,Ou l (fun i s=>hd l.length i s) f ex Inv ?_ ?_ l.length 0 s (by omega) hs (by rw [List.drop_zero];exact hr)⟩
 ·intro i s hi Q hI hw hQ
  rw [hstep,decide_eq_true (show (i:Int)<l.length by omega),decide_eq_true (show 0≤(i:Int)∧(i:Int)<l.length by omega),cond_true,cond_true]
  have ht:(i:Int).toNat=i:=by omega
  rw [ht,Cl hi]
  exact hbody i s hi Q hI hw (I9 hi hn) hQ
 ·intro s Q hI hQ
  rw [hstep,decide_eq_false (show ¬ (l.length:Int)<l.length by omega)]
  exact hQ
end
def G1 {β:Type} (n i:Int) (l:List β):Bool:=decide (n=(l.length:Int)∧i=0)
theorem E9 {c:TC} {l:List (TCT c)} (h:WFD (.sl c) l):(l.length:Int)≤Au .i64:=by
 simp only [WFD] at h
 exact h.1
theorem Alv {c:TC} {l:List (TCT c)} (h:WFD (.sl c) l):∀ x ∈ l,WFD c x:=by
 simp only [WFD] at h
 exact h.2
theorem Jb {α B:Type} (p:α→Bool) (r:Nat→B) (e:B):∀ (l:List α) (i:Nat),A1s (fun x i (_:Unit)=>bif p x then .inr (r i) else .inl ()) (fun _=>e) l i ()=bif l.any p then r (i+l.findIdx p) else e
 | [],i=>rfl
 | x::l,i=>by
  simp only [A1s,List.any_cons,List.findIdx_cons]
  cases p x with
  | true=>simp
  | false =>
   simp only [cond_false,Bool.false_or]
   rw [Jb p r e l (i+1)]
   cases l.any p with
   | true=>simp only [cond_true];congr 1;omega
   | false=>rfl
theorem Lc {α:Type} (p:α→Bool) (l:List α):decide ((bif l.any p then (l.findIdx p:Int) else -1)≥0)=l.any p:=by
 cases l.any p with
 | true=>exact decide_eq_true (by simp only [cond_true];omega)
 | false=>rfl
theorem Ji {X:Ctx} (hX:CtxOk X) {f:FuncId} {ks:List SK} {rs:List TC} {ok:SKTs ks→Bool} {F:SKTs ks→TCTs rs} (m:Nat) (T:SKTs ks→Tree (TCTs rs))
  (e:∀ x:SKTs ks,D7 X m (.fn f) (ofKs ks x 0) Bz 0 (Ge X.P rs)=T x) (h:∀ x:SKTs ks,ok x=true→WFKs ks x→(T x).sat (fun y=>y=F x)):A5 X.P f (G8 ks rs ok F) :=
 kq hX m fun x h1 h2=>A5n (e x) (h x h1 h2)
section
variable {L:Lay} {E:XE→Lay} {step:L.T→Tree (L.T⊕A4 E)} {R:A4 E→Prop} {S α:Type}
end
def Ahi (u:Nat) (P:Program) (pu:List (Nat×PureT)) (fns:List (Nat×Func)):Ctx:={ P:=P,u:=u,fns:=fns,loops:=[],pures:=pu,specs:=[] }
theorem Qv {u:Nat} {P:Program} (hm:P.follows .mixedOrders=true) {pu:List (Nat×PureT)} {fns:List (Nat×Func)} (hp:Ca P pu) (hf:∀ p ∈ fns,FnIs P p):CtxOk (Ahi u P pu fns) :=
 ⟨hm,hp,fun p h=>⟨(hf p h).1,(hf p h).2.1,fun _ _ _ _ _ h=>by simp [Ahi,C4] at h⟩,fun p h=>by simp [Ahi] at h⟩
section
variable {L:Lay2} {E:XE→Lay2} {step:L.T→Tree (L.T⊕Bj E)} {R:Bj E→Prop} {S α:Type}
end
end V
end Go.Proofs.YtlangijnealfjaaGreat
namespace Go.Proofs.YtlangijnealfjaaGreat
open Go.RowKit
namespace V
def Tree.run {α:Type}:Tree α→Option α
 | .leaf a=>some a
 | .need _ _=>none
 | .br c t e=>bif c then t.run else e.run
 | .fail=>none
theorem Tree.sat_run {α:Type} {R:α→Prop}:∀ {t:Tree α} {a:α},t.run=some a→R a→t.sat R
 | .leaf b,a,h,hr=>by cases h;exact hr
 | .need _ _,_,h,_=>by cases h
 | .br c t e,a,h,hr=>by
  simp only [Tree.run] at h
  cases c with
  | true=>exact ⟨fun _=>Tree.sat_run h hr,fun h=>nomatch h⟩
  | false=>exact ⟨(fun h=>nomatch h),fun _=>Tree.sat_run h hr⟩
 | .fail,_,h,_=>by cases h
def iter {G E:Type} (st:G→Tree (G⊕E)):Nat→G→Option E
 | 0,_=>none
 | n+1,g=>match (st g).run with
  | some (.inl g')=>iter st n g'
  | some (.inr e)=>some e
  | none=>none
theorem Qw {G E:Type} {st:G→Tree (G⊕E)} {n:Nat} {g g':G} (h:(st g).run=some (.inl g')):iter st (n+1) g=iter st n g':=by
 simp only [iter]
 rw [h]
theorem Ib {G E:Type} {st:G→Tree (G⊕E)} {n:Nat} {g:G} {e:E} (h:(st g).run=some (.inr e)):iter st (n+1) g=some e:=by
 simp only [iter]
 rw [h]
theorem X0 {L:Lay} {E:XE→Lay} {st:L.T→Tree (L.T⊕A4 E)} {R:A4 E→Prop}:∀ (n:Nat) (g:L.T) (e:A4 E),iter st n g=some e→R e→Aah L E st R n g
 | 0,_,_,h,_=>by cases h
 | n+1,g,e,h,hr=>by
  intro _
  simp only [iter] at h
  cases hs:(st g).run with
  | none=>rw [hs] at h;cases h
  | some x =>
   rw [hs] at h
   refine Tree.sat_run hs ?_
   cases x with
   | inl g'=>exact X0 n g' e h hr
   | inr x=>cases h;exact fun _=>hr
mutual
def Auw:(k:SK)→SKT k
 | .d c=>Ap c
 | .o _ _=>[]
 | .p _ _ _ _=>()
 | .r c _=>Ap c
 | .f _ a c=>(dflKs a,dflKs c)
 | .ag ks=>dflKs ks
 | .y _=>()
 | .q _=>()
 | .m _ _=>fun _=>none
 | .i _ _=>0
 | .w _ _ _=>[]
def dflKs:(ks:List SK)→SKTs ks
 | []=>()
 | k::ks=>(Auw k,dflKs ks)
end
def Apt:(bs:List BK)→BTs bs
 | []=>()
 | b::bs=>(dflKs b.2.2,Apt bs)
def Lay.dfl (L:Lay):L.T:=(dflKs L.ks,Apt L.bs)
def A3d (E:XE→Lay):(e:XE)→A4 E→Option (E e).T
 | .normal,⟨.normal,v⟩=>some v
 | .ret,⟨.ret,v⟩=>some v
 | .exit i,⟨.exit j,v⟩=>if h:j=i then some (h ▸ v) else none
 | _,_=>none
theorem Ahj {E:XE→Lay} {e:XE} {y:A4 E} {v:(E e).T} (h:A3d E e y=some v):y=⟨e,v⟩:=by
 unfold A3d at h
 split at h
 ·cases h;rfl
 ·cases h;rfl
 ·rename_i i j v'
  split at h
  ·rename_i hij
   subst hij
   cases h;rfl
  ·cases h
 ·cases h
def isE {E:XE→Lay} (e:XE) (y:Option (A4 E)):Bool:=match y with
 | some y=>(A3d E e y).isSome
 | none=>false
def Dd {E:XE→Lay} (e:XE) (y:Option (A4 E)):(E e).T:=match y with
 | some y=>(A3d E e y).getD (E e).dfl
 | none=>(E e).dfl
theorem Apu {E:XE→Lay} {e:XE} {y:Option (A4 E)} (h:isE e y=true):y=some ⟨e,Dd e y⟩:=by
 unfold isE at h
 split at h
 ·rename_i z
  cases hc:A3d E e z with
  | none=>rw [hc] at h;cases h
  | some v =>
   have:=Ahj hc
   subst this
   simp only [Dd,hc,Option.getD_some]
 ·cases h
def Apv {E:XE→Lay} (y:Option (A4 E)):List XE→Tree (A4 E)
 | []=>.fail
 | e::es=>.br (isE e y) (.leaf ⟨e,Dd e y⟩) (Apv y es)
theorem A3e {E:XE→Lay} {y:Option (A4 E)} {R:A4 E→Prop}:∀ {es:List XE},(Apv y es).sat R→∃ e,y=some e∧R e
 | [],h=>h.elim
 | e::es,h=>by
  obtain ⟨h1,h2⟩:=h
  cases hi:isE e y with
  | true=>exact ⟨_,Apu hi,h1 hi⟩
  | false=>exact A3e (h2 hi)
def Da {L:Lay} {E:XE→Lay} (es:List XE) (st:L.T→Tree (L.T⊕A4 E)) (fuel:L.T→Nat) (g:L.T):Tree (A4 E):=Apv (iter st (fuel g) g) es
theorem Us {X:Ctx} (hX:CtxOk X) (m:Nat) (fn:FuncId) (Lt:Je) {c:Code} (hL:∀ d ∈ Ai c,∀ f,Lt (keyOf d)=some f→As X.P fn d f) (L:Lay) (E:XE→Lay) (hE:∀ e,L.nx≤(E e).nx) (es:List XE) (st:L.T→Tree (L.T⊕A4 E)) (fuel:L.T→Nat)
  (hstep:∀ g,evC X.P (D7 X m) X.pures fn X.u Lt c (L.of g) (Fh L E)=st g):As X.P fn c (Aq L E (Da es st fuel)):=by
 refine El hX m fn Lt hL L E hE (Da es st fuel) st hstep ?_
 intro g R _ hf
 obtain ⟨e,he,hr⟩:=A3e hf
 exact ⟨_,X0 _ g e he hr⟩
theorem C0 {X:Ctx} (hX:CtxOk X) (m:Nat) (fn:FuncId) {c:Code} (L:Lay) (E:XE→Lay) (hE:∀ e,L.nx≤(E e).nx) (es:List XE) (st:L.T→Tree (L.T⊕A4 E)) (fuel:L.T→Nat)
  (hstep:∀ g,evC X.P (D7 X m) X.pures fn X.u (fun _=>none) c (L.of g) (Fh L E)=st g):As X.P fn c (Aq L E (Da es st fuel)) :=
 Us hX m fn (fun _=>none) (fun _ _ f h=>by simp at h) L E hE es st fuel hstep
section
variable {G E S α:Type} {st:G→Tree (G⊕E)}
def Mh (f:Nat→α→S→Option (S⊕E)) (ex:S→Option E):Nat→List α→S→Option E
 | _,[],s=>ex s
 | i,x::l,s=>match f i x s with
  | some (.inl s')=>Mh f ex (i+1) l s'
  | some (.inr e)=>some e
  | none=>none
theorem De (l:List α) (hd:Nat→S→G) (f:Nat→α→S→Option (S⊕E)) (ex:S→Option E) (Inv:Nat→S→Prop)
  (h1:∀ (i:Nat) (s:S) (hi:i<l.length),Inv i s→match f i l[i] s with
   | some (.inl s')=>(st (hd i s)).run=some (.inl (hd (i+1) s'))∧Inv (i+1) s'
   | some (.inr e)=>(st (hd i s)).run=some (.inr e)
   | none=>True)
  (h2:∀ s e,Inv l.length s→ex s=some e→(st (hd l.length s)).run=some (.inr e)) :
  ∀ (k i:Nat) (s:S) (e:E) (n:Nat),i+k=l.length→k+1≤n→Inv i s→Mh f ex i (l.drop i) s=some e→iter st n (hd i s)=some e
 | 0,i,s,e,n,hk,hn,hi,hr=>by
  have e1:i=l.length:=by omega
  subst e1
  rw [List.drop_length] at hr
  cases n with
  | zero=>omega
  | succ n=>exact Ib (h2 s e hi hr)
 | k+1,i,s,e,n,hk,hn,hi,hr=>by
  have hlt:i<l.length:=by omega
  rw [List.drop_eq_getElem_cons hlt] at hr
  have h:=h1 i s hlt hi
  simp only [Mh] at hr
  cases n with
  | zero=>omega
  | succ n =>
   cases hf:f i l[i] s with
   | none=>rw [hf] at hr;cases hr
   | some x =>
    rw [hf] at hr h
    cases x with
    | inl s' =>
     rw [Qw h.1]
     exact De l hd f ex Inv h1 h2 k (i+1) s' e n (by omega) (by omega) h.2 hr
    | inr e' =>
     cases hr
     exact Ib h
end
theorem Nx {α E:Type} (p:α→Bool) (r:Nat→E) (d:E):∀ (l:List α) (i:Nat),Mh (fun i x (_:Unit)=>bif p x then some (.inr (r i)) else some (.inl ())) (fun _=>some d) i l ()=some (bif l.any p then r (i+l.findIdx p) else d)
 | [],i=>rfl
 | x::l,i=>by
  simp only [Mh,List.any_cons,List.findIdx_cons]
  cases p x with
  | true=>simp
  | false =>
   simp only [cond_false,Bool.false_or]
   rw [Nx p r d l (i+1)]
   cases l.any p with
   | true=>simp only [cond_true];congr 2;omega
   | false=>rfl
end V
end Go.Proofs.YtlangijnealfjaaGreat
namespace Go.Proofs.YtlangijnealfjaaGreat
open Go.RowKit
namespace V
theorem Asp {X:Ctx} (hX:CtxOk X) {f:FuncId} {cs rs:List TC} {ok:TCTs cs→Bool} {F:TCTs cs→TCTs rs} (m:Nat) (T T':TCTs cs→Tree (TCTs rs))
  (hT:∀ x:TCTs cs,D7 X m (.fn f) (D5 cs x) Bz 0 (Ge X.P rs)=T x) (h1:∀ x,ok x=true→T x=T' x) (h2:∀ x,ok x=true→WFDs cs x→(T' x).sat (fun y=>y=F x)):A5 X.P f (B9 cs rs ok F) :=
 Bb hX m T hT fun x h hw=>by rw [h1 x h];exact h2 x h hw
end V
end Go.Proofs.YtlangijnealfjaaGreat
namespace Go.Proofs.YtlangijnealfjaaGreat
open Go.RowKit
namespace V
end V
end Go.Proofs.YtlangijnealfjaaGreat
namespace Go.Proofs.YtlangijnealfjaaGreat
open Go.RowKit Go.ChangeShapes Go.WideShapes Go.ChangeAt
namespace V
theorem RepL.cut {σ:Env}:∀ {a b:List AV} {vs:List Value},RepL σ (a++b) vs→∃ u v,vs=u++v∧RepL σ a u∧RepL σ b v
 | [],b,vs,h=>⟨[],vs,rfl,by simp only [RepL],h⟩
 | x::a,b,vs,h=>by
  simp only [List.cons_append,RepL] at h
  obtain ⟨v,us,rfl,h1,h2⟩:=h
  obtain ⟨p,q,rfl,h3,h4⟩:=RepL.cut h2
  exact ⟨v::p,q,rfl,by simp only [RepL];exact ⟨v,p,rfl,h1,h3⟩,h4⟩
section
variable {H:Type} {enc:TypeId×Value→H}
end
end V
end Go.Proofs.YtlangijnealfjaaGreat
