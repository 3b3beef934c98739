import Derived.Test.YtlangijnealfjaaGreatVD
import Derived.Test.YtlangijnealfjaaGreatChecked
namespace Go.Proofs.YtlangijnealfjaaGreat
open Go.RowKit
namespace V
abbrev cI:TC:=.i .i64
abbrev W64 (n:Int):Int:=IntKind.i64.wrap n
theorem Am:Tryz.prog.follows .mixedOrders=true:=by kernel_rfl
theorem C3 {P:Program} {f:Nat} {fn:Func} {lb:Code} {sum:St→Tree (XE×St)} {k:Nat} (hk:keyOf lb=k) (h1:Ah (bodyOf fn)=[lb]) (h2:Av P f lb sum) :
  ∀ p ∈ [(f,fn)],∀ d ∈ Ah (bodyOf p.2),∀ g,C4 [((f,k),sum)] p.1 (keyOf d)=some g→Av P p.1 d g:=by
 intro p hp d hd g hg
 simp only [List.mem_singleton] at hp
 subst hp
 simp only at hd hg
 rw [h1,List.mem_singleton] at hd
 subst hd
 subst hk
 simp [C4] at hg
 subst hg
 exact h2
theorem B6 {n:Int} (h : -9223372036854775808≤n) (h2:n≤9223372036854775807):W64 n=n:=Ai h h2
theorem Aju {x:Int} (h:inK .i64 x) : -9223372036854775808≤x∧x≤9223372036854775807:=h
theorem Ip {i n:Nat} (h:i<n) (hn:(n:Int)≤Aw .i64):W64 ((i:Int)+1)=((i+1:Nat):Int):=by
 simp only [Aw] at hn
 rw [show W64 ((i:Int)+1)=(i:Int)+1 from Ai (by omega) (by omega)];rfl
section
variable {L:Lay} {E:XE→Lay} {step:L.T→Tree (L.T⊕A4 E)} {R:A4 E→Prop} {S α:Type}
theorem Aei (l:List α) (d:α) (hn:(l.length:Int)≤Aw .i64) (hd:Int→Int→S→L.T) (f:α→Nat→S→S⊕A4 E) (ex:S→A4 E) (Inv:S→Prop) (body:α→Int→S→Tree (L.T⊕A4 E))
  (hstep:∀ (i:Int) (s:S),step (hd l.length i s)=bif decide (i<(l.length:Int)) then bif decide (0≤i∧i<(l.length:Int)) then body (A7 l i.toNat d) i s else .fail else .leaf (.inr (ex s)))
  (hbody:∀ (i:Nat) (s:S) (hi:i<l.length) (Q:L.T⊕A4 E→Prop),Inv s→L.WF (hd l.length i s)→W64 ((i:Int)+1)=((i+1:Nat):Int)→(match f l[i] i s with
   | .inl s'=>Inv s'→Q (.inl (hd l.length ((i+1:Nat):Int) s'))
   | .inr b=>Q (.inr b))→(body l[i] i s).sat Q) (s:S) (hs:Inv s) (hr:R (A49 f ex l 0 s)):∃ n,Ado L E step R n (hd l.length 0 s):=by
 refine ⟨_,Py l (fun i s=>hd l.length i s) f ex Inv ?_ ?_ l.length 0 s (by omega) hs (by rw [List.drop_zero];exact hr)⟩
 ·intro i s hi Q hI hw hQ
  rw [hstep,decide_eq_true (show (i:Int)<l.length by omega),decide_eq_true (show 0≤(i:Int)∧(i:Int)<l.length by omega),cond_true,cond_true]
  have ht:(i:Int).toNat=i:=by omega
  rw [ht,C7 hi]
  exact hbody i s hi Q hI hw (Ip hi hn) hQ
 ·intro s Q hI hQ
  rw [hstep,decide_eq_false (show ¬ (l.length:Int)<l.length by omega)]
  exact hQ
end
def Ge {β:Type} (n i:Int) (l:List β):Bool:=decide (n=(l.length:Int)∧i=0)
theorem Ej {c:TC} {l:List (TCT c)} (h:WFD (.sl c) l):(l.length:Int)≤Aw .i64:=by
 simp only [WFD] at h
 exact h.1
theorem Aq4 {c:TC} {l:List (TCT c)} (h:WFD (.sl c) l):∀ x ∈ l,WFD c x:=by
 simp only [WFD] at h
 exact h.2
theorem Jr {α B:Type} (p:α→Bool) (r:Nat→B) (e:B):∀ (l:List α) (i:Nat),A49 (fun x i (_:Unit)=>bif p x then .inr (r i) else .inl ()) (fun _=>e) l i ()=bif l.any p then r (i+l.findIdx p) else e
 | [],i=>rfl
 | x::l,i=>by
  simp only [A49,List.any_cons,List.findIdx_cons]
  cases p x with
  | true=>simp
  | false =>
   simp only [cond_false,Bool.false_or]
   rw [Jr p r e l (i+1)]
   cases l.any p with
   | true=>simp only [cond_true];congr 1;omega
   | false=>rfl
theorem M1 {α:Type} (p:α→Bool) (l:List α):decide ((bif l.any p then (l.findIdx p:Int) else -1)≥0)=l.any p:=by
 cases l.any p with
 | true=>exact decide_eq_true (by simp only [cond_true];omega)
 | false=>rfl
theorem K0 {X:Ctx} (hX:CtxOk X) {f:FuncId} {ks:List SK} {rs:List TC} {ok:SKTs ks→Bool} {F:SKTs ks→TCTs rs} (m:Nat) (T:SKTs ks→Tree (TCTs rs))
  (e:∀ x:SKTs ks,Ck X m (.fn f) (ofKs ks x 0) Bs 0 (Fq X.P rs)=T x) (h:∀ x:SKTs ks,ok x=true→WFKs ks x→(T x).sat (fun y=>y=F x)):A6 X.P f (Gl ks rs ok F) :=
 kq hX m fun x h1 h2=>A1e (e x) (h x h1 h2)
section
variable {L:Lay} {E:XE→Lay} {step:L.T→Tree (L.T⊕A4 E)} {R:A4 E→Prop} {S α:Type}
end
def Aej (u:Nat) (P:Program) (pu:List (Nat×PureT)) (fns:List (Nat×Func)):Ctx:={ P:=P,u:=u,fns:=fns,loops:=[],pures:=pu,specs:=[] }
theorem M3 {u:Nat} {P:Program} (hm:P.follows .mixedOrders=true) {pu:List (Nat×PureT)} {fns:List (Nat×Func)} (hp:Cd P pu) (hf:∀ p ∈ fns,FnIs P p):CtxOk (Aej u P pu fns) :=
 ⟨hm,hp,fun p h=>⟨(hf p h).1,(hf p h).2.1,fun _ _ _ _ _ h=>by simp [Aej,C4] at h⟩,fun p h=>by simp [Aej] at h⟩
section
variable {L:Lay2} {E:XE→Lay2} {step:L.T→Tree (L.T⊕Bc E)} {R:Bc E→Prop} {S α:Type}
end
end V
end Go.Proofs.YtlangijnealfjaaGreat
namespace Go.Proofs.YtlangijnealfjaaGreat
open Go.RowKit
namespace V
def Tree.run {α:Type}:Tree α→Option α
 | .leaf a=>some a
 | .need _ _=>none
 | .br c t e=>bif c then t.run else e.run
 | .fail=>none
theorem Tree.sat_run {α:Type} {R:α→Prop}:∀ {t:Tree α} {a:α},t.run=some a→R a→t.sat R
 | .leaf b,a,h,hr=>by cases h;exact hr
 | .need _ _,_,h,_=>by cases h
 | .br c t e,a,h,hr=>by
  simp only [Tree.run] at h
  cases c with
  | true=>exact ⟨fun _=>Tree.sat_run h hr,fun h=>nomatch h⟩
  | false=>exact ⟨(fun h=>nomatch h),fun _=>Tree.sat_run h hr⟩
 | .fail,_,h,_=>by cases h
def iter {G E:Type} (st:G→Tree (G⊕E)):Nat→G→Option E
 | 0,_=>none
 | n+1,g=>match (st g).run with
  | some (.inl g')=>iter st n g'
  | some (.inr e)=>some e
  | none=>none
theorem Js {G E:Type} {st:G→Tree (G⊕E)} {n:Nat} {g g':G} (h:(st g).run=some (.inl g')):iter st (n+1) g=iter st n g':=by
 simp only [iter]
 rw [h]
theorem F7 {G E:Type} {st:G→Tree (G⊕E)} {n:Nat} {g:G} {e:E} (h:(st g).run=some (.inr e)):iter st (n+1) g=some e:=by
 simp only [iter]
 rw [h]
theorem Z4 {L:Lay} {E:XE→Lay} {st:L.T→Tree (L.T⊕A4 E)} {R:A4 E→Prop}:∀ (n:Nat) (g:L.T) (e:A4 E),iter st n g=some e→R e→Ado L E st R n g
 | 0,_,_,h,_=>by cases h
 | n+1,g,e,h,hr=>by
  intro _
  simp only [iter] at h
  cases hs:(st g).run with
  | none=>rw [hs] at h;cases h
  | some x =>
   rw [hs] at h
   refine Tree.sat_run hs ?_
   cases x with
   | inl g'=>exact Z4 n g' e h hr
   | inr x=>cases h;exact fun _=>hr
mutual
def B0h:(k:SK)→SKT k
 | .d c=>A5 c
 | .o _ _=>[]
 | .p _ _ _ _=>()
 | .r c _=>A5 c
 | .f _ a c=>(dflKs a,dflKs c)
 | .ag ks=>dflKs ks
 | .y _=>()
 | .q _=>()
 | .m _ _=>fun _=>none
 | .i _ _=>0
 | .w _ _ _=>[]
def dflKs:(ks:List SK)→SKTs ks
 | []=>()
 | k::ks=>(B0h k,dflKs ks)
end
def Auo:(bs:List BK)→BTs bs
 | []=>()
 | b::bs=>(dflKs b.2.2,Auo bs)
def Lay.dfl (L:Lay):L.T:=(dflKs L.ks,Auo L.bs)
def A5o (E:XE→Lay):(e:XE)→A4 E→Option (E e).T
 | .normal,⟨.normal,v⟩=>some v
 | .ret,⟨.ret,v⟩=>some v
 | .exit i,⟨.exit j,v⟩=>if h:j=i then some (h ▸ v) else none
 | _,_=>none
theorem Aks {E:XE→Lay} {e:XE} {y:A4 E} {v:(E e).T} (h:A5o E e y=some v):y=⟨e,v⟩:=by
 unfold A5o at h
 split at h
 ·cases h;rfl
 ·cases h;rfl
 ·rename_i i j v'
  split at h
  ·rename_i hij
   subst hij
   cases h;rfl
  ·cases h
 ·cases h
def isE {E:XE→Lay} (e:XE) (y:Option (A4 E)):Bool:=match y with
 | some y=>(A5o E e y).isSome
 | none=>false
def D4 {E:XE→Lay} (e:XE) (y:Option (A4 E)):(E e).T:=match y with
 | some y=>(A5o E e y).getD (E e).dfl
 | none=>(E e).dfl
theorem Aup {E:XE→Lay} {e:XE} {y:Option (A4 E)} (h:isE e y=true):y=some ⟨e,D4 e y⟩:=by
 unfold isE at h
 split at h
 ·rename_i z
  cases hc:A5o E e z with
  | none=>rw [hc] at h;cases h
  | some v =>
   have:=Aks hc
   subst this
   simp only [D4,hc,Option.getD_some]
 ·cases h
def Auq {E:XE→Lay} (y:Option (A4 E)):List XE→Tree (A4 E)
 | []=>.fail
 | e::es=>.br (isE e y) (.leaf ⟨e,D4 e y⟩) (Auq y es)
theorem A5p {E:XE→Lay} {y:Option (A4 E)} {R:A4 E→Prop}:∀ {es:List XE},(Auq y es).sat R→∃ e,y=some e∧R e
 | [],h=>h.elim
 | e::es,h=>by
  obtain ⟨h1,h2⟩:=h
  cases hi:isE e y with
  | true=>exact ⟨_,Aup hi,h1 hi⟩
  | false=>exact A5p (h2 hi)
def D5 {L:Lay} {E:XE→Lay} (es:List XE) (st:L.T→Tree (L.T⊕A4 E)) (fuel:L.T→Nat) (g:L.T):Tree (A4 E):=Auq (iter st (fuel g) g) es
theorem Oy {X:Ctx} (hX:CtxOk X) (m:Nat) (fn:FuncId) (Lt:Ht) {c:Code} (hL:∀ d ∈ Ah c,∀ f,Lt (keyOf d)=some f→Av X.P fn d f) (L:Lay) (E:XE→Lay) (hE:∀ e,L.nx≤(E e).nx) (es:List XE) (st:L.T→Tree (L.T⊕A4 E)) (fuel:L.T→Nat)
  (hstep:∀ g,evC X.P (Ck X m) X.pures fn X.u Lt c (L.of g) (E4 L E)=st g):Av X.P fn c (Au L E (D5 es st fuel)):=by
 refine Ew hX m fn Lt hL L E hE (D5 es st fuel) st hstep ?_
 intro g R _ hf
 obtain ⟨e,he,hr⟩:=A5p hf
 exact ⟨_,Z4 _ g e he hr⟩
theorem Bu {X:Ctx} (hX:CtxOk X) (m:Nat) (fn:FuncId) {c:Code} (L:Lay) (E:XE→Lay) (hE:∀ e,L.nx≤(E e).nx) (es:List XE) (st:L.T→Tree (L.T⊕A4 E)) (fuel:L.T→Nat)
  (hstep:∀ g,evC X.P (Ck X m) X.pures fn X.u (fun _=>none) c (L.of g) (E4 L E)=st g):Av X.P fn c (Au L E (D5 es st fuel)) :=
 Oy hX m fn (fun _=>none) (fun _ _ f h=>by simp at h) L E hE es st fuel hstep
section
variable {G E S α:Type} {st:G→Tree (G⊕E)}
def N8 (f:Nat→α→S→Option (S⊕E)) (ex:S→Option E):Nat→List α→S→Option E
 | _,[],s=>ex s
 | i,x::l,s=>match f i x s with
  | some (.inl s')=>N8 f ex (i+1) l s'
  | some (.inr e)=>some e
  | none=>none
theorem Dp (l:List α) (hd:Nat→S→G) (f:Nat→α→S→Option (S⊕E)) (ex:S→Option E) (Inv:Nat→S→Prop)
  (h1:∀ (i:Nat) (s:S) (hi:i<l.length),Inv i s→match f i l[i] s with
   | some (.inl s')=>(st (hd i s)).run=some (.inl (hd (i+1) s'))∧Inv (i+1) s'
   | some (.inr e)=>(st (hd i s)).run=some (.inr e)
   | none=>True)
  (h2:∀ s e,Inv l.length s→ex s=some e→(st (hd l.length s)).run=some (.inr e)) :
  ∀ (k i:Nat) (s:S) (e:E) (n:Nat),i+k=l.length→k+1≤n→Inv i s→N8 f ex i (l.drop i) s=some e→iter st n (hd i s)=some e
 | 0,i,s,e,n,hk,hn,hi,hr=>by
  have e1:i=l.length:=by omega
  subst e1
  rw [List.drop_length] at hr
  cases n with
  | zero=>omega
  | succ n=>exact F7 (h2 s e hi hr)
 | k+1,i,s,e,n,hk,hn,hi,hr=>by
  have hlt:i<l.length:=by omega
  rw [List.drop_eq_getElem_cons hlt] at hr
  have h:=h1 i s hlt hi
  simp only [N8] at hr
  cases n with
  | zero=>omega
  | succ n =>
   cases hf:f i l[i] s with
   | none=>rw [hf] at hr;cases hr
   | some x =>
    rw [hf] at hr h
    cases x with
    | inl s' =>
     rw [Js h.1]
     exact Dp l hd f ex Inv h1 h2 k (i+1) s' e n (by omega) (by omega) h.2 hr
    | inr e' =>
     cases hr
     exact F7 h
end
theorem Oz {α E:Type} (p:α→Bool) (r:Nat→E) (d:E):∀ (l:List α) (i:Nat),N8 (fun i x (_:Unit)=>bif p x then some (.inr (r i)) else some (.inl ())) (fun _=>some d) i l ()=some (bif l.any p then r (i+l.findIdx p) else d)
 | [],i=>rfl
 | x::l,i=>by
  simp only [N8,List.any_cons,List.findIdx_cons]
  cases p x with
  | true=>simp
  | false =>
   simp only [cond_false,Bool.false_or]
   rw [Oz p r d l (i+1)]
   cases l.any p with
   | true=>simp only [cond_true];congr 2;omega
   | false=>rfl
end V
end Go.Proofs.YtlangijnealfjaaGreat
namespace Go.Proofs.YtlangijnealfjaaGreat
open Go.RowKit
namespace V
noncomputable def Axy (X:Ctx) (m:Nat) (f:FuncId) (cs rs:List TC):PureT:=Are cs rs (fun x=>Ck X m (.fn f) (Cs cs x) Bs 0 (Fq X.P rs))
theorem Aq5 {X:Ctx} (hX:CtxOk X) (m:Nat) (f:FuncId) (cs rs:List TC):A6 X.P f (Axy X m f cs rs):=Au4 hX m fun _=>rfl
theorem Axz {X:Ctx} (hX:CtxOk X) {f:FuncId} {cs rs:List TC} {ok:TCTs cs→Bool} {F:TCTs cs→TCTs rs} (m:Nat) (T T':TCTs cs→Tree (TCTs rs))
  (hT:∀ x:TCTs cs,Ck X m (.fn f) (Cs cs x) Bs 0 (Fq X.P rs)=T x) (h1:∀ x,ok x=true→T x=T' x) (h2:∀ x,ok x=true→WFDs cs x→(T' x).sat (fun y=>y=F x)):A6 X.P f (Bh cs rs ok F) :=
 Bj hX m T hT fun x h hw=>by rw [h1 x h];exact h2 x h hw
end V
end Go.Proofs.YtlangijnealfjaaGreat
namespace Go.Proofs.YtlangijnealfjaaGreat
open Go.RowKit
namespace V
end V
end Go.Proofs.YtlangijnealfjaaGreat
namespace Go.Proofs.YtlangijnealfjaaGreat
open Go.RowKit Go.ChangeShapes Go.WideShapes Go.ChangeAt
namespace V
theorem RepL.cut {σ:Env}:∀ {a b:List AV} {vs:List Value},RepL σ (a++b) vs→∃ u v,vs=u++v∧RepL σ a u∧RepL σ b v
 | [],b,vs,h=>⟨[],vs,rfl,by simp only [RepL],h⟩
 | x::a,b,vs,h=>by
  simp only [List.cons_append,RepL] at h
  obtain ⟨v,us,rfl,h1,h2⟩:=h
  obtain ⟨p,q,rfl,h3,h4⟩:=RepL.cut h2
  exact ⟨v::p,q,rfl,by simp only [RepL];exact ⟨v,p,rfl,h1,h3⟩,h4⟩
section
variable {H:Type} {enc:TypeId×Value→H}
end
end V
end Go.Proofs.YtlangijnealfjaaGreat
