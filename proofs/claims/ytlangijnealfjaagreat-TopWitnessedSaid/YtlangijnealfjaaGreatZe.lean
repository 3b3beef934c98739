import Derived.Test.YtlangijnealfjaaGreatVD
import Derived.Test.YtlangijnealfjaaGreatChecked
namespace Go.Proofs.YtlangijnealfjaaGreat
open Go.RowKit
namespace V
abbrev cI:TC:=.i .i64
abbrev W64 (n:Int):Int:=IntKind.i64.wrap n
theorem Ak:Tryz.prog.follows .mixedOrders=true:=by kernel_rfl
theorem Cc {P:Program} {f:Nat} {fn:Func} {lb:Code} {sum:St→Tree (XE×St)} {k:Nat} (hk:keyOf lb=k) (h1:Al (bodyOf fn)=[lb]) (h2:Aw P f lb sum) :
  ∀ p ∈ [(f,fn)],∀ d ∈ Al (bodyOf p.2),∀ g,Co [((f,k),sum)] p.1 (keyOf d)=some g→Aw P p.1 d g:=by
 intro p hp d hd g hg
 simp only [List.mem_singleton] at hp
 subst hp
 simp only at hd hg
 rw [h1,List.mem_singleton] at hd
 subst hd
 subst hk
 simp [Co] at hg
 subst hg
 exact h2
theorem Be {n:Int} (h : -9223372036854775808≤n) (h2:n≤9223372036854775807):W64 n=n:=A7 h h2
theorem Ey {i n:Nat} (h:i<n) (hn:(n:Int)≤B7 .i64):W64 ((i:Int)+1)=((i+1:Nat):Int):=by
 simp only [B7] at hn
 rw [show W64 ((i:Int)+1)=(i:Int)+1 from A7 (by omega) (by omega)];rfl
section
variable {L:Lay} {E:XE→Lay} {step:L.T→Tree (L.T⊕A1 E)} {R:A1 E→Prop} {S α:Type}
theorem Avt (l:List α) (d:α) (hn:(l.length:Int)≤B7 .i64) (hd:Int→Int→S→L.T) (f:α→Nat→S→S⊕A1 E) (ex:S→A1 E) (Inv:S→Prop) (body:α→Int→S→Tree (L.T⊕A1 E))
  (hstep:∀ (i:Int) (s:S),step (hd l.length i s)=bif decide (i<(l.length:Int)) then bif decide (0≤i∧i<(l.length:Int)) then body (As l i.toNat d) i s else .fail else .leaf (.inr (ex s)))
  (hbody:∀ (i:Nat) (s:S) (hi:i<l.length) (Q:L.T⊕A1 E→Prop),Inv s→L.WF (hd l.length i s)→W64 ((i:Int)+1)=((i+1:Nat):Int)→(match f l[i] i s with
   | .inl s'=>Inv s'→Q (.inl (hd l.length ((i+1:Nat):Int) s'))
   | .inr b=>Q (.inr b))→(body l[i] i s).sat Q) (s:S) (hs:Inv s) (hr:R (Aaa f ex l 0 s)):∃ n,Aeq L E step R n (hd l.length 0 s):=by
 refine ⟨_,V1 l (fun i s=>hd l.length i s) f ex Inv ?_ ?_ l.length 0 s (by omega) hs (by rw [List.drop_zero];exact hr)⟩
 ·intro i s hi Q hI hw hQ
  rw [hstep,decide_eq_true (show (i:Int)<l.length by omega),decide_eq_true (show 0≤(i:Int)∧(i:Int)<l.length by omega),cond_true,cond_true]
  have ht:(i:Int).toNat=i:=by omega
  rw [ht,De hi]
  exact hbody i s hi Q hI hw (Ey hi hn) hQ
 ·intro s Q hI hQ
  rw [hstep,decide_eq_false (show ¬ (l.length:Int)<l.length by omega)]
  exact hQ
end
def Lm {β:Type} (n i:Int) (l:List β):Bool:=decide (n=(l.length:Int)∧i=0)
theorem Dl {c:TC} {l:List (TCT c)} (h:WFD (.sl c) l):(l.length:Int)≤B7 .i64:=by
 simp only [WFD] at h
 exact h.1
theorem B3b {c:TC} {l:List (TCT c)} (h:WFD (.sl c) l):∀ x ∈ l,WFD c x:=by
 simp only [WFD] at h
 exact h.2
theorem Pp {α B:Type} (p:α→Bool) (r:Nat→B) (e:B):∀ (l:List α) (i:Nat),Aaa (fun x i (_:Unit)=>bif p x then .inr (r i) else .inl ()) (fun _=>e) l i ()=bif l.any p then r (i+l.findIdx p) else e
 | [],i=>rfl
 | x::l,i=>by
  simp only [Aaa,List.any_cons,List.findIdx_cons]
  cases p x with
  | true=>simp
  | false =>
   simp only [cond_false,Bool.false_or]
   rw [Pp p r e l (i+1)]
   cases l.any p with
   | true=>simp only [cond_true];congr 1;omega
   | false=>rfl
theorem Tn {α:Type} (p:α→Bool) (l:List α):decide ((bif l.any p then (l.findIdx p:Int) else -1)≥0)=l.any p:=by
 cases l.any p with
 | true=>exact decide_eq_true (by simp only [cond_true];omega)
 | false=>rfl
theorem Ji {X:Ctx} (hX:CtxOk X) {f:FuncId} {ks:List SK} {rs:List TC} {ok:SKTs ks→Bool} {F:SKTs ks→TCTs rs} (m:Nat) (T:SKTs ks→Tree (TCTs rs))
  (e:∀ x:SKTs ks,D1 X m (.fn f) (ofKs ks x 0) Ce 0 (Hx X.P rs)=T x) (h:∀ x:SKTs ks,ok x=true→WFKs ks x→(T x).sat (fun y=>y=F x)):A6 X.P f (Ha ks rs ok F) :=
 kq hX m fun x h1 h2=>A69 (e x) (h x h1 h2)
section
variable {L:Lay} {E:XE→Lay} {step:L.T→Tree (L.T⊕A1 E)} {R:A1 E→Prop} {S α:Type}
end
def Ab9 (u:Nat) (P:Program) (pu:List (Nat×PureT)) (fns:List (Nat×Func)):Ctx:={ P:=P,u:=u,fns:=fns,loops:=[],pures:=pu,specs:=[] }
theorem L6 {u:Nat} {P:Program} (hm:P.follows .mixedOrders=true) {pu:List (Nat×PureT)} {fns:List (Nat×Func)} (hp:D3 P pu) (hf:∀ p ∈ fns,FnIs P p):CtxOk (Ab9 u P pu fns) :=
 ⟨hm,hp,fun p h=>⟨(hf p h).1,(hf p h).2.1,fun _ _ _ _ _ h=>by simp [Ab9,Co] at h⟩,fun p h=>by simp [Ab9] at h⟩
section
variable {L:Lay2} {E:XE→Lay2} {step:L.T→Tree (L.T⊕F6 E)} {R:F6 E→Prop} {S α:Type}
end
end V
end Go.Proofs.YtlangijnealfjaaGreat
namespace Go.Proofs.YtlangijnealfjaaGreat
open Go.RowKit
namespace V
def Tree.run {α:Type}:Tree α→Option α
 | .leaf a=>some a
 | .need _ _=>none
 | .br c t e=>bif c then t.run else e.run
 | .fail=>none
theorem Tree.sat_run {α:Type} {R:α→Prop}:∀ {t:Tree α} {a:α},t.run=some a→R a→t.sat R
 | .leaf b,a,h,hr=>by cases h;exact hr
 | .need _ _,_,h,_=>by cases h
 | .br c t e,a,h,hr=>by
  simp only [Tree.run] at h
  cases c with
  | true=>exact ⟨fun _=>Tree.sat_run h hr,fun h=>nomatch h⟩
  | false=>exact ⟨(fun h=>nomatch h),fun _=>Tree.sat_run h hr⟩
 | .fail,_,h,_=>by cases h
def iter {G E:Type} (st:G→Tree (G⊕E)):Nat→G→Option E
 | 0,_=>none
 | n+1,g=>match (st g).run with
  | some (.inl g')=>iter st n g'
  | some (.inr e)=>some e
  | none=>none
theorem Ez {G E:Type} {st:G→Tree (G⊕E)} {n:Nat} {g g':G} (h:(st g).run=some (.inl g')):iter st (n+1) g=iter st n g':=by
 simp only [iter]
 rw [h]
theorem G7 {G E:Type} {st:G→Tree (G⊕E)} {n:Nat} {g:G} {e:E} (h:(st g).run=some (.inr e)):iter st (n+1) g=some e:=by
 simp only [iter]
 rw [h]
theorem Pq {L:Lay} {E:XE→Lay} {st:L.T→Tree (L.T⊕A1 E)} {R:A1 E→Prop}:∀ (n:Nat) (g:L.T) (e:A1 E),iter st n g=some e→R e→Aeq L E st R n g
 | 0,_,_,h,_=>by cases h
 | n+1,g,e,h,hr=>by
  intro _
  simp only [iter] at h
  cases hs:(st g).run with
  | none=>rw [hs] at h;cases h
  | some x =>
   rw [hs] at h
   refine Tree.sat_run hs ?_
   cases x with
   | inl g'=>exact Pq n g' e h hr
   | inr x=>cases h;exact fun _=>hr
mutual
def Bjt:(k:SK)→SKT k
 | .d c=>Aq c
 | .o _ _=>[]
 | .p _ _ _ _=>()
 | .sli _ _ _ _ _=>()
 | .r c _=>Aq c
 | .f _ a c=>(dflKs a,dflKs c)
 | .ag ks=>dflKs ks
 | .y _=>()
 | .q _=>()
 | .m _ _=>fun _=>none
 | .i _ _=>0
 | .w _ _ _=>[]
def dflKs:(ks:List SK)→SKTs ks
 | []=>()
 | k::ks=>(Bjt k,dflKs ks)
end
def Bb2:(bs:List BK)→BTs bs
 | []=>()
 | b::bs=>(dflKs b.2.2,Bb2 bs)
def Lay.dfl (L:Lay):L.T:=(dflKs L.ks,Bb2 L.bs)
def Aba (E:XE→Lay):(e:XE)→A1 E→Option (E e).T
 | .normal,⟨.normal,v⟩=>some v
 | .ret,⟨.ret,v⟩=>some v
 | .exit i,⟨.exit j,v⟩=>if h:j=i then some (h ▸ v) else none
 | _,_=>none
theorem Avu {E:XE→Lay} {e:XE} {y:A1 E} {v:(E e).T} (h:Aba E e y=some v):y=⟨e,v⟩:=by
 unfold Aba at h
 split at h
 ·cases h;rfl
 ·cases h;rfl
 ·rename_i i j v'
  split at h
  ·rename_i hij
   subst hij
   cases h;rfl
  ·cases h
 ·cases h
def isE {E:XE→Lay} (e:XE) (y:Option (A1 E)):Bool:=match y with
 | some y=>(Aba E e y).isSome
 | none=>false
def C2 {E:XE→Lay} (e:XE) (y:Option (A1 E)):(E e).T:=match y with
 | some y=>(Aba E e y).getD (E e).dfl
 | none=>(E e).dfl
theorem Bb3 {E:XE→Lay} {e:XE} {y:Option (A1 E)} (h:isE e y=true):y=some ⟨e,C2 e y⟩:=by
 unfold isE at h
 split at h
 ·rename_i z
  cases hc:Aba E e z with
  | none=>rw [hc] at h;cases h
  | some v =>
   have:=Avu hc
   subst this
   simp only [C2,hc,Option.getD_some]
 ·cases h
def B3c {E:XE→Lay} (y:Option (A1 E)):List XE→Tree (A1 E)
 | []=>.fail
 | e::es=>.br (isE e y) (.leaf ⟨e,C2 e y⟩) (B3c y es)
theorem A1c {E:XE→Lay} {y:Option (A1 E)} {R:A1 E→Prop}:∀ {es:List XE},(B3c y es).sat R→∃ e,y=some e∧R e
 | [],h=>h.elim
 | e::es,h=>by
  obtain ⟨h1,h2⟩:=h
  cases hi:isE e y with
  | true=>exact ⟨_,Bb3 hi,h1 hi⟩
  | false=>exact A1c (h2 hi)
def D7 {L:Lay} {E:XE→Lay} (es:List XE) (st:L.T→Tree (L.T⊕A1 E)) (fuel:L.T→Nat) (g:L.T):Tree (A1 E):=B3c (iter st (fuel g) g) es
theorem A1d {X:Ctx} (hX:CtxOk X) (m:Nat) (fn:FuncId) (Lt:M7) {c:Code} (hL:∀ d ∈ Al c,∀ f,Lt (keyOf d)=some f→Aw X.P fn d f) (L:Lay) (E:XE→Lay) (hE:∀ e,L.nx≤(E e).nx) (es:List XE) (st:L.T→Tree (L.T⊕A1 E)) (fuel:L.T→Nat)
  (hstep:∀ g,evC X.P (D1 X m) X.pures fn X.u Lt c (L.of g) (Db L E)=st g):Aw X.P fn c (Ar L E (D7 es st fuel)):=by
 refine G9 hX m fn Lt hL L E hE (D7 es st fuel) st hstep ?_
 intro g R _ hf
 obtain ⟨e,he,hr⟩:=A1c hf
 exact ⟨_,Pq _ g e he hr⟩
theorem B8 {X:Ctx} (hX:CtxOk X) (m:Nat) (fn:FuncId) {c:Code} (L:Lay) (E:XE→Lay) (hE:∀ e,L.nx≤(E e).nx) (es:List XE) (st:L.T→Tree (L.T⊕A1 E)) (fuel:L.T→Nat)
  (hstep:∀ g,evC X.P (D1 X m) X.pures fn X.u (fun _=>none) c (L.of g) (Db L E)=st g):Aw X.P fn c (Ar L E (D7 es st fuel)) :=
 A1d hX m fn (fun _=>none) (fun _ _ f h=>by simp at h) L E hE es st fuel hstep
def A1e (E:XE→Lay) (t:TypeId) (k:IntKind):A1 E→Option ((n:Int)×(E (.panic (.ifc t (.int k n)))).T)
 | ⟨.panic (.ifc t' (.int k' n)),v⟩=>if h:t'=t then if h2:k'=k then some ⟨n,h ▸ h2 ▸ v⟩ else none else none
 | _=>none
theorem Avv {E:XE→Lay} {t:TypeId} {k:IntKind} {y:A1 E} {p:(n:Int)×(E (.panic (.ifc t (.int k n)))).T} (h:A1e E t k y=some p):y=⟨.panic (.ifc t (.int k p.1)),p.2⟩:=by
 unfold A1e at h
 split at h
 ·rename_i t' k' n v
  split at h
  ·rename_i h1
   subst h1
   split at h
   ·rename_i h2
    subst h2
    cases h
    rfl
   ·cases h
  ·cases h
 ·cases h
def isP {E:XE→Lay} (t:TypeId) (k:IntKind) (y:Option (A1 E)):Bool:=match y with
 | some y=>(A1e E t k y).isSome
 | none=>false
def panO {E:XE→Lay} (t:TypeId) (k:IntKind) (y:Option (A1 E)):(n:Int)×(E (.panic (.ifc t (.int k n)))).T:=match y with
 | some y=>(A1e E t k y).getD ⟨0,(E (.panic (.ifc t (.int k 0)))).dfl⟩
 | none=>⟨0,(E (.panic (.ifc t (.int k 0)))).dfl⟩
theorem A1f {E:XE→Lay} {t:TypeId} {k:IntKind} {n:Int} {v:(E (.panic (.ifc t (.int k n)))).T}:A1e E t k ⟨.panic (.ifc t (.int k n)),v⟩=some ⟨n,v⟩:=by simp [A1e]
theorem Oy {E:XE→Lay} {t:TypeId} {k:IntKind} {n:Int} {v:(E (.panic (.ifc t (.int k n)))).T}:isP t k (some (⟨.panic (.ifc t (.int k n)),v⟩:A1 E))=true:=by simp only [isP,A1f,Option.isSome_some]
theorem Jz {E:XE→Lay} {t:TypeId} {k:IntKind} {n:Int} {v:(E (.panic (.ifc t (.int k n)))).T}:panO t k (some (⟨.panic (.ifc t (.int k n)),v⟩:A1 E))=⟨n,v⟩:=by simp only [panO,A1f,Option.getD_some]
theorem Bb4 {E:XE→Lay} {t:TypeId} {k:IntKind} {y:Option (A1 E)} (h:isP t k y=true):y=some ⟨.panic (.ifc t (.int k (panO t k y).1)),(panO t k y).2⟩:=by
 unfold isP at h
 split at h
 ·rename_i z
  cases hc:A1e E t k z with
  | none=>rw [hc] at h;cases h
  | some v =>
   have:=Avv hc
   subst this
   obtain ⟨n,v⟩:=v
   rw [Jz]
 ·cases h
def finP {L:Lay} {E:XE→Lay} (t:TypeId) (k:IntKind) (es:List XE) (st:L.T→Tree (L.T⊕A1 E)) (fuel:L.T→Nat) (g:L.T):Tree (A1 E) :=
 .br (isP t k (iter st (fuel g) g)) (.leaf ⟨.panic (.ifc t (.int k (panO t k (iter st (fuel g) g)).1)),(panO t k (iter st (fuel g) g)).2⟩) (B3c (iter st (fuel g) g) es)
theorem Abb {X:Ctx} (hX:CtxOk X) (m:Nat) (fn:FuncId) (Lt:M7) {c:Code} (hL:∀ d ∈ Al c,∀ f,Lt (keyOf d)=some f→Aw X.P fn d f) (L:Lay) (E:XE→Lay) (hE:∀ e,L.nx≤(E e).nx) (t:TypeId) (k:IntKind) (es:List XE) (st:L.T→Tree (L.T⊕A1 E)) (fuel:L.T→Nat)
  (hstep:∀ g,evC X.P (D1 X m) X.pures fn X.u Lt c (L.of g) (Db L E)=st g):Aw X.P fn c (Ar L E (finP t k es st fuel)):=by
 refine G9 hX m fn Lt hL L E hE (finP t k es st fuel) st hstep ?_
 intro g R _ hf
 obtain ⟨h1,h2⟩:=hf
 cases hp:isP t k (iter st (fuel g) g) with
 | true=>exact ⟨_,Pq _ g _ (Bb4 hp) (h1 hp)⟩
 | false =>
  obtain ⟨e,he,hr⟩:=A1c (h2 hp)
  exact ⟨_,Pq _ g e he hr⟩
theorem Pr {X:Ctx} (hX:CtxOk X) (m:Nat) (fn:FuncId) {c:Code} (L:Lay) (E:XE→Lay) (hE:∀ e,L.nx≤(E e).nx) (t:TypeId) (k:IntKind) (es:List XE) (st:L.T→Tree (L.T⊕A1 E)) (fuel:L.T→Nat)
  (hstep:∀ g,evC X.P (D1 X m) X.pures fn X.u (fun _=>none) c (L.of g) (Db L E)=st g):Aw X.P fn c (Ar L E (finP t k es st fuel)) :=
 Abb hX m fn (fun _=>none) (fun _ _ f h=>by simp at h) L E hE t k es st fuel hstep
section
variable {G E S α:Type} {st:G→Tree (G⊕E)}
def Rh (f:Nat→α→S→Option (S⊕E)) (ex:S→Option E):Nat→List α→S→Option E
 | _,[],s=>ex s
 | i,x::l,s=>match f i x s with
  | some (.inl s')=>Rh f ex (i+1) l s'
  | some (.inr e)=>some e
  | none=>none
theorem Fv (l:List α) (hd:Nat→S→G) (f:Nat→α→S→Option (S⊕E)) (ex:S→Option E) (Inv:Nat→S→Prop)
  (h1:∀ (i:Nat) (s:S) (hi:i<l.length),Inv i s→match f i l[i] s with
   | some (.inl s')=>(st (hd i s)).run=some (.inl (hd (i+1) s'))∧Inv (i+1) s'
   | some (.inr e)=>(st (hd i s)).run=some (.inr e)
   | none=>True)
  (h2:∀ s e,Inv l.length s→ex s=some e→(st (hd l.length s)).run=some (.inr e)) :
  ∀ (k i:Nat) (s:S) (e:E) (n:Nat),i+k=l.length→k+1≤n→Inv i s→Rh f ex i (l.drop i) s=some e→iter st n (hd i s)=some e
 | 0,i,s,e,n,hk,hn,hi,hr=>by
  have e1:i=l.length:=by omega
  subst e1
  rw [List.drop_length] at hr
  cases n with
  | zero=>omega
  | succ n=>exact G7 (h2 s e hi hr)
 | k+1,i,s,e,n,hk,hn,hi,hr=>by
  have hlt:i<l.length:=by omega
  rw [List.drop_eq_getElem_cons hlt] at hr
  have h:=h1 i s hlt hi
  simp only [Rh] at hr
  cases n with
  | zero=>omega
  | succ n =>
   cases hf:f i l[i] s with
   | none=>rw [hf] at hr;cases hr
   | some x =>
    rw [hf] at hr h
    cases x with
    | inl s' =>
     rw [Ez h.1]
     exact Fv l hd f ex Inv h1 h2 k (i+1) s' e n (by omega) (by omega) h.2 hr
    | inr e' =>
     cases hr
     exact G7 h
end
theorem To {α E:Type} (p:α→Bool) (r:Nat→E) (d:E):∀ (l:List α) (i:Nat),Rh (fun i x (_:Unit)=>bif p x then some (.inr (r i)) else some (.inl ())) (fun _=>some d) i l ()=some (bif l.any p then r (i+l.findIdx p) else d)
 | [],i=>rfl
 | x::l,i=>by
  simp only [Rh,List.any_cons,List.findIdx_cons]
  cases p x with
  | true=>simp
  | false =>
   simp only [cond_false,Bool.false_or]
   rw [To p r d l (i+1)]
   cases l.any p with
   | true=>simp only [cond_true];congr 2;omega
   | false=>rfl
end V
end Go.Proofs.YtlangijnealfjaaGreat
namespace Go.Proofs.YtlangijnealfjaaGreat
open Go.RowKit
namespace V
noncomputable def Bg9 (X:Ctx) (m:Nat) (f:FuncId) (cs rs:List TC):PureT:=B5n cs rs (fun x=>D1 X m (.fn f) (E7 cs x) Ce 0 (Hx X.P rs))
theorem B3d {X:Ctx} (hX:CtxOk X) (m:Nat) (f:FuncId) (cs rs:List TC):A6 X.P f (Bg9 X m f cs rs):=Bao hX m fun _=>rfl
theorem Bga {X:Ctx} (hX:CtxOk X) {f:FuncId} {cs rs:List TC} {ok:TCTs cs→Bool} {F:TCTs cs→TCTs rs} (m:Nat) (T T':TCTs cs→Tree (TCTs rs))
  (hT:∀ x:TCTs cs,D1 X m (.fn f) (E7 cs x) Ce 0 (Hx X.P rs)=T x) (h1:∀ x,ok x=true→T x=T' x) (h2:∀ x,ok x=true→WFDs cs x→(T' x).sat (fun y=>y=F x)):A6 X.P f (Bj cs rs ok F) :=
 Bl hX m T hT fun x h hw=>by rw [h1 x h];exact h2 x h hw
end V
end Go.Proofs.YtlangijnealfjaaGreat
namespace Go.Proofs.YtlangijnealfjaaGreat
open Go.RowKit
namespace V
def fcN {β:Type} (n:Nat) (k:Nat→β):β:=Nat.rec (motive:=fun _=>β) (k 0) (fun m _=>k (Nat.succ m)) n
def fcI {β:Type} (n:Int) (k:Int→β):β:=match n with
 | .ofNat m=>fcN m fun m=>k (.ofNat m)
 | .negSucc m=>fcN m fun m=>k (.negSucc m)
def fcB {β:Type} (b:Bool) (k:Bool→β):β:=match b with
 | true=>k true
 | false=>k false
def fcL {α β:Type} (f:α→(α→β)→β):List α→(List α→β)→β
 | [],k=>k []
 | x::l,k=>f x fun x=>fcL f l fun l=>k (x::l)
mutual
def fcT {β:Type}:(c:TC)→TCT c→(TCT c→β)→β
 | .b,x,k=>fcB x k
 | .i _,n,k=>fcI n k
 | .s,x,k=>k x
 | .sl c,xs,k=>fcL (fun x k=>fcT c x k) xs k
 | .st cs,x,k=>fcTs cs x k
def fcTs {β:Type}:(cs:List TC)→TCTs cs→(TCTs cs→β)→β
 | [],_,k=>k ()
 | c::cs,x,k=>fcT c x.1 fun y=>fcTs cs x.2 fun z=>k (y,z)
end
end V
end Go.Proofs.YtlangijnealfjaaGreat
namespace Go.Proofs.YtlangijnealfjaaGreat
open Go.RowKit Go.ChangeShapes Go.WideShapes Go.ChangeAt
namespace V
theorem RepL.cut {σ:Env}:∀ {a b:List AV} {vs:List Value},RepL σ (a++b) vs→∃ u v,vs=u++v∧RepL σ a u∧RepL σ b v
 | [],b,vs,h=>⟨[],vs,rfl,by simp only [RepL],h⟩
 | x::a,b,vs,h=>by
  simp only [List.cons_append,RepL] at h
  obtain ⟨v,us,rfl,h1,h2⟩:=h
  obtain ⟨p,q,rfl,h3,h4⟩:=RepL.cut h2
  exact ⟨v::p,q,rfl,by simp only [RepL];exact ⟨v,p,rfl,h1,h3⟩,h4⟩
section
variable {H:Type} {enc:TypeId×Value→H}
end
end V
end Go.Proofs.YtlangijnealfjaaGreat
