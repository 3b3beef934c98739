import Derived.Test.YtcfanlgpkefogaaGreatZa
namespace Go.Proofs.YtcfanlgpkefogaaGreat
open Go.RowKit
namespace V
def Tree.run {α:Type}:Tree α→Option α
 | .leaf a=>some a
 | .need _ _=>none
 | .br c t e=>bif c then t.run else e.run
 | .fail=>none
theorem Tree.sat_run {α:Type} {R:α→Prop}:∀ {t:Tree α} {a:α},t.run=some a→R a→t.sat R
 | .leaf b,a,h,hr=>by cases h;exact hr
 | .need _ _,_,h,_=>by cases h
 | .br c t e,a,h,hr=>by
  simp only [Tree.run] at h
  cases c with
  | true=>exact ⟨fun _=>Tree.sat_run h hr,fun h=>nomatch h⟩
  | false=>exact ⟨(fun h=>nomatch h),fun _=>Tree.sat_run h hr⟩
 | .fail,_,h,_=>by cases h
def iter {G E:Type} (st:G→Tree (G⊕E)):Nat→G→Option E
 | 0,_=>none
 | n+1,g=>match (st g).run with
  | some (.inl g')=>iter st n g'
  | some (.inr e)=>some e
  | none=>none
theorem Bkt {G E:Type} {st:G→Tree (G⊕E)} {n:Nat} {g g':G} (h:(st g).run=some (.inl g')):iter st (n+1) g=iter st n g':=by
 simp only [iter]
 rw [h]
theorem Bep {G E:Type} {st:G→Tree (G⊕E)} {n:Nat} {g:G} {e:E} (h:(st g).run=some (.inr e)):iter st (n+1) g=some e:=by
 simp only [iter]
 rw [h]
theorem Bn4 {L:Lay} {E:XE→Lay} {st:L.T→Tree (L.T⊕Fq E)} {R:Fq E→Prop}:∀ (n:Nat) (g:L.T) (e:Fq E),iter st n g=some e→R e→Cbp L E st R n g
 | 0,_,_,h,_=>by cases h
 | n+1,g,e,h,hr=>by
  intro _
  simp only [iter] at h
  cases hs:(st g).run with
  | none=>rw [hs] at h;cases h
  | some x =>
   rw [hs] at h
   refine Tree.sat_run hs ?_
   cases x with
   | inl g'=>exact Bn4 n g' e h hr
   | inr x=>cases h;exact fun _=>hr
mutual
def Dfs:(k:SK)→SKT k
 | .d c=>Baj c
 | .o _ _=>[]
 | .p _ _ _ _=>()
 | .r c _=>Baj c
 | .f _ a c=>(dflKs a,dflKs c)
 | .ag ks=>dflKs ks
 | .y _=>()
 | .q _=>()
 | .m _ _=>fun _=>none
 | .i _ _=>0
 | .w _ _ _=>[]
def dflKs:(ks:List SK)→SKTs ks
 | []=>()
 | k::ks=>(Dfs k,dflKs ks)
end
def D80:(bs:List BK)→BTs bs
 | []=>()
 | b::bs=>(dflKs b.2.2,D80 bs)
def Lay.dfl (L:Lay):L.T:=(dflKs L.ks,D80 L.bs)
def C7u (E:XE→Lay):(e:XE)→Fq E→Option (E e).T
 | .normal,⟨.normal,v⟩=>some v
 | .ret,⟨.ret,v⟩=>some v
 | .exit i,⟨.exit j,v⟩=>if h:j=i then some (h ▸ v) else none
 | _,_=>none
theorem Cth {E:XE→Lay} {e:XE} {y:Fq E} {v:(E e).T} (h:C7u E e y=some v):y=⟨e,v⟩:=by
 unfold C7u at h
 split at h
 ·cases h;rfl
 ·cases h;rfl
 ·rename_i i j v'
  split at h
  ·rename_i hij
   subst hij
   cases h;rfl
  ·cases h
 ·cases h
def isE {E:XE→Lay} (e:XE) (y:Option (Fq E)):Bool:=match y with
 | some y=>(C7u E e y).isSome
 | none=>false
def Bc2 {E:XE→Lay} (e:XE) (y:Option (Fq E)):(E e).T:=match y with
 | some y=>(C7u E e y).getD (E e).dfl
 | none=>(E e).dfl
theorem D81 {E:XE→Lay} {e:XE} {y:Option (Fq E)} (h:isE e y=true):y=some ⟨e,Bc2 e y⟩:=by
 unfold isE at h
 split at h
 ·rename_i z
  cases hc:C7u E e z with
  | none=>rw [hc] at h;cases h
  | some v =>
   have:=Cth hc
   subst this
   simp only [Bc2,hc,Option.getD_some]
 ·cases h
def D0z {E:XE→Lay} (y:Option (Fq E)):List XE→Tree (Fq E)
 | []=>.fail
 | e::es=>.br (isE e y) (.leaf ⟨e,Bc2 e y⟩) (D0z y es)
theorem Bxe {E:XE→Lay} {y:Option (Fq E)} {R:Fq E→Prop}:∀ {es:List XE},(D0z y es).sat R→∃ e,y=some e∧R e
 | [],h=>h.elim
 | e::es,h=>by
  obtain ⟨h1,h2⟩:=h
  cases hi:isE e y with
  | true=>exact ⟨_,D81 hi,h1 hi⟩
  | false=>exact Bxe (h2 hi)
def Bcm {L:Lay} {E:XE→Lay} (es:List XE) (st:L.T→Tree (L.T⊕Fq E)) (fuel:L.T→Nat) (g:L.T):Tree (Fq E):=D0z (iter st (fuel g) g) es
theorem Bmd {X:Ctx} (hX:CtxOk X) (m:Nat) (fn:FuncId) (Lt:Bie) {c:Code} (hL:∀ d ∈ Bak c,∀ f,Lt (keyOf d)=some f→Baw X.P fn d f) (L:Lay) (E:XE→Lay) (hE:∀ e,L.nx≤(E e).nx) (es:List XE) (st:L.T→Tree (L.T⊕Fq E)) (fuel:L.T→Nat)
  (hstep:∀ g,evC X.P (Bcr X m) X.pures fn X.u Lt c (L.of g) (Bet L E)=st g):Baw X.P fn c (Bav L E (Bcm es st fuel)):=by
 refine Beu hX m fn Lt hL L E hE (Bcm es st fuel) st hstep ?_
 intro g R _ hf
 obtain ⟨e,he,hr⟩:=Bxe hf
 exact ⟨_,Bn4 _ g e he hr⟩
theorem Bb9 {X:Ctx} (hX:CtxOk X) (m:Nat) (fn:FuncId) {c:Code} (L:Lay) (E:XE→Lay) (hE:∀ e,L.nx≤(E e).nx) (es:List XE) (st:L.T→Tree (L.T⊕Fq E)) (fuel:L.T→Nat)
  (hstep:∀ g,evC X.P (Bcr X m) X.pures fn X.u (fun _=>none) c (L.of g) (Bet L E)=st g):Baw X.P fn c (Bav L E (Bcm es st fuel)) :=
 Bmd hX m fn (fun _=>none) (fun _ _ f h=>by simp at h) L E hE es st fuel hstep
def Bxf (E:XE→Lay) (t:TypeId) (k:IntKind):Fq E→Option ((n:Int)×(E (.panic (.ifc t (.int k n)))).T)
 | ⟨.panic (.ifc t' (.int k' n)),v⟩=>if h:t'=t then if h2:k'=k then some ⟨n,h ▸ h2 ▸ v⟩ else none else none
 | _=>none
theorem Cti {E:XE→Lay} {t:TypeId} {k:IntKind} {y:Fq E} {p:(n:Int)×(E (.panic (.ifc t (.int k n)))).T} (h:Bxf E t k y=some p):y=⟨.panic (.ifc t (.int k p.1)),p.2⟩:=by
 unfold Bxf at h
 split at h
 ·rename_i t' k' n v
  split at h
  ·rename_i h1
   subst h1
   split at h
   ·rename_i h2
    subst h2
    cases h
    rfl
   ·cases h
  ·cases h
 ·cases h
def isP {E:XE→Lay} (t:TypeId) (k:IntKind) (y:Option (Fq E)):Bool:=match y with
 | some y=>(Bxf E t k y).isSome
 | none=>false
def panO {E:XE→Lay} (t:TypeId) (k:IntKind) (y:Option (Fq E)):(n:Int)×(E (.panic (.ifc t (.int k n)))).T:=match y with
 | some y=>(Bxf E t k y).getD ⟨0,(E (.panic (.ifc t (.int k 0)))).dfl⟩
 | none=>⟨0,(E (.panic (.ifc t (.int k 0)))).dfl⟩
theorem Bxg {E:XE→Lay} {t:TypeId} {k:IntKind} {n:Int} {v:(E (.panic (.ifc t (.int k n)))).T}:Bxf E t k ⟨.panic (.ifc t (.int k n)),v⟩=some ⟨n,v⟩:=by simp [Bxf]
theorem Bme {E:XE→Lay} {t:TypeId} {k:IntKind} {n:Int} {v:(E (.panic (.ifc t (.int k n)))).T}:isP t k (some (⟨.panic (.ifc t (.int k n)),v⟩:Fq E))=true:=by simp only [isP,Bxg,Option.isSome_some]
theorem Bi0 {E:XE→Lay} {t:TypeId} {k:IntKind} {n:Int} {v:(E (.panic (.ifc t (.int k n)))).T}:panO t k (some (⟨.panic (.ifc t (.int k n)),v⟩:Fq E))=⟨n,v⟩:=by simp only [panO,Bxg,Option.getD_some]
theorem D82 {E:XE→Lay} {t:TypeId} {k:IntKind} {y:Option (Fq E)} (h:isP t k y=true):y=some ⟨.panic (.ifc t (.int k (panO t k y).1)),(panO t k y).2⟩:=by
 unfold isP at h
 split at h
 ·rename_i z
  cases hc:Bxf E t k z with
  | none=>rw [hc] at h;cases h
  | some v =>
   have:=Cti hc
   subst this
   obtain ⟨n,v⟩:=v
   rw [Bi0]
 ·cases h
def finP {L:Lay} {E:XE→Lay} (t:TypeId) (k:IntKind) (es:List XE) (st:L.T→Tree (L.T⊕Fq E)) (fuel:L.T→Nat) (g:L.T):Tree (Fq E) :=
 .br (isP t k (iter st (fuel g) g)) (.leaf ⟨.panic (.ifc t (.int k (panO t k (iter st (fuel g) g)).1)),(panO t k (iter st (fuel g) g)).2⟩) (D0z (iter st (fuel g) g) es)
theorem Bxh {X:Ctx} (hX:CtxOk X) (m:Nat) (fn:FuncId) (Lt:Bie) {c:Code} (hL:∀ d ∈ Bak c,∀ f,Lt (keyOf d)=some f→Baw X.P fn d f) (L:Lay) (E:XE→Lay) (hE:∀ e,L.nx≤(E e).nx) (t:TypeId) (k:IntKind) (es:List XE) (st:L.T→Tree (L.T⊕Fq E)) (fuel:L.T→Nat)
  (hstep:∀ g,evC X.P (Bcr X m) X.pures fn X.u Lt c (L.of g) (Bet L E)=st g):Baw X.P fn c (Bav L E (finP t k es st fuel)):=by
 refine Beu hX m fn Lt hL L E hE (finP t k es st fuel) st hstep ?_
 intro g R _ hf
 obtain ⟨h1,h2⟩:=hf
 cases hp:isP t k (iter st (fuel g) g) with
 | true=>exact ⟨_,Bn4 _ g _ (D82 hp) (h1 hp)⟩
 | false =>
  obtain ⟨e,he,hr⟩:=Bxe (h2 hp)
  exact ⟨_,Bn4 _ g e he hr⟩
theorem Bft {X:Ctx} (hX:CtxOk X) (m:Nat) (fn:FuncId) {c:Code} (L:Lay) (E:XE→Lay) (hE:∀ e,L.nx≤(E e).nx) (t:TypeId) (k:IntKind) (es:List XE) (st:L.T→Tree (L.T⊕Fq E)) (fuel:L.T→Nat)
  (hstep:∀ g,evC X.P (Bcr X m) X.pures fn X.u (fun _=>none) c (L.of g) (Bet L E)=st g):Baw X.P fn c (Bav L E (finP t k es st fuel)) :=
 Bxh hX m fn (fun _=>none) (fun _ _ f h=>by simp at h) L E hE t k es st fuel hstep
section
variable {G E S α:Type} {st:G→Tree (G⊕E)}
def Boi (f:Nat→α→S→Option (S⊕E)) (ex:S→Option E):Nat→List α→S→Option E
 | _,[],s=>ex s
 | i,x::l,s=>match f i x s with
  | some (.inl s')=>Boi f ex (i+1) l s'
  | some (.inr e)=>some e
  | none=>none
theorem Bec (l:List α) (hd:Nat→S→G) (f:Nat→α→S→Option (S⊕E)) (ex:S→Option E) (Inv:Nat→S→Prop)
  (h1:∀ (i:Nat) (s:S) (hi:i<l.length),Inv i s→match f i l[i] s with
   | some (.inl s')=>(st (hd i s)).run=some (.inl (hd (i+1) s'))∧Inv (i+1) s'
   | some (.inr e)=>(st (hd i s)).run=some (.inr e)
   | none=>True)
  (h2:∀ s e,Inv l.length s→ex s=some e→(st (hd l.length s)).run=some (.inr e)) :
  ∀ (k i:Nat) (s:S) (e:E) (n:Nat),i+k=l.length→k+1≤n→Inv i s→Boi f ex i (l.drop i) s=some e→iter st n (hd i s)=some e
 | 0,i,s,e,n,hk,hn,hi,hr=>by
  have e1:i=l.length:=by omega
  subst e1
  rw [List.drop_length] at hr
  cases n with
  | zero=>omega
  | succ n=>exact Bep (h2 s e hi hr)
 | k+1,i,s,e,n,hk,hn,hi,hr=>by
  have hlt:i<l.length:=by omega
  rw [List.drop_eq_getElem_cons hlt] at hr
  have h:=h1 i s hlt hi
  simp only [Boi] at hr
  cases n with
  | zero=>omega
  | succ n =>
   cases hf:f i l[i] s with
   | none=>rw [hf] at hr;cases hr
   | some x =>
    rw [hf] at hr h
    cases x with
    | inl s' =>
     rw [Bkt h.1]
     exact Bec l hd f ex Inv h1 h2 k (i+1) s' e n (by omega) (by omega) h.2 hr
    | inr e' =>
     cases hr
     exact Bep h
end
theorem Bq9 {α E:Type} (p:α→Bool) (r:Nat→E) (d:E):∀ (l:List α) (i:Nat),Boi (fun i x (_:Unit)=>bif p x then some (.inr (r i)) else some (.inl ())) (fun _=>some d) i l ()=some (bif l.any p then r (i+l.findIdx p) else d)
 | [],i=>rfl
 | x::l,i=>by
  simp only [Boi,List.any_cons,List.findIdx_cons]
  cases p x with
  | true=>simp
  | false =>
   simp only [cond_false,Bool.false_or]
   rw [Bq9 p r d l (i+1)]
   cases l.any p with
   | true=>simp only [cond_true];congr 2;omega
   | false=>rfl
end V
end Go.Proofs.YtcfanlgpkefogaaGreat
namespace Go.Proofs.YtcfanlgpkefogaaGreat
open Go.RowKit
namespace V
theorem Dcu {X:Ctx} (hX:CtxOk X) {f:FuncId} {cs rs:List TC} {ok:TCTs cs→Bool} {F:TCTs cs→TCTs rs} (m:Nat) (T T':TCTs cs→Tree (TCTs rs))
  (hT:∀ x:TCTs cs,Bcr X m (.fn f) (Bdd cs x) Bbz 0 (Bh7 X.P rs)=T x) (h1:∀ x,ok x=true→T x=T' x) (h2:∀ x,ok x=true→WFDs cs x→(T' x).sat (fun y=>y=F x)):Bai X.P f (Bbh cs rs ok F) :=
 Bbj hX m T hT fun x h hw=>by rw [h1 x h];exact h2 x h hw
end V
end Go.Proofs.YtcfanlgpkefogaaGreat
namespace Go.Proofs.YtcfanlgpkefogaaGreat
open Go.RowKit
namespace V
end V
end Go.Proofs.YtcfanlgpkefogaaGreat
namespace Go.Proofs.YtcfanlgpkefogaaGreat
open Go.RowKit Go.ChangeShapes Go.WideShapes Go.ChangeAt
namespace V
theorem RepL.cut {σ:Env}:∀ {a b:List AV} {vs:List Value},RepL σ (a++b) vs→∃ u v,vs=u++v∧RepL σ a u∧RepL σ b v
 | [],b,vs,h=>⟨[],vs,rfl,by simp only [RepL],h⟩
 | x::a,b,vs,h=>by
  simp only [List.cons_append,RepL] at h
  obtain ⟨v,us,rfl,h1,h2⟩:=h
  obtain ⟨p,q,rfl,h3,h4⟩:=RepL.cut h2
  exact ⟨v::p,q,rfl,by simp only [RepL];exact ⟨v,p,rfl,h1,h3⟩,h4⟩
section
variable {H:Type} {enc:TypeId×Value→H}
end
end V
end Go.Proofs.YtcfanlgpkefogaaGreat
