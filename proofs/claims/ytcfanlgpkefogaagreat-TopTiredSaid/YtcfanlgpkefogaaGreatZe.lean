import Derived.Test.YtcfanlgpkefogaaGreatZa
namespace Go.Proofs.YtcfanlgpkefogaaGreat
open Go.RowKit
namespace V
def Tree.run {α:Type}:Tree α→Option α
 | .leaf a=>some a
 | .need _ _=>none
 | .br c t e=>bif c then t.run else e.run
 | .fail=>none
theorem Tree.sat_run {α:Type} {R:α→Prop}:∀ {t:Tree α} {a:α},t.run=some a→R a→t.sat R
 | .leaf b,a,h,hr=>by cases h;exact hr
 | .need _ _,_,h,_=>by cases h
 | .br c t e,a,h,hr=>by
  simp only [Tree.run] at h
  cases c with
  | true=>exact ⟨fun _=>Tree.sat_run h hr,fun h=>nomatch h⟩
  | false=>exact ⟨(fun h=>nomatch h),fun _=>Tree.sat_run h hr⟩
 | .fail,_,h,_=>by cases h
def iter {G E:Type} (st:G→Tree (G⊕E)):Nat→G→Option E
 | 0,_=>none
 | n+1,g=>match (st g).run with
  | some (.inl g')=>iter st n g'
  | some (.inr e)=>some e
  | none=>none
theorem Brv {G E:Type} {st:G→Tree (G⊕E)} {n:Nat} {g g':G} (h:(st g).run=some (.inl g')):iter st (n+1) g=iter st n g':=by
 simp only [iter]
 rw [h]
theorem Bht {G E:Type} {st:G→Tree (G⊕E)} {n:Nat} {g:G} {e:E} (h:(st g).run=some (.inr e)):iter st (n+1) g=some e:=by
 simp only [iter]
 rw [h]
theorem Bm6 {L:Lay} {E:XE→Lay} {st:L.T→Tree (L.T⊕V2 E)} {R:V2 E→Prop}:∀ (n:Nat) (g:L.T) (e:V2 E),iter st n g=some e→R e→C83 L E st R n g
 | 0,_,_,h,_=>by cases h
 | n+1,g,e,h,hr=>by
  intro _
  simp only [iter] at h
  cases hs:(st g).run with
  | none=>rw [hs] at h;cases h
  | some x =>
   rw [hs] at h
   refine Tree.sat_run hs ?_
   cases x with
   | inl g'=>exact Bm6 n g' e h hr
   | inr x=>cases h;exact fun _=>hr
mutual
def D7z:(k:SK)→SKT k
 | .d c=>Bap c
 | .o _ _=>[]
 | .p _ _ _ _=>()
 | .r c _=>Bap c
 | .f _ a c=>(dflKs a,dflKs c)
 | .ag ks=>dflKs ks
 | .y _=>()
 | .q _=>()
 | .m _ _=>fun _=>none
 | .i _ _=>0
 | .w _ _ _=>[]
def dflKs:(ks:List SK)→SKTs ks
 | []=>()
 | k::ks=>(D7z k,dflKs ks)
end
def D17:(bs:List BK)→BTs bs
 | []=>()
 | b::bs=>(dflKs b.2.2,D17 bs)
def Lay.dfl (L:Lay):L.T:=(dflKs L.ks,D17 L.bs)
def C4v (E:XE→Lay):(e:XE)→V2 E→Option (E e).T
 | .normal,⟨.normal,v⟩=>some v
 | .ret,⟨.ret,v⟩=>some v
 | .exit i,⟨.exit j,v⟩=>if h:j=i then some (h ▸ v) else none
 | _,_=>none
theorem Cny {E:XE→Lay} {e:XE} {y:V2 E} {v:(E e).T} (h:C4v E e y=some v):y=⟨e,v⟩:=by
 unfold C4v at h
 split at h
 ·cases h;rfl
 ·cases h;rfl
 ·rename_i i j v'
  split at h
  ·rename_i hij
   subst hij
   cases h;rfl
  ·cases h
 ·cases h
def isE {E:XE→Lay} (e:XE) (y:Option (V2 E)):Bool:=match y with
 | some y=>(C4v E e y).isSome
 | none=>false
def Bcg {E:XE→Lay} (e:XE) (y:Option (V2 E)):(E e).T:=match y with
 | some y=>(C4v E e y).getD (E e).dfl
 | none=>(E e).dfl
theorem D18 {E:XE→Lay} {e:XE} {y:Option (V2 E)} (h:isE e y=true):y=some ⟨e,Bcg e y⟩:=by
 unfold isE at h
 split at h
 ·rename_i z
  cases hc:C4v E e z with
  | none=>rw [hc] at h;cases h
  | some v =>
   have:=Cny hc
   subst this
   simp only [Bcg,hc,Option.getD_some]
 ·cases h
def Cuo {E:XE→Lay} (y:Option (V2 E)):List XE→Tree (V2 E)
 | []=>.fail
 | e::es=>.br (isE e y) (.leaf ⟨e,Bcg e y⟩) (Cuo y es)
theorem Bvc {E:XE→Lay} {y:Option (V2 E)} {R:V2 E→Prop}:∀ {es:List XE},(Cuo y es).sat R→∃ e,y=some e∧R e
 | [],h=>h.elim
 | e::es,h=>by
  obtain ⟨h1,h2⟩:=h
  cases hi:isE e y with
  | true=>exact ⟨_,D18 hi,h1 hi⟩
  | false=>exact Bvc (h2 hi)
def Bdg {L:Lay} {E:XE→Lay} (es:List XE) (st:L.T→Tree (L.T⊕V2 E)) (fuel:L.T→Nat) (g:L.T):Tree (V2 E):=Cuo (iter st (fuel g) g) es
theorem Bvd {X:Ctx} (hX:CtxOk X) (m:Nat) (fn:FuncId) (Lt:Bj2) {c:Code} (hL:∀ d ∈ Ban c,∀ f,Lt (keyOf d)=some f→Bb0 X.P fn d f) (L:Lay) (E:XE→Lay) (hE:∀ e,L.nx≤(E e).nx) (es:List XE) (st:L.T→Tree (L.T⊕V2 E)) (fuel:L.T→Nat)
  (hstep:∀ g,evC X.P (Bcx X m) X.pures fn X.u Lt c (L.of g) (Bew L E)=st g):Bb0 X.P fn c (Baz L E (Bdg es st fuel)):=by
 refine Be7 hX m fn Lt hL L E hE (Bdg es st fuel) st hstep ?_
 intro g R _ hf
 obtain ⟨e,he,hr⟩:=Bvc hf
 exact ⟨_,Bm6 _ g e he hr⟩
theorem Bbl {X:Ctx} (hX:CtxOk X) (m:Nat) (fn:FuncId) {c:Code} (L:Lay) (E:XE→Lay) (hE:∀ e,L.nx≤(E e).nx) (es:List XE) (st:L.T→Tree (L.T⊕V2 E)) (fuel:L.T→Nat)
  (hstep:∀ g,evC X.P (Bcx X m) X.pures fn X.u (fun _=>none) c (L.of g) (Bew L E)=st g):Bb0 X.P fn c (Baz L E (Bdg es st fuel)) :=
 Bvd hX m fn (fun _=>none) (fun _ _ f h=>by simp at h) L E hE es st fuel hstep
def Bve (E:XE→Lay) (t:TypeId) (k:IntKind):V2 E→Option ((n:Int)×(E (.panic (.ifc t (.int k n)))).T)
 | ⟨.panic (.ifc t' (.int k' n)),v⟩=>if h:t'=t then if h2:k'=k then some ⟨n,h ▸ h2 ▸ v⟩ else none else none
 | _=>none
theorem Cnz {E:XE→Lay} {t:TypeId} {k:IntKind} {y:V2 E} {p:(n:Int)×(E (.panic (.ifc t (.int k n)))).T} (h:Bve E t k y=some p):y=⟨.panic (.ifc t (.int k p.1)),p.2⟩:=by
 unfold Bve at h
 split at h
 ·rename_i t' k' n v
  split at h
  ·rename_i h1
   subst h1
   split at h
   ·rename_i h2
    subst h2
    cases h
    rfl
   ·cases h
  ·cases h
 ·cases h
def isP {E:XE→Lay} (t:TypeId) (k:IntKind) (y:Option (V2 E)):Bool:=match y with
 | some y=>(Bve E t k y).isSome
 | none=>false
def panO {E:XE→Lay} (t:TypeId) (k:IntKind) (y:Option (V2 E)):(n:Int)×(E (.panic (.ifc t (.int k n)))).T:=match y with
 | some y=>(Bve E t k y).getD ⟨0,(E (.panic (.ifc t (.int k 0)))).dfl⟩
 | none=>⟨0,(E (.panic (.ifc t (.int k 0)))).dfl⟩
theorem Bvf {E:XE→Lay} {t:TypeId} {k:IntKind} {n:Int} {v:(E (.panic (.ifc t (.int k n)))).T}:Bve E t k ⟨.panic (.ifc t (.int k n)),v⟩=some ⟨n,v⟩:=by simp [Bve]
theorem Blf {E:XE→Lay} {t:TypeId} {k:IntKind} {n:Int} {v:(E (.panic (.ifc t (.int k n)))).T}:isP t k (some (⟨.panic (.ifc t (.int k n)),v⟩:V2 E))=true:=by simp only [isP,Bvf,Option.isSome_some]
theorem Bhd {E:XE→Lay} {t:TypeId} {k:IntKind} {n:Int} {v:(E (.panic (.ifc t (.int k n)))).T}:panO t k (some (⟨.panic (.ifc t (.int k n)),v⟩:V2 E))=⟨n,v⟩:=by simp only [panO,Bvf,Option.getD_some]
theorem D19 {E:XE→Lay} {t:TypeId} {k:IntKind} {y:Option (V2 E)} (h:isP t k y=true):y=some ⟨.panic (.ifc t (.int k (panO t k y).1)),(panO t k y).2⟩:=by
 unfold isP at h
 split at h
 ·rename_i z
  cases hc:Bve E t k z with
  | none=>rw [hc] at h;cases h
  | some v =>
   have:=Cnz hc
   subst this
   obtain ⟨n,v⟩:=v
   rw [Bhd]
 ·cases h
def finP {L:Lay} {E:XE→Lay} (t:TypeId) (k:IntKind) (es:List XE) (st:L.T→Tree (L.T⊕V2 E)) (fuel:L.T→Nat) (g:L.T):Tree (V2 E) :=
 .br (isP t k (iter st (fuel g) g)) (.leaf ⟨.panic (.ifc t (.int k (panO t k (iter st (fuel g) g)).1)),(panO t k (iter st (fuel g) g)).2⟩) (Cuo (iter st (fuel g) g) es)
theorem C4w {X:Ctx} (hX:CtxOk X) (m:Nat) (fn:FuncId) (Lt:Bj2) {c:Code} (hL:∀ d ∈ Ban c,∀ f,Lt (keyOf d)=some f→Bb0 X.P fn d f) (L:Lay) (E:XE→Lay) (hE:∀ e,L.nx≤(E e).nx) (t:TypeId) (k:IntKind) (es:List XE) (st:L.T→Tree (L.T⊕V2 E)) (fuel:L.T→Nat)
  (hstep:∀ g,evC X.P (Bcx X m) X.pures fn X.u Lt c (L.of g) (Bew L E)=st g):Bb0 X.P fn c (Baz L E (finP t k es st fuel)):=by
 refine Be7 hX m fn Lt hL L E hE (finP t k es st fuel) st hstep ?_
 intro g R _ hf
 obtain ⟨h1,h2⟩:=hf
 cases hp:isP t k (iter st (fuel g) g) with
 | true=>exact ⟨_,Bm6 _ g _ (D19 hp) (h1 hp)⟩
 | false =>
  obtain ⟨e,he,hr⟩:=Bvc (h2 hp)
  exact ⟨_,Bm6 _ g e he hr⟩
theorem Bm7 {X:Ctx} (hX:CtxOk X) (m:Nat) (fn:FuncId) {c:Code} (L:Lay) (E:XE→Lay) (hE:∀ e,L.nx≤(E e).nx) (t:TypeId) (k:IntKind) (es:List XE) (st:L.T→Tree (L.T⊕V2 E)) (fuel:L.T→Nat)
  (hstep:∀ g,evC X.P (Bcx X m) X.pures fn X.u (fun _=>none) c (L.of g) (Bew L E)=st g):Bb0 X.P fn c (Baz L E (finP t k es st fuel)) :=
 C4w hX m fn (fun _=>none) (fun _ _ f h=>by simp at h) L E hE t k es st fuel hstep
section
variable {G E S α:Type} {st:G→Tree (G⊕E)}
def Bqb (f:Nat→α→S→Option (S⊕E)) (ex:S→Option E):Nat→List α→S→Option E
 | _,[],s=>ex s
 | i,x::l,s=>match f i x s with
  | some (.inl s')=>Bqb f ex (i+1) l s'
  | some (.inr e)=>some e
  | none=>none
theorem Bec (l:List α) (hd:Nat→S→G) (f:Nat→α→S→Option (S⊕E)) (ex:S→Option E) (Inv:Nat→S→Prop)
  (h1:∀ (i:Nat) (s:S) (hi:i<l.length),Inv i s→match f i l[i] s with
   | some (.inl s')=>(st (hd i s)).run=some (.inl (hd (i+1) s'))∧Inv (i+1) s'
   | some (.inr e)=>(st (hd i s)).run=some (.inr e)
   | none=>True)
  (h2:∀ s e,Inv l.length s→ex s=some e→(st (hd l.length s)).run=some (.inr e)) :
  ∀ (k i:Nat) (s:S) (e:E) (n:Nat),i+k=l.length→k+1≤n→Inv i s→Bqb f ex i (l.drop i) s=some e→iter st n (hd i s)=some e
 | 0,i,s,e,n,hk,hn,hi,hr=>by
  have e1:i=l.length:=by omega
  subst e1
  rw [List.drop_length] at hr
  cases n with
  | zero=>omega
  | succ n=>exact Bht (h2 s e hi hr)
 | k+1,i,s,e,n,hk,hn,hi,hr=>by
  have hlt:i<l.length:=by omega
  rw [List.drop_eq_getElem_cons hlt] at hr
  have h:=h1 i s hlt hi
  simp only [Bqb] at hr
  cases n with
  | zero=>omega
  | succ n =>
   cases hf:f i l[i] s with
   | none=>rw [hf] at hr;cases hr
   | some x =>
    rw [hf] at hr h
    cases x with
    | inl s' =>
     rw [Brv h.1]
     exact Bec l hd f ex Inv h1 h2 k (i+1) s' e n (by omega) (by omega) h.2 hr
    | inr e' =>
     cases hr
     exact Bht h
end
theorem Bp8 {α E:Type} (p:α→Bool) (r:Nat→E) (d:E):∀ (l:List α) (i:Nat),Bqb (fun i x (_:Unit)=>bif p x then some (.inr (r i)) else some (.inl ())) (fun _=>some d) i l ()=some (bif l.any p then r (i+l.findIdx p) else d)
 | [],i=>rfl
 | x::l,i=>by
  simp only [Bqb,List.any_cons,List.findIdx_cons]
  cases p x with
  | true=>simp
  | false =>
   simp only [cond_false,Bool.false_or]
   rw [Bp8 p r d l (i+1)]
   cases l.any p with
   | true=>simp only [cond_true];congr 2;omega
   | false=>rfl
end V
end Go.Proofs.YtcfanlgpkefogaaGreat
namespace Go.Proofs.YtcfanlgpkefogaaGreat
open Go.RowKit
namespace V
theorem D59 {X:Ctx} (hX:CtxOk X) {f:FuncId} {cs rs:List TC} {ok:TCTs cs→Bool} {F:TCTs cs→TCTs rs} (m:Nat) (T T':TCTs cs→Tree (TCTs rs))
  (hT:∀ x:TCTs cs,Bcx X m (.fn f) (Bdi cs x) Bbx 0 (Bgt X.P rs)=T x) (h1:∀ x,ok x=true→T x=T' x) (h2:∀ x,ok x=true→WFDs cs x→(T' x).sat (fun y=>y=F x)):Bai X.P f (Bbe cs rs ok F) :=
 Bbg hX m T hT fun x h hw=>by rw [h1 x h];exact h2 x h hw
end V
end Go.Proofs.YtcfanlgpkefogaaGreat
namespace Go.Proofs.YtcfanlgpkefogaaGreat
open Go.RowKit
namespace V
end V
end Go.Proofs.YtcfanlgpkefogaaGreat
namespace Go.Proofs.YtcfanlgpkefogaaGreat
open Go.RowKit Go.ChangeShapes Go.WideShapes Go.ChangeAt
namespace V
theorem RepL.cut {σ:Env}:∀ {a b:List AV} {vs:List Value},RepL σ (a++b) vs→∃ u v,vs=u++v∧RepL σ a u∧RepL σ b v
 | [],b,vs,h=>⟨[],vs,rfl,by simp only [RepL],h⟩
 | x::a,b,vs,h=>by
  simp only [List.cons_append,RepL] at h
  obtain ⟨v,us,rfl,h1,h2⟩:=h
  obtain ⟨p,q,rfl,h3,h4⟩:=RepL.cut h2
  exact ⟨v::p,q,rfl,by simp only [RepL];exact ⟨v,p,rfl,h1,h3⟩,h4⟩
section
variable {H:Type} {enc:TypeId×Value→H}
end
end V
end Go.Proofs.YtcfanlgpkefogaaGreat
