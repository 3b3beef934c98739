import Derived.Test.YtlangijnealfjaaGreatVC
namespace Go.Proofs.YtlangijnealfjaaGreat
open Go.RowKit
namespace V
def Gk:List Nat→Nat→Option Nat
 | [],_=>none
 | j::l,i=>bif Nat.beq j i then some 0 else match Gk l i with
  | some k=>some (k+1)
  | none=>none
mutual
def Il (f:Nat→Option Nat):AV→AV
 | .bool b=>.bool b
 | .int k n=>.int k n
 | .ptr id row st col=>match f id with
  | some k=>.ptr k row st col
  | none=>.top
 | .nilp=>.nilp
 | .sl id off st len cap=>match f id with
  | some k=>.sl k off st len cap
  | none=>.top
 | .val v=>.val v
 | .agg cs=>.agg (renL f cs)
 | .tup cs=>.tup (renL f cs)
 | .fn g a c=>.fn g (renL f a) (renL f c)
 | .ro c xs=>.ro c xs
 | .rop c x col=>.rop c x col
 | .own id=>match f id with
  | some k=>.own k
  | none=>.top
 | .mp id=>match f id with
  | some k=>.mp k
  | none=>.top
 | .yld id=>match f id with
  | some k=>.yld k
  | none=>.top
 | .stp id=>match f id with
  | some k=>.stp k
  | none=>.top
 | .ifc t x=>.ifc t (Il f x)
 | .top=>.top
def renL (f:Nat→Option Nat):List AV→List AV
 | []=>[]
 | x::xs=>Il f x::renL f xs
end
def Oh (f:Nat→Option Nat):Ob→Option Ob
 | .blk b=>some (.blk ⟨b.ty,renL f b.cs⟩)
 | .arr A=>some (.arr A)
 | .mp M=>some (.mp ⟨M.kc,M.vc,M.get,[]⟩)
 | _=>none
def Vb (ids:List Nat) (hp:Aj):Aj:=fun k=>match nth ids k with
 | some id=>match hp id with
  | some o=>Oh (Gk ids) o
  | none=>none
 | none=>none
def A4c (ids:List Nat) (nx k:Nat):Nat:=match nth ids k with
 | some id=>id
 | none=>nx+(k-Bp ids)
def Cc (ids:List Nat) (nx i:Nat):Option Nat:=match Gk ids i with
 | some k=>some k
 | none=>bif Nat.ble nx i then some (Bp ids+(i-nx)) else none
def Pz (ids:List Nat) (nx:Nat) (hp hpc:Aj):Aj:=fun i=>match Cc ids nx i with
 | some k=>match hpc k with
  | some o=>Oh (fun k=>some (A4c ids nx k)) o
  | none=>none
 | none=>hp i
structure RenRel (f:Nat→Option Nat) (σ τ:Env):Prop where
 at_:∀ i k b,f i=some k→σ i=some b→τ k=some b
 sv:∀ i k v,f i=some k→σ.sv i=some v→τ.sv k=some v
 mem:∀ b o v,σ.mem b o=some v→τ.mem b o=some v
mutual
theorem A4d {f:Nat→Option Nat} {σ τ:Env} (h:RenRel f σ τ):∀ (x:AV) (v:Value),Rep σ x v→Rep τ (Il f x) v
 | .bool _,_,k=>by simpa only [Il,Rep] using k
 | .int _ _,_,k=>by simpa only [Il,Rep] using k
 | .ptr id row st col,v,k=>by
  simp only [Rep] at k
  obtain ⟨b,k1,k2⟩:=k
  simp only [Il]
  split
  ·rename_i j hj;simp only [Rep];exact ⟨b,h.at_ _ _ _ hj k1,k2⟩
  ·simp only [Rep]
 | .nilp,_,k=>by simpa only [Il,Rep] using k
 | .sl id off st len cap,v,k=>by
  simp only [Rep] at k
  obtain ⟨k1,k2,b,k3,k4⟩:=k
  simp only [Il]
  split
  ·rename_i j hj;simp only [Rep];exact ⟨k1,k2,b,h.at_ _ _ _ hj k3,k4⟩
  ·simp only [Rep]
 | .val _,_,k=>by simpa only [Il,Rep] using k
 | .agg cs,v,k=>by
  simp only [Rep] at k
  obtain ⟨vs,k1,k2⟩:=k
  simp only [Il,Rep]
  exact ⟨vs,renL_rep h cs vs k1,k2⟩
 | .tup cs,v,k=>by
  simp only [Rep] at k
  obtain ⟨vs,k1,k2⟩:=k
  simp only [Il,Rep]
  exact ⟨vs,renL_rep h cs vs k1,k2⟩
 | .fn g a c,v,k=>by
  simp only [Rep] at k
  obtain ⟨x,y,k1,k2,k3⟩:=k
  simp only [Il,Rep]
  exact ⟨x,y,renL_rep h a x k1,renL_rep h c y k2,k3⟩
 | .ro c xs,v,k=>by
  simp only [Rep] at k
  simp only [Il,Rep]
  exact RepD.mono h.mem (.sl c) xs [v] k
 | .rop c x col,v,k=>by
  simp only [Rep] at k
  obtain ⟨b,o,vs,k1,k2,k3⟩:=k
  simp only [Il,Rep]
  exact ⟨b,o,vs,k1,k2.mono h.mem,RepD.mono h.mem c x vs k3⟩
 | .own id,v,k=>by
  simp only [Rep] at k
  simp only [Il]
  split
  ·rename_i j hj;simp only [Rep];exact ⟨h.sv _ _ _ hj k.1,k.2⟩
  ·simp only [Rep]
 | .mp id,v,k=>by
  simp only [Rep] at k
  obtain ⟨b,k1,k2⟩:=k
  simp only [Il]
  split
  ·rename_i j hj;simp only [Rep];exact ⟨b,h.at_ _ _ _ hj k1,k2⟩
  ·simp only [Rep]
 | .yld id,v,k=>by
  simp only [Rep] at k
  obtain ⟨b,k1,k2⟩:=k
  simp only [Il]
  split
  ·rename_i j hj;simp only [Rep];exact ⟨b,h.at_ _ _ _ hj k1,k2⟩
  ·simp only [Rep]
 | .stp id,v,k=>by
  simp only [Rep] at k
  simp only [Il]
  split
  ·rename_i j hj;simp only [Rep];exact ⟨h.sv _ _ _ hj k.1,k.2⟩
  ·simp only [Rep]
 | .ifc t x,v,k=>by
  simp only [Rep] at k
  obtain ⟨u,k1,k2⟩:=k
  simp only [Il,Rep]
  exact ⟨u,A4d h x u k1,k2⟩
 | .top,_,_=>by simp only [Il,Rep]
theorem renL_rep {f:Nat→Option Nat} {σ τ:Env} (h:RenRel f σ τ):∀ (xs:List AV) (vs:List Value),RepL σ xs vs→RepL τ (renL f xs) vs
 | [],_,k=>by simpa only [renL,RepL] using k
 | x::xs,vs,k=>by
  simp only [RepL] at k
  obtain ⟨v,us,k1,k2,k3⟩:=k
  simp only [renL,RepL]
  exact ⟨v,us,k1,A4d h x v k2,renL_rep h xs us k3⟩
end
theorem Yl {B:Nat} {f:Nat→Option Nat} {σ τ:Env} {w:World} {i k:Nat} {o o':Ob} (h:RenRel f σ τ) (hat:τ k=σ i) (hsv:∀ v,σ.sv i=some v→τ.sv k=some v) (ho:Oh f o=some o') (hr:ObRel B σ w i o):ObRel B τ w k o':=by
 cases o with
 | blk b =>
  simp only [Oh,Option.some.injEq] at ho
  subst ho
  obtain ⟨n,vs,h1,h2,h3,h4⟩:=hr
  exact ⟨n,vs,hat.trans h1,h2,renL_rep h _ _ h3,h4⟩
 | arr A =>
  simp only [Oh,Option.some.injEq] at ho
  subst ho
  obtain ⟨v,us,h1,h2,h3,h4,h5⟩:=hr
  exact ⟨v,us,hsv _ h1,h2,LR.mono (fun x vs=>RepD.mono h.mem A.c x vs) h3,h4,fun n=>by rw [hat];exact h5 n⟩
 | mp M =>
  simp only [Oh,Option.some.injEq] at ho
  subst ho
  obtain ⟨n,es,clock,h1,h2,h3,h4⟩:=hr
  obtain ⟨kc,vc,get,ents⟩:=M
  exact ⟨n,es,clock,hat.trans h1,h2,(h3.mono h.mem (fun _ _ h=>h)).drop,h4⟩
 | _=>simp [Oh] at ho
theorem Fl {ids:List Nat} {i k:Nat} (h:Gk ids i=some k):ids[k]? = some i:=by
 induction ids generalizing k with
 | nil=>simp [Gk] at h
 | cons j l ih =>
  simp only [Gk] at h
  cases hb:Nat.beq j i with
  | true=>rw [hb,cond_true] at h;cases h;simp [Nat.eq_of_beq_eq_true hb]
  | false =>
   rw [hb,cond_false] at h
   split at h
   ·rename_i k' hk'
    cases h
    simpa using ih hk'
   ·cases h
theorem Vd {ids:List Nat} {i:Nat} (h:Gk ids i=none):i ∉ ids:=by
 induction ids with
 | nil=>simp
 | cons j l ih =>
  simp only [Gk] at h
  cases hb:Nat.beq j i with
  | true=>rw [hb,cond_true] at h;cases h
  | false =>
   rw [hb,cond_false] at h
   split at h
   ·cases h
   ·rename_i hk
    intro hm
    rcases List.mem_cons.1 hm with rfl | hm
    ·simp at hb
    ·exact ih hk hm
theorem A4e {ids:List Nat} (h:ids.Nodup) {j k i:Nat} (hj:ids[j]? = some i) (hk:ids[k]? = some i):j=k:=by
 obtain ⟨h1,h2⟩:=List.getElem?_eq_some_iff.1 hj
 obtain ⟨h3,h4⟩:=List.getElem?_eq_some_iff.1 hk
 have hp:=List.pairwise_iff_getElem.1 h
 rcases Nat.lt_trichotomy j k with x | x | x
 ·exact absurd (h2.trans h4.symm) (hp j k h1 h3 x)
 ·exact x
 ·exact absurd (h4.trans h2.symm) (hp k j h3 h1 x)
theorem Aji {ids:List Nat} (h:ids.Nodup) {k i:Nat} (hk:ids[k]? = some i):Gk ids i=some k:=by
 cases hc:Gk ids i with
 | none=>exact absurd (List.mem_of_getElem? hk) (Vd hc)
 | some j=>rw [A4e h (Fl hc) hk]
noncomputable def Dl (ids:List Nat) (σ:Env) (hp:Aj) (w:World):Env where
 at_ k:=match ids[k]? with
  | some id=>σ id
  | none=>none
 sv k:=match ids[k]? with
  | some id=>σ.sv id
  | none=>none
 mem:=σ.mem
 low:=σ.low
 kp n:=open Classical in if ∃ i,i ∉ ids∧hp i≠none∧σ i=some n then w.heap[n]? else σ.kp n
 sz:=w.heap.size
 dd k:=match ids[k]? with
  | some id=>σ.dd id
  | none=>false
 ds k:=match ids[k]? with
  | some id=>σ.ds id
  | none=>false
theorem Gz {ids:List Nat} {σ:Env} {hp:Aj} {w:World} {k id:Nat} (h:ids[k]? = some id):Dl ids σ hp w k=σ id:=by
 show (match ids[k]? with | some id=>σ id | none=>none)=_;rw [h]
theorem Lu {ids:List Nat} {σ:Env} {hp:Aj} {w:World} {k id:Nat} (h:ids[k]? = some id):(Dl ids σ hp w).sv k=σ.sv id:=by
 show (match ids[k]? with | some id=>σ.sv id | none=>none)=_;rw [h]
theorem Kt {ids:List Nat} {σ:Env} {hp:Aj} {w:World} {k:Nat} (h:ids.length≤k):Dl ids σ hp w k=none∧(Dl ids σ hp w).sv k=none:=by
 have:ids[k]? = none:=List.getElem?_eq_none h
 constructor
 ·show (match ids[k]? with | some id=>σ id | none=>none)=_;rw [this]
 ·show (match ids[k]? with | some id=>σ.sv id | none=>none)=_;rw [this]
theorem A80 {ids:List Nat} (σ:Env) (hp:Aj) (w:World):RenRel (Gk ids) σ (Dl ids σ hp w) :=
 ⟨fun _ _ _ h k=>(Gz (Fl h)).trans k,fun _ _ _ h k=>(Lu (Fl h)).trans k,fun _ _ _ h=>h⟩
theorem Mx {ids:List Nat} {hp:Aj} {k:Nat} {o:Ob} (h:Vb ids hp k=some o):∃ id o',ids[k]? = some id∧hp id=some o'∧Oh (Gk ids) o'=some o:=by
 unfold Vb at h
 split at h
 ·rename_i id hid
  split at h
  ·rename_i o' ho'
   rw [Cr] at hid
   exact ⟨id,o',hid,ho',h⟩
  ·cases h
 ·cases h
theorem HRel.cut {B:Nat} {σ:Env} {hp:Aj} {nx:Nat} {w:World} (h:HRel B σ hp nx w) {ids:List Nat} (hn:ids.Nodup):HRel B (Dl ids σ hp w) (Vb ids hp) ids.length w:=by
 have live:∀ k,Vb ids hp k≠none→∃ id,ids[k]? = some id∧hp id≠none:=by
  intro k hk
  cases ho:Vb ids hp k with
  | none=>exact absurd ho hk
  | some o =>
   obtain ⟨id,o',h1,h2,_⟩:=Mx ho
   exact ⟨id,h1,by rw [h2];simp⟩
 have hin:∀ k n,Vb ids hp k≠none→Dl ids σ hp w k=some n→∃ id,ids[k]? = some id∧hp id≠none∧σ id=some n:=by
  intro k n hk hkn
  obtain ⟨id,h1,h2⟩:=live k hk
  rw [Gz h1] at hkn
  exact ⟨id,h1,h2,hkn⟩
 refine ⟨fun k o ho=>?_,fun i j n hi hj h1 h2=>?_,fun k hk=>?_,fun k n hk=>?_,h.mem,fun k n hk hkn o=>?_,h.low,⟨Nat.le_refl _,fun n o hno=>?_,fun k n hk hkn=>?_,fun n o v hv=>?_⟩,⟨fun k hk=>?_,fun k hk=>?_,fun k hk=>?_⟩⟩
 ·obtain ⟨id,o',h1,h2,h3⟩:=Mx ho
  exact Yl (A80 σ hp w) (Gz h1) (fun v hv=>(Lu h1).trans hv) h3 (h.ob id o' h2)
 ·obtain ⟨a,a1,a2,a3⟩:=hin i n hi h1
  obtain ⟨b,b1,b2,b3⟩:=hin j n hj h2
  have:=h.inj a b n a2 b2 a3 b3
  subst this
  exact A4e hn a1 b1
 ·refine ⟨(Kt hk).1,(Kt hk).2,?_⟩
  cases ho:Vb ids hp k with
  | none=>rfl
  | some o =>
   obtain ⟨id,o',h1,_⟩:=Mx ho
   rw [List.getElem?_eq_none hk] at h1;cases h1
 ·cases hc:ids[k]? with
  | none=>rw [(Kt (List.getElem?_eq_none_iff.1 hc)).1] at hk;cases hk
  | some id=>rw [Gz hc] at hk;exact h.bound id n hk
 ·obtain ⟨id,h1,h2,h3⟩:=hin k n hk hkn
  exact h.sep id n h2 h3 o
 ·simp only [Dl] at hno
  split at hno
  ·exact hno
  ·exact h.kp.ok n o hno
 ·obtain ⟨id,h1,h2,h3⟩:=hin k n hk hkn
  simp only [Dl]
  split
  ·rename_i hex
   obtain ⟨i,i1,i2,i3⟩:=hex
   have:=h.inj i id n i2 h2 i3 h3
   subst this
   exact absurd (List.mem_of_getElem? h1) i1
  ·exact h.kp.sep id n h2 h3
 ·simp only [Dl]
  split
  ·rename_i hex
   obtain ⟨i,i1,i2,i3⟩:=hex
   rw [show (Dl ids σ hp w).mem n o=σ.mem n o from rfl] at hv
   rw [h.sep i n i2 i3 o] at hv;cases hv
  ·exact h.kp.mem n o v hv
 ·have e1:(Dl ids σ hp w).dd k=match ids[k]? with | some id=>σ.dd id | none=>false:=rfl
  have e2:(Dl ids σ hp w).ds k=match ids[k]? with | some id=>σ.ds id | none=>false:=rfl
  rw [e1,e2] at hk
  cases hc:ids[k]? with
  | none=>rw [hc] at hk;simp at hk
  | some id=>exact (List.getElem?_eq_some_iff.1 hc).1
 ·have e1:(Dl ids σ hp w).dd k=match ids[k]? with | some id=>σ.dd id | none=>false:=rfl
  rw [e1] at hk
  cases hc:ids[k]? with
  | none=>rw [hc] at hk;simp at hk
  | some id=>rw [hc] at hk;exact (Gz hc).trans (h.rs.at_ id hk)
 ·have e1:(Dl ids σ hp w).ds k=match ids[k]? with | some id=>σ.ds id | none=>false:=rfl
  rw [e1] at hk
  cases hc:ids[k]? with
  | none=>rw [hc] at hk;simp at hk
  | some id=>rw [hc] at hk;exact (Lu hc).trans (h.rs.sv id hk)
def F5 (ids:List Nat) (nx:Nat) (σ τ:Env):Env where
 at_ i:=match Cc ids nx i with
  | some k=>τ k
  | none=>σ i
 sv i:=match Cc ids nx i with
  | some k=>τ.sv k
  | none=>σ.sv i
 mem:=τ.mem
 low:=σ.low
 kp:=σ.kp
 sz:=σ.sz
 dd:=σ.dd
 ds:=σ.ds
theorem Be {ids:List Nat} {nx:Nat} {σ τ:Env} {i k:Nat} (h:Cc ids nx i=some k):F5 ids nx σ τ i=τ k∧(F5 ids nx σ τ).sv i=τ.sv k:=by
 constructor
 ·show (match Cc ids nx i with | some k=>τ k | none=>σ i)=_;rw [h]
 ·show (match Cc ids nx i with | some k=>τ.sv k | none=>σ.sv i)=_;rw [h]
theorem C9 {ids:List Nat} {nx:Nat} {σ τ:Env} {i:Nat} (h:Cc ids nx i=none):F5 ids nx σ τ i=σ i∧(F5 ids nx σ τ).sv i=σ.sv i:=by
 constructor
 ·show (match Cc ids nx i with | some k=>τ k | none=>σ i)=_;rw [h]
 ·show (match Cc ids nx i with | some k=>τ.sv k | none=>σ.sv i)=_;rw [h]
theorem A81 {ids:List Nat} {nx i:Nat} (h:Cc ids nx i=none):i ∉ ids∧i<nx:=by
 unfold Cc at h
 split at h
 ·cases h
 ·rename_i hi
  refine ⟨Vd hi,?_⟩
  cases hb:Nat.ble nx i with
  | true=>rw [hb,cond_true] at h;cases h
  | false =>
        rcases Nat.lt_or_ge i nx with k | k
        ·exact k
        ·rw [Nat.ble_eq_true_of_le k] at hb;cases hb
theorem Fo {ids:List Nat} {nx i k:Nat} (h:Cc ids nx i=some k):ids[k]? = some i∨(nx≤i∧k=ids.length+(i-nx)):=by
 unfold Cc at h
 split at h
 ·rename_i j hj;cases h;exact .inl (Fl hj)
 ·cases hb:Nat.ble nx i with
  | true=>rw [hb,cond_true] at h;cases h;exact .inr ⟨Nat.le_of_ble_eq_true hb,by rw [B8]⟩
  | false=>rw [hb,cond_false] at h;cases h
theorem R2 {ids:List Nat} {nx:Nat} (hn:ids.Nodup) (hlt:∀ id ∈ ids,id<nx) (k:Nat):Cc ids nx (A4c ids nx k)=some k:=by
 unfold A4c
 rw [Cr]
 cases hc:ids[k]? with
 | some id=>simp only [Cc,Aji hn hc]
 | none =>
  simp only [Cc,B8]
  have hk:=List.getElem?_eq_none_iff.1 hc
  have hno:Gk ids (nx+(k-ids.length))=none:=by
   cases hx:Gk ids (nx+(k-ids.length)) with
   | none=>rfl
   | some j =>
    have:=hlt _ (List.mem_of_getElem? (Fl hx))
    omega
  rw [hno]
  simp only [Nat.ble_eq_true_of_le (Nat.le_add_right nx (k-ids.length)),cond_true,Option.some.injEq]
  omega
theorem Adu {ids:List Nat} {nx:Nat} {i j k:Nat} (_hlt:∀ id ∈ ids,id<nx) (h1:Cc ids nx i=some k) (h2:Cc ids nx j=some k):i=j:=by
 rcases Fo h1 with a | ⟨a,a'⟩ <;> rcases Fo h2 with b | ⟨b,b'⟩
 ·rw [a] at b;exact Option.some.inj b
 ·have:=(List.getElem?_eq_some_iff.1 a).1;omega
 ·have:=(List.getElem?_eq_some_iff.1 b).1;omega
 ·omega
theorem A4f {ids:List Nat} {nx:Nat} (hn:ids.Nodup) (hlt:∀ id ∈ ids,id<nx) (σ τ:Env):RenRel (fun k=>some (A4c ids nx k)) τ (F5 ids nx σ τ):=by
 refine ⟨fun k i b h hk=>?_,fun k i v h hk=>?_,fun _ _ _ h=>h⟩
 ·cases h;exact (Be (R2 hn hlt k)).1.trans hk
 ·cases h;exact (Be (R2 hn hlt k)).2.trans hk
theorem HRel.back {B:Nat} {σ τ:Env} {hp hpc:Aj} {nx nxc:Nat} {w w':World} (h:HRel B σ hp nx w) {ids:List Nat} (hn:ids.Nodup) (hlt:∀ id ∈ ids,id<nx) (hx:Ext (Dl ids σ hp w) τ) (hc:HRel B τ hpc nxc w') (hnx:ids.length≤nxc) :
  Ext σ (F5 ids nx σ τ)∧HRel B (F5 ids nx σ τ) (Pz ids nx hp hpc) (nx+(nxc-ids.length)) w':=by
 have hext:Ext σ (F5 ids nx σ τ):=by
  refine ⟨fun i b hi=>?_,fun b o v hv=>hx.2 b o v hv,fun i v hi=>?_,rfl,rfl,rfl,rfl,rfl⟩
  ·cases hp':Cc ids nx i with
   | none=>exact (C9 hp').1.trans hi
   | some k =>
    rcases Fo hp' with a | ⟨a,_⟩
    ·rw [(Be hp').1]
     exact hx.1 k b ((Gz a).trans hi)
    ·rw [(h.fresh i a).1] at hi;cases hi
  ·cases hp':Cc ids nx i with
   | none=>exact (C9 hp').2.trans hi
   | some k =>
    rcases Fo hp' with a | ⟨a,_⟩
    ·rw [(Be hp').2]
     exact hx.3 k v ((Lu a).trans hi)
    ·rw [(h.fresh i a).2.1] at hi;cases hi
 have hkp:τ.kp=(Dl ids σ hp w).kp:=hx.5.1
 have hsz:w.heap.size≤w'.heap.size:=by
  have:=hc.kp.sz
  rw [hx.5.2.1] at this
  exact this
 have inner:∀ i k,Cc ids nx i=some k→Pz ids nx hp hpc i=match hpc k with | some o=>Oh (fun k=>some (A4c ids nx k)) o | none=>none:=by
  intro i k hk
  unfold Pz
  rw [hk]
 have outer:∀ i,Cc ids nx i=none→Pz ids nx hp hpc i=hp i:=by
  intro i hk
  unfold Pz
  rw [hk]
 have liveIn:∀ i k,Cc ids nx i=some k→Pz ids nx hp hpc i≠none→hpc k≠none:=by
  intro i k hk hl e
  rw [inner i k hk,e] at hl
  exact hl rfl
 have cut_out:∀ i n,Cc ids nx i=none→hp i≠none→σ i=some n→(Dl ids σ hp w).kp n=w.heap[n]? := by
  intro i n hk hl hin
  simp only [Dl]
  rw [if_pos ⟨i,(A81 hk).1,hl,hin⟩]
 have cut_ne:∀ i n,Cc ids nx i=none→hp i≠none→σ i=some n→τ.kp n≠none:=by
  intro i n hk hl hin
  rw [hkp,cut_out i n hk hl hin]
  have:=h.bound i n hin
  rw [Array.getElem?_eq_getElem this];simp
 have kp_keep:∀ n o,σ.kp n=some o→τ.kp n=some o:=by
  intro n o ho
  rw [hkp]
  simp only [Dl]
  split
  ·exact h.kp.ok n o ho
  ·exact ho
 refine ⟨hext,⟨fun i o ho=>?_,fun i j n hi hj h1 h2=>?_,fun i hi=>?_,fun i n hi=>?_,hc.mem,fun i n hi h1 o=>?_,fun b o v hv hlt'=>?_,⟨Nat.le_trans h.kp.sz hsz,fun n o ho=>?_,fun i n hi h1=>?_,fun n o v hv=>?_⟩,⟨fun i hi=>Nat.lt_of_lt_of_le (h.rs.lt i hi) (Nat.le_add_right _ _),fun i hi=>?_,fun i hi=>?_⟩⟩⟩
 ·cases hk:Cc ids nx i with
  | none =>
   rw [outer i hk] at ho
   refine (h.ob i o ho).keep hext (C9 hk).1 fun n hin=>?_
   have hl:hp i≠none:=by rw [ho];simp
   have e:=cut_out i n hk hl hin
   have hb:=h.bound i n hin
   rw [Array.getElem?_eq_getElem hb] at e
   rw [← hkp] at e
   rw [hc.kp.ok n _ e,Array.getElem?_eq_getElem hb]
  | some k =>
   rw [inner i k hk] at ho
   cases hck:hpc k with
   | none=>rw [hck] at ho;cases ho
   | some o' =>
    rw [hck] at ho
    exact Yl (A4f hn hlt σ τ) (Be hk).1 (fun v hv=>(Be hk).2.trans hv) ho (hc.ob k o' hck)
 ·cases hki:Cc ids nx i with
  | none =>
   rw [(C9 hki).1] at h1
   have hli:hp i≠none:=by rw [← outer i hki];exact hi
   cases hkj:Cc ids nx j with
   | none =>
    rw [(C9 hkj).1] at h2
    exact h.inj i j n hli (by rw [← outer j hkj];exact hj) h1 h2
   | some b =>
    rw [(Be hkj).1] at h2
    exact absurd (hc.kp.sep b n (liveIn j b hkj hj) h2) (cut_ne i n hki hli h1)
  | some a =>
   rw [(Be hki).1] at h1
   cases hkj:Cc ids nx j with
   | none =>
    rw [(C9 hkj).1] at h2
    exact absurd (hc.kp.sep a n (liveIn i a hki hi) h1) (cut_ne j n hkj (by rw [← outer j hkj];exact hj) h2)
   | some b =>
    rw [(Be hkj).1] at h2
    have:=hc.inj a b n (liveIn i a hki hi) (liveIn j b hkj hj) h1 h2
    subst this
    exact Adu hlt hki hkj
 ·have hk:Cc ids nx i=some (ids.length+(i-nx)):=by
   have hno:Gk ids i=none:=by
    cases hx:Gk ids i with
    | none=>rfl
    | some j=>have:=hlt _ (List.mem_of_getElem? (Fl hx));omega
   simp only [Cc,hno,B8,Nat.ble_eq_true_of_le (show nx≤i by omega),cond_true]
  obtain ⟨f1,f2,f3⟩:=hc.fresh (ids.length+(i-nx)) (by omega)
  refine ⟨(Be hk).1.trans f1,(Be hk).2.trans f2,?_⟩
  rw [inner i _ hk,f3]
 ·cases hk:Cc ids nx i with
  | none=>rw [(C9 hk).1] at hi;exact Nat.lt_of_lt_of_le (h.bound i n hi) hsz
  | some k=>rw [(Be hk).1] at hi;exact hc.bound k n hi
 ·cases hk:Cc ids nx i with
  | none =>
   rw [(C9 hk).1] at h1
   have hli:hp i≠none:=by rw [← outer i hk];exact hi
   cases hm:(F5 ids nx σ τ).mem n o with
   | none=>rfl
   | some v=>exact absurd (hc.kp.mem n o v hm) (cut_ne i n hk hli h1)
  | some k =>
   rw [(Be hk).1] at h1
   exact hc.sep k n (liveIn i k hk hi) h1 o
 ·have:=hc.low b o v hv hlt'
  rw [hx.4] at this
  exact this
 ·exact hc.kp.ok n o (kp_keep n o ho)
 ·cases hs:(F5 ids nx σ τ).kp n with
  | none=>rfl
  | some o =>
   exfalso
   have hs':σ.kp n=some o:=hs
   cases hk:Cc ids nx i with
   | none =>
    rw [(C9 hk).1] at h1
    rw [h.kp.sep i n (by rw [← outer i hk];exact hi) h1] at hs';cases hs'
   | some k =>
    rw [(Be hk).1] at h1
    have:=hc.kp.sep k n (liveIn i k hk hi) h1
    rw [kp_keep n o hs'] at this;cases this
 ·cases hs:(F5 ids nx σ τ).kp n with
  | none=>rfl
  | some o' =>
   have:=hc.kp.mem n o v hv
   rw [kp_keep n o' hs] at this;cases this
 ·have hi:σ.dd i=true:=hi
  cases hk:Cc ids nx i with
  | none=>exact (C9 hk).1.trans (h.rs.at_ i hi)
  | some k =>
   rcases Fo hk with a | ⟨a,_⟩
   ·have hd:τ.dd k=true:=by
     rw [hx.5.2.2.1]
     show (match ids[k]? with | some id=>σ.dd id | none=>false)=true
     rw [a];exact hi
    exact (Be hk).1.trans (hc.rs.at_ k hd)
   ·have:=h.rs.lt i (.inl hi);omega
 ·have hi:σ.ds i=true:=hi
  cases hk:Cc ids nx i with
  | none=>exact (C9 hk).2.trans (h.rs.sv i hi)
  | some k =>
   rcases Fo hk with a | ⟨a,_⟩
   ·have hd:τ.ds k=true:=by
     rw [hx.5.2.2.2]
     show (match ids[k]? with | some id=>σ.ds id | none=>false)=true
     rw [a];exact hi
    exact (Be hk).2.trans (hc.rs.sv k hd)
   ·have:=h.rs.lt i (.inr hi);omega
structure FLay where
 ks:List SK
 bs:List BK
 nx:Nat
@[reducible] def FLay.T (F:FLay):Type:=SKTs F.ks×BTs F.bs
mutual
theorem Ap6 {σ:Env}:∀ (k:SK) {x:AV} {y:SKT k} {rs:B1} {v:Value},toK 0 Bs k x=some (y,rs)→Rep σ x v→WFK k y
 | .d c,x,y,rs,v,h,hv=>by
  simp only [toK,Option.map_eq_some_iff,Prod.mk.injEq] at h
  obtain ⟨z,hz,rfl,_⟩:=h
  exact (L6 hz hv σ (.inl rfl)).2
 | .o ty c,x,y,rs,v,h,hv=>by
  simp only [toK] at h
  unfold toO at h
  split at h
  ·simp [Bs] at h
  ·cases hb:Nat.blt 0 c.size with
   | false=>rw [hb] at h;cases h
   | true =>
    rw [hb,cond_true] at h
    simp only [Option.some.injEq,Prod.mk.injEq] at h
    obtain ⟨rfl,_⟩:=h
    exact ⟨by simp [Aw],by simp⟩
  ·cases h
 | .p id row st col,x,y,rs,v,h,hv=>trivial
 | .r c col,x,y,rs,v,h,hv=>by
  simp only [toK] at h
  obtain ⟨_,rfl⟩:=Lr h
  simp only [Rep] at hv
  obtain ⟨_,_,vs,_,_,h3⟩:=hv
  exact RepD.wf c y vs h3
 | .y id,x,y,rs,v,h,hv=>trivial
 | .q id,x,y,rs,v,h,hv=>trivial
 | .m _ _,x,y,rs,v,h,hv=>by simp [toK] at h
 | .w id ty c,x,y,rs,v,h,hv=>by
  simp only [toK] at h
  exact absurd (Kq h).2.2.1 (Nat.not_lt_zero id)
 | .i t k,x,y,rs,v,h,hv=>by
  simp only [toK] at h
  obtain ⟨_,rfl⟩:=Oc h
  simp only [Rep] at hv
  obtain ⟨_,hu,_⟩:=hv
  exact hu.2
 | .f f a c,x,y,rs,v,h,hv=>by
  simp only [toK] at h
  split at h <;> try (cases h;done)
  rename_i u w hx
  have:=Px hx
  subst this
  split at h <;> try (cases h;done)
  rename_i y1 r1 y2 r2 h1 h2
  simp only [Option.some.injEq,Prod.mk.injEq] at h
  obtain ⟨rfl,_⟩:=h
  simp only [Rep] at hv
  obtain ⟨p,q,k1,k2,k3⟩:=hv
  exact ⟨toKs_wf0 a h1 k1,toKs_wf0 c h2 k2⟩
 | .ag ks,x,y,rs,v,h,hv=>by
  simp only [toK] at h
  split at h <;> try (cases h;done)
  rename_i cs hx
  have:=Mv hx
  subst this
  simp only [Rep] at hv
  obtain ⟨vs,k1,k2⟩:=hv
  exact toKs_wf0 ks h k1
theorem toKs_wf0 {σ:Env}:∀ (ks:List SK) {xs:List AV} {y:SKTs ks} {rs:B1} {vs:List Value},toKs 0 Bs ks xs=some (y,rs)→RepL σ xs vs→WFKs ks y
 | [],xs,y,rs,vs,h,hv=>trivial
 | k::ks,xs,y,rs,vs,h,hv=>by
  cases xs with
  | nil=>simp [toKs] at h
  | cons x xs =>
   simp only [toKs] at h
   split at h <;> try (cases h;done)
   rename_i y1 r1 y2 r2 h1 h2
   simp only [Option.some.injEq,Prod.mk.injEq] at h
   obtain ⟨rfl,_⟩:=h
   simp only [RepL] at hv
   obtain ⟨v,us,e,k1,k2⟩:=hv
   exact ⟨Ap6 k h1 k1,toKs_wf0 ks h2 k2⟩
end
def Gl (ks:List SK) (rs:List TC) (ok:SKTs ks→Bool) (f:SKTs ks→TCTs rs):PureT :=
 {
  run:=fun l=>match toKs 0 Bs ks l with
   | some (y,[])=>some (ok y,Aog rs (f y))
   | _=>none
  flat:=noSls rs
  vw:=ks.map fun
   | .r c o=>.one (some (c,o))
   | .f _ _ cs=>.cl (cs.map fun
    | .r c o=>some (c,o)
    | _=>none)
   | _=>.one none }
theorem Axj {P:Program} {f:FuncId} {ks:List SK} {rs:List TC} {ok:SKTs ks→Bool} {F:SKTs ks→TCTs rs}
  (h:∀ x:SKTs ks,ok x=true→WFKs ks x→∀ (w:World) (mem:Nat→Nat→Option Value) (us:List Value),MemOk mem w→RepL (K4 mem) (ofKs ks x 0) us→Calls' P f us.toArray w (X0 w (K4 mem) (Fq P rs) (fun y=>y=F x))):A6 P f (Gl ks rs ok F):=by
 intro σ w xs us r _ hm hu hg
 simp only [Gl] at hg
 split at hg <;> try (simp at hg;done)
 rename_i x hx
 simp only [Option.some.injEq,Prod.mk.injEq] at hg
 obtain ⟨hok,rfl⟩:=hg
 have hwf:WFKs ks x:=toKs_wf0 ks hx hu
 have h1:RepL (K4 σ.mem) (ofKs ks x 0) us:=toKs_rep (σ:=σ) (τ:=K4 σ.mem) rfl (fun i hi=>absurd hi (Nat.not_lt_zero i)) (fun i hi=>absurd hi (Nat.not_lt_zero i)) ks hx hu (fun j r h=>by simp at h)
 refine (h x hok hwf w σ.mem us hm h1).mono ?_
 rintro e w' ⟨y,τ,hp',nx',k1,k2,k3,k4,k5⟩
 cases y with
 | pan z=>simp [Fq,Tree.sat] at k5
 | ret z =>
  simp only [Fq] at k5
  split at k5 <;> try (simp [Tree.sat] at k5;done)
  rename_i q hq
  simp only [Tree.sat] at k5
  subst k5
  cases e with
  | returned v =>
   have hz:=Aax (P:=P) k2 (show Rep τ z v from k4)
   refine ⟨v,frozen τ hp' (Ajm hp' z) w',rfl,Fj k2 _,fun b o u hb=>D7 k2 _ b o u (k1.2 b o u hb),fun b o u hb=>?_,fun _=>Oi hq hz _ (.inl rfl),fun hf τ' _=>Oi hq hz τ' (.inr hf),fun h=>absurd (show false=true from h) (by decide),k3⟩
   unfold frozen at hb
   split at hb
   ·rename_i hex
    obtain ⟨id,_,hne,hat⟩:=hex
    exact .inr (k2.ge hne hat)
   ·rcases Nat.lt_or_ge b w.heap.size with hlt | hge
    ·have:=k2.low b o u hb hlt
     rw [k1.4] at this
     exact .inl this
    ·exact .inr hge
  | panicked c=>exact k4.elim
  | outgrown=>exact k4.elim
theorem kq {X:Ctx} (hX:CtxOk X) {f:FuncId} {ks:List SK} {rs:List TC} {ok:SKTs ks→Bool} {F:SKTs ks→TCTs rs} (m:Nat)
  (h:∀ x:SKTs ks,ok x=true→WFKs ks x→(Ck X m (.fn f) (ofKs ks x 0) Bs 0 (Fq X.P rs)).sat (fun y=>y=F x)):A6 X.P f (Gl ks rs ok F) :=
 Axj fun x hok hwf w mem us hm hu=>(En hX (fun y=>y=F x) m w (K4 mem) Bs 0 w (.fn f) _ us (Fq X.P rs) (Q4 hm _) (Below.refl _ w) hu (h x hok hwf)).2
end V
end Go.Proofs.YtlangijnealfjaaGreat
