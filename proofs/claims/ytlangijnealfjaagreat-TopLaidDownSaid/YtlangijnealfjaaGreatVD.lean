import Derived.Test.YtlangijnealfjaaGreatVC
namespace Go.Proofs.YtlangijnealfjaaGreat
open Go.RowKit
namespace V
def H6:List Nat→Nat→Option Nat
 | [],_=>none
 | j::l,i=>bif Nat.beq j i then some 0 else match H6 l i with
  | some k=>some (k+1)
  | none=>none
mutual
def Ku (f:Nat→Option Nat):AV→AV
 | .bool b=>.bool b
 | .int k n=>.int k n
 | .ptr id row st col=>match f id with
  | some k=>.ptr k row st col
  | none=>.top
 | .nilp=>.nilp
 | .sl id off st len cap=>match f id with
  | some k=>.sl k off st len cap
  | none=>.top
 | .val v=>.val v
 | .agg cs=>.agg (renL f cs)
 | .tup cs=>.tup (renL f cs)
 | .fn g a c=>.fn g (renL f a) (renL f c)
 | .ro c xs=>.ro c xs
 | .rop c x col=>.rop c x col
 | .own id=>match f id with
  | some k=>.own k
  | none=>.top
 | .mp id=>match f id with
  | some k=>.mp k
  | none=>.top
 | .yld id=>match f id with
  | some k=>.yld k
  | none=>.top
 | .stp id=>match f id with
  | some k=>.stp k
  | none=>.top
 | .ifc t x=>.ifc t (Ku f x)
 | .top=>.top
def renL (f:Nat→Option Nat):List AV→List AV
 | []=>[]
 | x::xs=>Ku f x::renL f xs
end
def Rf (f:Nat→Option Nat):Ob→Option Ob
 | .blk b=>some (.blk ⟨b.ty,renL f b.cs⟩)
 | .arr A=>some (.arr A)
 | .mp M=>some (.mp ⟨M.kc,M.vc,M.get,[]⟩)
 | _=>none
def Rh (ids:List Nat) (hp:Ah):Ah:=fun k=>match nth ids k with
 | some id=>match hp id with
  | some o=>Rf (H6 ids) o
  | none=>none
 | none=>none
def U6 (ids:List Nat) (nx k:Nat):Nat:=match nth ids k with
 | some id=>id
 | none=>nx+(k-Br ids)
def Cp (ids:List Nat) (nx i:Nat):Option Nat:=match H6 ids i with
 | some k=>some k
 | none=>bif Nat.ble nx i then some (Br ids+(i-nx)) else none
def Lr (ids:List Nat) (nx:Nat) (hp hpc:Ah):Ah:=fun i=>match Cp ids nx i with
 | some k=>match hpc k with
  | some o=>Rf (fun k=>some (U6 ids nx k)) o
  | none=>none
 | none=>hp i
def Yq:List Nat→Bool
 | []=>true
 | i::l=>(l.all fun j=>!(Nat.beq j i))&&Yq l
structure RenRel (f:Nat→Option Nat) (σ τ:Env):Prop where
 at_:∀ i k b,f i=some k→σ i=some b→τ k=some b
 sv:∀ i k v,f i=some k→σ.sv i=some v→τ.sv k=some v
 mem:∀ b o v,σ.mem b o=some v→τ.mem b o=some v
mutual
theorem A89 {f:Nat→Option Nat} {σ τ:Env} (h:RenRel f σ τ):∀ (x:AV) (v:Value),Rep σ x v→Rep τ (Ku f x) v
 | .bool _,_,k=>by simpa only [Ku,Rep] using k
 | .int _ _,_,k=>by simpa only [Ku,Rep] using k
 | .ptr id row st col,v,k=>by
  simp only [Rep] at k
  obtain ⟨b,k1,k2⟩:=k
  simp only [Ku]
  split
  ·rename_i j hj;simp only [Rep];exact ⟨b,h.at_ _ _ _ hj k1,k2⟩
  ·simp only [Rep]
 | .nilp,_,k=>by simpa only [Ku,Rep] using k
 | .sl id off st len cap,v,k=>by
  simp only [Rep] at k
  obtain ⟨k1,k2,b,k3,k4⟩:=k
  simp only [Ku]
  split
  ·rename_i j hj;simp only [Rep];exact ⟨k1,k2,b,h.at_ _ _ _ hj k3,k4⟩
  ·simp only [Rep]
 | .val _,_,k=>by simpa only [Ku,Rep] using k
 | .agg cs,v,k=>by
  simp only [Rep] at k
  obtain ⟨vs,k1,k2⟩:=k
  simp only [Ku,Rep]
  exact ⟨vs,renL_rep h cs vs k1,k2⟩
 | .tup cs,v,k=>by
  simp only [Rep] at k
  obtain ⟨vs,k1,k2⟩:=k
  simp only [Ku,Rep]
  exact ⟨vs,renL_rep h cs vs k1,k2⟩
 | .fn g a c,v,k=>by
  simp only [Rep] at k
  obtain ⟨x,y,k1,k2,k3⟩:=k
  simp only [Ku,Rep]
  exact ⟨x,y,renL_rep h a x k1,renL_rep h c y k2,k3⟩
 | .ro c xs,v,k=>by
  simp only [Rep] at k
  simp only [Ku,Rep]
  exact RepD.mono h.mem (.sl c) xs [v] k
 | .rop c x col,v,k=>by
  simp only [Rep] at k
  obtain ⟨b,o,vs,k1,k2,k3⟩:=k
  simp only [Ku,Rep]
  exact ⟨b,o,vs,k1,k2.mono h.mem,RepD.mono h.mem c x vs k3⟩
 | .own id,v,k=>by
  simp only [Rep] at k
  simp only [Ku]
  split
  ·rename_i j hj;simp only [Rep];exact ⟨h.sv _ _ _ hj k.1,k.2⟩
  ·simp only [Rep]
 | .mp id,v,k=>by
  simp only [Rep] at k
  obtain ⟨b,k1,k2⟩:=k
  simp only [Ku]
  split
  ·rename_i j hj;simp only [Rep];exact ⟨b,h.at_ _ _ _ hj k1,k2⟩
  ·simp only [Rep]
 | .yld id,v,k=>by
  simp only [Rep] at k
  obtain ⟨b,k1,k2⟩:=k
  simp only [Ku]
  split
  ·rename_i j hj;simp only [Rep];exact ⟨b,h.at_ _ _ _ hj k1,k2⟩
  ·simp only [Rep]
 | .stp id,v,k=>by
  simp only [Rep] at k
  simp only [Ku]
  split
  ·rename_i j hj;simp only [Rep];exact ⟨h.sv _ _ _ hj k.1,k.2⟩
  ·simp only [Rep]
 | .ifc t x,v,k=>by
  simp only [Rep] at k
  obtain ⟨u,k1,k2⟩:=k
  simp only [Ku,Rep]
  exact ⟨u,A89 h x u k1,k2⟩
 | .top,_,_=>by simp only [Ku,Rep]
theorem renL_rep {f:Nat→Option Nat} {σ τ:Env} (h:RenRel f σ τ):∀ (xs:List AV) (vs:List Value),RepL σ xs vs→RepL τ (renL f xs) vs
 | [],_,k=>by simpa only [renL,RepL] using k
 | x::xs,vs,k=>by
  simp only [RepL] at k
  obtain ⟨v,us,k1,k2,k3⟩:=k
  simp only [renL,RepL]
  exact ⟨v,us,k1,A89 h x v k2,renL_rep h xs us k3⟩
end
theorem A1w {B:Nat} {f:Nat→Option Nat} {σ τ:Env} {w:World} {i k:Nat} {o o':Ob} (h:RenRel f σ τ) (hat:τ k=σ i) (hsv:∀ v,σ.sv i=some v→τ.sv k=some v) (ho:Rf f o=some o') (hr:ObRel B σ w i o):ObRel B τ w k o':=by
 cases o with
 | blk b =>
  simp only [Rf,Option.some.injEq] at ho
  subst ho
  obtain ⟨n,vs,h1,h2,h3,h4⟩:=hr
  exact ⟨n,vs,hat.trans h1,h2,renL_rep h _ _ h3,h4⟩
 | arr A =>
  simp only [Rf,Option.some.injEq] at ho
  subst ho
  obtain ⟨v,us,h1,h2,h3,h4,h5⟩:=hr
  exact ⟨v,us,hsv _ h1,h2,LR.mono (fun x vs=>RepD.mono h.mem A.c x vs) h3,h4,fun n=>by rw [hat];exact h5 n⟩
 | mp M =>
  simp only [Rf,Option.some.injEq] at ho
  subst ho
  obtain ⟨n,es,clock,h1,h2,h3,h4⟩:=hr
  obtain ⟨kc,vc,get,ents⟩:=M
  exact ⟨n,es,clock,hat.trans h1,h2,(h3.mono h.mem (fun _ _ h=>h)).drop,h4⟩
 | _=>simp [Rf] at ho
theorem Hk {ids:List Nat} {i k:Nat} (h:H6 ids i=some k):ids[k]? = some i:=by
 induction ids generalizing k with
 | nil=>simp [H6] at h
 | cons j l ih =>
  simp only [H6] at h
  cases hb:Nat.beq j i with
  | true=>rw [hb,cond_true] at h;cases h;simp [Nat.eq_of_beq_eq_true hb]
  | false =>
   rw [hb,cond_false] at h
   split at h
   ·rename_i k' hk'
    cases h
    simpa using ih hk'
   ·cases h
theorem Yr {ids:List Nat} {i:Nat} (h:H6 ids i=none):i ∉ ids:=by
 induction ids with
 | nil=>simp
 | cons j l ih =>
  simp only [H6] at h
  cases hb:Nat.beq j i with
  | true=>rw [hb,cond_true] at h;cases h
  | false =>
   rw [hb,cond_false] at h
   split at h
   ·cases h
   ·rename_i hk
    intro hm
    rcases List.mem_cons.1 hm with rfl | hm
    ·simp at hb
    ·exact ih hk hm
theorem A8a {ids:List Nat} (h:Yq ids=true):ids.Nodup:=by
 induction ids with
 | nil=>simp
 | cons i l ih =>
  simp only [Yq,Bool.and_eq_true,List.all_eq_true,Bool.not_eq_true'] at h
  rw [List.nodup_cons]
  refine ⟨fun hm=>?_,ih h.2⟩
  have:=h.1 i hm
  simp at this
theorem A8b {ids:List Nat} (h:ids.Nodup) {j k i:Nat} (hj:ids[j]? = some i) (hk:ids[k]? = some i):j=k:=by
 obtain ⟨h1,h2⟩:=List.getElem?_eq_some_iff.1 hj
 obtain ⟨h3,h4⟩:=List.getElem?_eq_some_iff.1 hk
 have hp:=List.pairwise_iff_getElem.1 h
 rcases Nat.lt_trichotomy j k with x | x | x
 ·exact absurd (h2.trans h4.symm) (hp j k h1 h3 x)
 ·exact x
 ·exact absurd (h4.trans h2.symm) (hp k j h3 h1 x)
theorem Aqz {ids:List Nat} (h:ids.Nodup) {k i:Nat} (hk:ids[k]? = some i):H6 ids i=some k:=by
 cases hc:H6 ids i with
 | none=>exact absurd (List.mem_of_getElem? hk) (Yr hc)
 | some j=>rw [A8b h (Hk hc) hk]
noncomputable def Dd (ids:List Nat) (σ:Env) (hp:Ah) (w:World):Env where
 at_ k:=match ids[k]? with
  | some id=>σ id
  | none=>none
 sv k:=match ids[k]? with
  | some id=>σ.sv id
  | none=>none
 mem:=σ.mem
 low:=σ.low
 kp n:=open Classical in if ∃ i,i ∉ ids∧hp i≠none∧σ i=some n then w.heap[n]? else σ.kp n
 sz:=w.heap.size
 dd k:=match ids[k]? with
  | some id=>σ.dd id
  | none=>false
 ds k:=match ids[k]? with
  | some id=>σ.ds id
  | none=>false
theorem J1 {ids:List Nat} {σ:Env} {hp:Ah} {w:World} {k id:Nat} (h:ids[k]? = some id):Dd ids σ hp w k=σ id:=by
 show (match ids[k]? with | some id=>σ id | none=>none)=_;rw [h]
theorem O0 {ids:List Nat} {σ:Env} {hp:Ah} {w:World} {k id:Nat} (h:ids[k]? = some id):(Dd ids σ hp w).sv k=σ.sv id:=by
 show (match ids[k]? with | some id=>σ.sv id | none=>none)=_;rw [h]
theorem I4 {ids:List Nat} {σ:Env} {hp:Ah} {w:World} {k:Nat} (h:ids.length≤k):Dd ids σ hp w k=none∧(Dd ids σ hp w).sv k=none:=by
 have:ids[k]? = none:=List.getElem?_eq_none h
 constructor
 ·show (match ids[k]? with | some id=>σ id | none=>none)=_;rw [this]
 ·show (match ids[k]? with | some id=>σ.sv id | none=>none)=_;rw [this]
theorem U7 {ids:List Nat} {σ:Env} {hp:Ah} {w:World} {k:Nat} (h:ids.length≤k):Free (Dd ids σ hp w) k:=by
 have:ids[k]? = none:=List.getElem?_eq_none h
 refine ⟨(I4 h).1,(I4 h).2,?_,?_⟩
 ·show (match ids[k]? with | some id=>σ.dd id | none=>false)=_;rw [this]
 ·show (match ids[k]? with | some id=>σ.ds id | none=>false)=_;rw [this]
theorem Ys {ids:List Nat} (σ:Env) (hp:Ah) (w:World):RenRel (H6 ids) σ (Dd ids σ hp w) :=
 ⟨fun _ _ _ h k=>(J1 (Hk h)).trans k,fun _ _ _ h k=>(O0 (Hk h)).trans k,fun _ _ _ h=>h⟩
theorem Pj {ids:List Nat} {hp:Ah} {k:Nat} {o:Ob} (h:Rh ids hp k=some o):∃ id o',ids[k]? = some id∧hp id=some o'∧Rf (H6 ids) o'=some o:=by
 unfold Rh at h
 split at h
 ·rename_i id hid
  split at h
  ·rename_i o' ho'
   rw [Dc] at hid
   exact ⟨id,o',hid,ho',h⟩
  ·cases h
 ·cases h
theorem HRel.cut {B:Nat} {σ:Env} {hp:Ah} {nx:Nat} {w:World} (h:HRel B σ hp nx w) {ids:List Nat} (hn:ids.Nodup):HRel B (Dd ids σ hp w) (Rh ids hp) ids.length w:=by
 have live:∀ k,Rh ids hp k≠none→∃ id,ids[k]? = some id∧hp id≠none:=by
  intro k hk
  cases ho:Rh ids hp k with
  | none=>exact absurd ho hk
  | some o =>
   obtain ⟨id,o',h1,h2,_⟩:=Pj ho
   exact ⟨id,h1,by rw [h2];simp⟩
 have hin:∀ k n,Rh ids hp k≠none→Dd ids σ hp w k=some n→∃ id,ids[k]? = some id∧hp id≠none∧σ id=some n:=by
  intro k n hk hkn
  obtain ⟨id,h1,h2⟩:=live k hk
  rw [J1 h1] at hkn
  exact ⟨id,h1,h2,hkn⟩
 refine ⟨fun k o ho=>?_,fun i j n hi hj h1 h2=>?_,fun k hk=>?_,fun k n hk=>?_,h.mem,fun k n hk hkn o=>?_,h.low,⟨Nat.le_refl _,fun n o hno=>?_,fun k n hk hkn=>?_,fun n o v hv=>?_⟩,⟨fun k hk=>?_,fun k hk=>?_,fun k hk=>?_⟩⟩
 ·obtain ⟨id,o',h1,h2,h3⟩:=Pj ho
  exact A1w (Ys σ hp w) (J1 h1) (fun v hv=>(O0 h1).trans hv) h3 (h.ob id o' h2)
 ·obtain ⟨a,a1,a2,a3⟩:=hin i n hi h1
  obtain ⟨b,b1,b2,b3⟩:=hin j n hj h2
  have:=h.inj a b n a2 b2 a3 b3
  subst this
  exact A8b hn a1 b1
 ·refine ⟨(I4 hk).1,(I4 hk).2,?_⟩
  cases ho:Rh ids hp k with
  | none=>rfl
  | some o =>
   obtain ⟨id,o',h1,_⟩:=Pj ho
   rw [List.getElem?_eq_none hk] at h1;cases h1
 ·cases hc:ids[k]? with
  | none=>rw [(I4 (List.getElem?_eq_none_iff.1 hc)).1] at hk;cases hk
  | some id=>rw [J1 hc] at hk;exact h.bound id n hk
 ·obtain ⟨id,h1,h2,h3⟩:=hin k n hk hkn
  exact h.sep id n h2 h3 o
 ·simp only [Dd] at hno
  split at hno
  ·exact hno
  ·exact h.kp.ok n o hno
 ·obtain ⟨id,h1,h2,h3⟩:=hin k n hk hkn
  simp only [Dd]
  split
  ·rename_i hex
   obtain ⟨i,i1,i2,i3⟩:=hex
   have:=h.inj i id n i2 h2 i3 h3
   subst this
   exact absurd (List.mem_of_getElem? h1) i1
  ·exact h.kp.sep id n h2 h3
 ·simp only [Dd]
  split
  ·rename_i hex
   obtain ⟨i,i1,i2,i3⟩:=hex
   rw [show (Dd ids σ hp w).mem n o=σ.mem n o from rfl] at hv
   rw [h.sep i n i2 i3 o] at hv;cases hv
  ·exact h.kp.mem n o v hv
 ·have e1:(Dd ids σ hp w).dd k=match ids[k]? with | some id=>σ.dd id | none=>false:=rfl
  have e2:(Dd ids σ hp w).ds k=match ids[k]? with | some id=>σ.ds id | none=>false:=rfl
  rw [e1,e2] at hk
  cases hc:ids[k]? with
  | none=>rw [hc] at hk;simp at hk
  | some id=>exact (List.getElem?_eq_some_iff.1 hc).1
 ·have e1:(Dd ids σ hp w).dd k=match ids[k]? with | some id=>σ.dd id | none=>false:=rfl
  rw [e1] at hk
  cases hc:ids[k]? with
  | none=>rw [hc] at hk;simp at hk
  | some id=>rw [hc] at hk;exact (J1 hc).trans (h.rs.at_ id hk)
 ·have e1:(Dd ids σ hp w).ds k=match ids[k]? with | some id=>σ.ds id | none=>false:=rfl
  rw [e1] at hk
  cases hc:ids[k]? with
  | none=>rw [hc] at hk;simp at hk
  | some id=>rw [hc] at hk;exact (O0 hc).trans (h.rs.sv id hk)
def Gw (ids:List Nat) (nx:Nat) (σ τ:Env):Env where
 at_ i:=match Cp ids nx i with
  | some k=>τ k
  | none=>σ i
 sv i:=match Cp ids nx i with
  | some k=>τ.sv k
  | none=>σ.sv i
 mem:=τ.mem
 low:=σ.low
 kp:=σ.kp
 sz:=σ.sz
 dd:=σ.dd
 ds:=σ.ds
theorem Bl {ids:List Nat} {nx:Nat} {σ τ:Env} {i k:Nat} (h:Cp ids nx i=some k):Gw ids nx σ τ i=τ k∧(Gw ids nx σ τ).sv i=τ.sv k:=by
 constructor
 ·show (match Cp ids nx i with | some k=>τ k | none=>σ i)=_;rw [h]
 ·show (match Cp ids nx i with | some k=>τ.sv k | none=>σ.sv i)=_;rw [h]
theorem Cl {ids:List Nat} {nx:Nat} {σ τ:Env} {i:Nat} (h:Cp ids nx i=none):Gw ids nx σ τ i=σ i∧(Gw ids nx σ τ).sv i=σ.sv i:=by
 constructor
 ·show (match Cp ids nx i with | some k=>τ k | none=>σ i)=_;rw [h]
 ·show (match Cp ids nx i with | some k=>τ.sv k | none=>σ.sv i)=_;rw [h]
theorem Ac1 {ids:List Nat} {nx i:Nat} (h:Cp ids nx i=none):i ∉ ids∧i<nx:=by
 unfold Cp at h
 split at h
 ·cases h
 ·rename_i hi
  refine ⟨Yr hi,?_⟩
  cases hb:Nat.ble nx i with
  | true=>rw [hb,cond_true] at h;cases h
  | false =>
        rcases Nat.lt_or_ge i nx with k | k
        ·exact k
        ·rw [Nat.ble_eq_true_of_le k] at hb;cases hb
theorem Hl {ids:List Nat} {nx i k:Nat} (h:Cp ids nx i=some k):ids[k]? = some i∨(nx≤i∧k=ids.length+(i-nx)):=by
 unfold Cp at h
 split at h
 ·rename_i j hj;cases h;exact .inl (Hk hj)
 ·cases hb:Nat.ble nx i with
  | true=>rw [hb,cond_true] at h;cases h;exact .inr ⟨Nat.le_of_ble_eq_true hb,by rw [B8]⟩
  | false=>rw [hb,cond_false] at h;cases h
theorem U8 {ids:List Nat} {nx:Nat} (hn:ids.Nodup) (hlt:∀ id ∈ ids,id<nx) (k:Nat):Cp ids nx (U6 ids nx k)=some k:=by
 unfold U6
 rw [Dc]
 cases hc:ids[k]? with
 | some id=>simp only [Cp,Aqz hn hc]
 | none =>
  simp only [Cp,B8]
  have hk:=List.getElem?_eq_none_iff.1 hc
  have hno:H6 ids (nx+(k-ids.length))=none:=by
   cases hx:H6 ids (nx+(k-ids.length)) with
   | none=>rfl
   | some j =>
    have:=hlt _ (List.mem_of_getElem? (Hk hx))
    omega
  rw [hno]
  simp only [Nat.ble_eq_true_of_le (Nat.le_add_right nx (k-ids.length)),cond_true,Option.some.injEq]
  omega
theorem Aig {ids:List Nat} {nx:Nat} {i j k:Nat} (_hlt:∀ id ∈ ids,id<nx) (h1:Cp ids nx i=some k) (h2:Cp ids nx j=some k):i=j:=by
 rcases Hl h1 with a | ⟨a,a'⟩ <;> rcases Hl h2 with b | ⟨b,b'⟩
 ·rw [a] at b;exact Option.some.inj b
 ·have:=(List.getElem?_eq_some_iff.1 a).1;omega
 ·have:=(List.getElem?_eq_some_iff.1 b).1;omega
 ·omega
theorem U9 {ids:List Nat} {nx:Nat} (hn:ids.Nodup) (hlt:∀ id ∈ ids,id<nx) (σ τ:Env):RenRel (fun k=>some (U6 ids nx k)) τ (Gw ids nx σ τ):=by
 refine ⟨fun k i b h hk=>?_,fun k i v h hk=>?_,fun _ _ _ h=>h⟩
 ·cases h;exact (Bl (U8 hn hlt k)).1.trans hk
 ·cases h;exact (Bl (U8 hn hlt k)).2.trans hk
theorem HRel.back {B:Nat} {σ τ:Env} {hp hpc:Ah} {nx nxc:Nat} {w w':World} (h:HRel B σ hp nx w) {ids:List Nat} (hn:ids.Nodup) (hlt:∀ id ∈ ids,id<nx) (hx:Ext (Dd ids σ hp w) τ) (hc:HRel B τ hpc nxc w') (hnx:ids.length≤nxc) :
  Ext σ (Gw ids nx σ τ)∧HRel B (Gw ids nx σ τ) (Lr ids nx hp hpc) (nx+(nxc-ids.length)) w':=by
 have hext:Ext σ (Gw ids nx σ τ):=by
  refine ⟨fun i b hi=>?_,fun b o v hv=>hx.2 b o v hv,fun i v hi=>?_,rfl,rfl,rfl,rfl,rfl⟩
  ·cases hp':Cp ids nx i with
   | none=>exact (Cl hp').1.trans hi
   | some k =>
    rcases Hl hp' with a | ⟨a,_⟩
    ·rw [(Bl hp').1]
     exact hx.1 k b ((J1 a).trans hi)
    ·rw [(h.fresh i a).1] at hi;cases hi
  ·cases hp':Cp ids nx i with
   | none=>exact (Cl hp').2.trans hi
   | some k =>
    rcases Hl hp' with a | ⟨a,_⟩
    ·rw [(Bl hp').2]
     exact hx.3 k v ((O0 a).trans hi)
    ·rw [(h.fresh i a).2.1] at hi;cases hi
 have hkp:τ.kp=(Dd ids σ hp w).kp:=hx.5.1
 have hsz:w.heap.size≤w'.heap.size:=by
  have:=hc.kp.sz
  rw [hx.5.2.1] at this
  exact this
 have inner:∀ i k,Cp ids nx i=some k→Lr ids nx hp hpc i=match hpc k with | some o=>Rf (fun k=>some (U6 ids nx k)) o | none=>none:=by
  intro i k hk
  unfold Lr
  rw [hk]
 have outer:∀ i,Cp ids nx i=none→Lr ids nx hp hpc i=hp i:=by
  intro i hk
  unfold Lr
  rw [hk]
 have liveIn:∀ i k,Cp ids nx i=some k→Lr ids nx hp hpc i≠none→hpc k≠none:=by
  intro i k hk hl e
  rw [inner i k hk,e] at hl
  exact hl rfl
 have cut_out:∀ i n,Cp ids nx i=none→hp i≠none→σ i=some n→(Dd ids σ hp w).kp n=w.heap[n]? := by
  intro i n hk hl hin
  simp only [Dd]
  rw [if_pos ⟨i,(Ac1 hk).1,hl,hin⟩]
 have cut_ne:∀ i n,Cp ids nx i=none→hp i≠none→σ i=some n→τ.kp n≠none:=by
  intro i n hk hl hin
  rw [hkp,cut_out i n hk hl hin]
  have:=h.bound i n hin
  rw [Array.getElem?_eq_getElem this];simp
 have kp_keep:∀ n o,σ.kp n=some o→τ.kp n=some o:=by
  intro n o ho
  rw [hkp]
  simp only [Dd]
  split
  ·exact h.kp.ok n o ho
  ·exact ho
 refine ⟨hext,⟨fun i o ho=>?_,fun i j n hi hj h1 h2=>?_,fun i hi=>?_,fun i n hi=>?_,hc.mem,fun i n hi h1 o=>?_,fun b o v hv hlt'=>?_,⟨Nat.le_trans h.kp.sz hsz,fun n o ho=>?_,fun i n hi h1=>?_,fun n o v hv=>?_⟩,⟨fun i hi=>Nat.lt_of_lt_of_le (h.rs.lt i hi) (Nat.le_add_right _ _),fun i hi=>?_,fun i hi=>?_⟩⟩⟩
 ·cases hk:Cp ids nx i with
  | none =>
   rw [outer i hk] at ho
   refine (h.ob i o ho).keep hext (Cl hk).1 fun n hin=>?_
   have hl:hp i≠none:=by rw [ho];simp
   have e:=cut_out i n hk hl hin
   have hb:=h.bound i n hin
   rw [Array.getElem?_eq_getElem hb] at e
   rw [← hkp] at e
   rw [hc.kp.ok n _ e,Array.getElem?_eq_getElem hb]
  | some k =>
   rw [inner i k hk] at ho
   cases hck:hpc k with
   | none=>rw [hck] at ho;cases ho
   | some o' =>
    rw [hck] at ho
    exact A1w (U9 hn hlt σ τ) (Bl hk).1 (fun v hv=>(Bl hk).2.trans hv) ho (hc.ob k o' hck)
 ·cases hki:Cp ids nx i with
  | none =>
   rw [(Cl hki).1] at h1
   have hli:hp i≠none:=by rw [← outer i hki];exact hi
   cases hkj:Cp ids nx j with
   | none =>
    rw [(Cl hkj).1] at h2
    exact h.inj i j n hli (by rw [← outer j hkj];exact hj) h1 h2
   | some b =>
    rw [(Bl hkj).1] at h2
    exact absurd (hc.kp.sep b n (liveIn j b hkj hj) h2) (cut_ne i n hki hli h1)
  | some a =>
   rw [(Bl hki).1] at h1
   cases hkj:Cp ids nx j with
   | none =>
    rw [(Cl hkj).1] at h2
    exact absurd (hc.kp.sep a n (liveIn i a hki hi) h1) (cut_ne j n hkj (by rw [← outer j hkj];exact hj) h2)
   | some b =>
    rw [(Bl hkj).1] at h2
    have:=hc.inj a b n (liveIn i a hki hi) (liveIn j b hkj hj) h1 h2
    subst this
    exact Aig hlt hki hkj
 ·have hk:Cp ids nx i=some (ids.length+(i-nx)):=by
   have hno:H6 ids i=none:=by
    cases hx:H6 ids i with
    | none=>rfl
    | some j=>have:=hlt _ (List.mem_of_getElem? (Hk hx));omega
   simp only [Cp,hno,B8,Nat.ble_eq_true_of_le (show nx≤i by omega),cond_true]
  obtain ⟨f1,f2,f3⟩:=hc.fresh (ids.length+(i-nx)) (by omega)
  refine ⟨(Bl hk).1.trans f1,(Bl hk).2.trans f2,?_⟩
  rw [inner i _ hk,f3]
 ·cases hk:Cp ids nx i with
  | none=>rw [(Cl hk).1] at hi;exact Nat.lt_of_lt_of_le (h.bound i n hi) hsz
  | some k=>rw [(Bl hk).1] at hi;exact hc.bound k n hi
 ·cases hk:Cp ids nx i with
  | none =>
   rw [(Cl hk).1] at h1
   have hli:hp i≠none:=by rw [← outer i hk];exact hi
   cases hm:(Gw ids nx σ τ).mem n o with
   | none=>rfl
   | some v=>exact absurd (hc.kp.mem n o v hm) (cut_ne i n hk hli h1)
  | some k =>
   rw [(Bl hk).1] at h1
   exact hc.sep k n (liveIn i k hk hi) h1 o
 ·have:=hc.low b o v hv hlt'
  rw [hx.4] at this
  exact this
 ·exact hc.kp.ok n o (kp_keep n o ho)
 ·cases hs:(Gw ids nx σ τ).kp n with
  | none=>rfl
  | some o =>
   exfalso
   have hs':σ.kp n=some o:=hs
   cases hk:Cp ids nx i with
   | none =>
    rw [(Cl hk).1] at h1
    rw [h.kp.sep i n (by rw [← outer i hk];exact hi) h1] at hs';cases hs'
   | some k =>
    rw [(Bl hk).1] at h1
    have:=hc.kp.sep k n (liveIn i k hk hi) h1
    rw [kp_keep n o hs'] at this;cases this
 ·cases hs:(Gw ids nx σ τ).kp n with
  | none=>rfl
  | some o' =>
   have:=hc.kp.mem n o v hv
   rw [kp_keep n o' hs] at this;cases this
 ·have hi:σ.dd i=true:=hi
  cases hk:Cp ids nx i with
  | none=>exact (Cl hk).1.trans (h.rs.at_ i hi)
  | some k =>
   rcases Hl hk with a | ⟨a,_⟩
   ·have hd:τ.dd k=true:=by
     rw [hx.5.2.2.1]
     show (match ids[k]? with | some id=>σ.dd id | none=>false)=true
     rw [a];exact hi
    exact (Bl hk).1.trans (hc.rs.at_ k hd)
   ·have:=h.rs.lt i (.inl hi);omega
 ·have hi:σ.ds i=true:=hi
  cases hk:Cp ids nx i with
  | none=>exact (Cl hk).2.trans (h.rs.sv i hi)
  | some k =>
   rcases Hl hk with a | ⟨a,_⟩
   ·have hd:τ.ds k=true:=by
     rw [hx.5.2.2.2]
     show (match ids[k]? with | some id=>σ.ds id | none=>false)=true
     rw [a];exact hi
    exact (Bl hk).2.trans (hc.rs.sv k hd)
   ·have:=h.rs.lt i (.inr hi);omega
def F8 (xs:List AV) (hp:Ah) (nx:Nat):St:={ tm:=Ht xs,n:=Br xs,hp:=hp,nx:=nx,df:=[],rd:=false }
@[reducible] def Afm (ks:List SK) (bs:List BK) (nx:Nat):Lay:={ keys:=List.range ks.length,ks:=ks,bs:=bs,n:=ks.length,nx:=nx,marks:=[] }
structure FLay where
 ks:List SK
 bs:List BK
 nx:Nat
@[reducible] def FLay.lay (F:FLay):Lay:=Afm F.ks F.bs F.nx
@[reducible] def FLay.T (F:FLay):Type:=SKTs F.ks×BTs F.bs
abbrev Dx (E:Bool→FLay):=(b:Bool)×(E b).T
def Ar0 {β:Type}:List β→Bool
 | [_]=>true
 | _=>false
def Yt (E:Bool→FLay) (v:Out) (hp:Ah) (nx:Nat):Tree (Dx E) :=
 match v with
 | .ret (.tup l)=>bif Ar0 l then .fail else match (E true).lay.to (F8 l hp nx) with
  | some g=>.leaf ⟨true,g⟩
  | none=>.fail
 | .ret x=>match (E true).lay.to (F8 [x] hp nx) with
  | some g=>.leaf ⟨true,g⟩
  | none=>.fail
 | .pan x=>match (E false).lay.to (F8 [x] hp nx) with
  | some g=>.leaf ⟨false,g⟩
  | none=>.fail
def Afn (r:Nat→Option Nat) (b:Bool) (xs:List AV):Out:=bif b then .ret (Qr (renL r xs)) else .pan (match renL r xs with
 | [x]=>x
 | _=>.top)
def K0 (probe:Ah→List AV→Option (List Nat)) (L:FLay) (E:Bool→FLay) (fin:L.T→Tree (Dx E)) (hp:Ah) (nx:Nat) (args:List AV):Tree (Out×Ah×Nat) :=
 match probe hp args with
 | none=>.fail
 | some ids=>bif Yq ids&&(ids.all (fun i=>Nat.blt i nx)&&Nat.ble (Br ids) L.nx) then
   match L.lay.to (F8 (renL (H6 ids) args) (Rh ids hp) (Br ids)) with
   | none=>.fail
   | some g=>(fin g).map fun z=>(Afn (fun k=>some (U6 ids nx k)) z.1 (ofKs (E z.1).ks z.2.1 (E z.1).nx),Lr ids nx hp ((E z.1).lay.hp z.2),nx+(((E z.1).lay.of z.2).nx-Br ids))
  else .fail
theorem A8c:∀ (ks:List SK) (y:SKTs ks) (m:Nat),(ofKs ks y m).length=ks.length
 | [],_,_=>rfl
 | k::ks,y,m=>by simp only [ofKs,List.length_cons,A8c ks y.2]
theorem Yu:∀ (xs:List AV) (s j:Nat),j<xs.length→A42 (List.range' s xs.length) xs (s+j)=xs.getD j .top
 | [],_,_,h=>by simp at h
 | x::xs,s,j,h=>by
  simp only [List.length_cons,List.range'_succ,A42]
  cases j with
  | zero=>simp
  | succ j =>
   rw [Dk (by omega),cond_false]
   have:=Yu xs (s+1) j (by simpa using h)
   rw [show s+(j+1)=s+1+j by omega,this]
   simp
theorem A1x {w0 w:World} {σ:Env} {hp:Ah} {nx:Nat} {xs:List AV} {us:List Value} (hh:HRel w0.heap.size σ hp nx w) (hb:Below w0.heap.size w0 w) (hu:RepL σ xs us):Sat false w0 σ (F8 xs hp nx) { tmps:=us.toArray,defers:=[] } w:=by
 refine ⟨hh,fun t=>?_,?_,.nil,hb,rfl⟩
 ·have:=K2 xs us hu 0 t
  simpa [F8,Array.getD_eq_getD_getElem?] using this
 ·simp [F8,B8,hu.length]
theorem Yv {w0 w:World} {σ:Env} {F:FLay} {g:F.T} {us:List Value} (hl:us.length=F.ks.length) (h:Sat false w0 σ (F.lay.of g) { tmps:=us.toArray,defers:=[] } w):RepL σ (ofKs F.ks g.1 F.nx) us:=by
 rw [D5]
 have hlen:=A8c F.ks g.1 F.nx
 refine ⟨by rw [hlen,hl],fun i x v hx hv=>?_⟩
 have:=h.tm i
 have hi:=(List.getElem?_eq_some_iff.1 hx).1
 simp only [Lay.of,Afm,FLay.lay] at this
 rw [List.range_eq_range',← hlen] at this
 have e:=Yu (ofKs F.ks g.1 F.nx) 0 i hi
 simp only [Nat.zero_add] at e
 rw [e] at this
 have e1:(ofKs F.ks g.1 F.nx).getD i .top=x:=by simp [hx]
 have e2:us.toArray.getD i undef=v:=by simp [Array.getD_eq_getD_getElem?,hv]
 rw [e1,e2] at this
 exact this
theorem Afo {F:FLay} {xs:List AV} {hp:Ah} {nx:Nat} {g:F.T} (h:F.lay.to (F8 xs hp nx)=some g):xs.length=F.ks.length:=by
 unfold Lay.to at h
 cases hb:Nat.beq (F8 xs hp nx).n F.lay.n with
 | false=>simp [hb] at h
 | true =>
  have:=Nat.eq_of_beq_eq_true hb
  simpa [F8,B8] using this
theorem A8d {X:Ctx} (hX:CtxOk X) {f:FuncId} (m:Nat) {probe:Ah→List AV→Option (List Nat)} {L:FLay} {E:Bool→FLay} (hE:∀ b,L.nx≤(E b).nx) {fin:L.T→Tree (Dx E)}
  (h:∀ g R,L.lay.WF g→(fin g).sat R→(Pa X (Dh X m) f (ofKs L.ks g.1 L.nx) (L.lay.hp g) (L.lay.of g).nx (Yt E)).sat (fun z=>(E z.1).lay.WF z.2→R z)):Bv X.P f (K0 probe L E fin):=by
 intro w0 σ hp nx w xs us R hh hb hu hs
 unfold K0 at hs
 cases hp1:probe hp xs with
 | none=>rw [hp1] at hs;exact hs.elim
 | some ids =>
  rw [hp1] at hs
  simp only at hs
  cases hok:(Yq ids&&(ids.all (fun i=>Nat.blt i nx)&&Nat.ble (Br ids) L.nx)) with
  | false=>rw [hok] at hs;exact hs.elim
  | true =>
   rw [hok,cond_true] at hs
   simp only [Bool.and_eq_true,List.all_eq_true,Bt,Nat.ble_eq,B8] at hok
   obtain ⟨hn,hlt,hle⟩:=hok
   have hnd:=A8a hn
   cases hg:L.lay.to (F8 (renL (H6 ids) xs) (Rh ids hp) (Br ids)) with
   | none=>rw [hg] at hs;exact hs.elim
   | some g =>
    rw [hg] at hs
    simp only [A43] at hs
    have hu1:=renL_rep (Ys (ids:=ids) σ hp w) xs us hu
    have hS:=A1x (B8 ids ▸ hh.cut hnd) hb hu1
    obtain ⟨hwf,rs,hF⟩:=hS.forget L.lay hg
    have hul:us.length=L.ks.length:=by rw [← hu1.length];exact Afo hg
    have hargs:=Yv hul hF
    obtain ⟨_,hcalls⟩:=Z5 hX (Ek hX _ m) hF.h hF.bl hargs (h g _ hwf hs)
    have e1:Ext (Dd ids σ hp w) (Ra L.nx (Dd ids σ hp w) rs):=El (Ext.refl _) fun i hi=>U7 (Nat.le_trans hle hi)
    refine hcalls.mono ?_
    rintro e w' ⟨y,τ,hp2,nx2,k1,k2,k3,k4,k5⟩
    have e2:=e1.trans k1
    have key:∀ (b:Bool) (ys:List AV) (vs:List Value) (g2:(E b).T),RepL τ ys vs→(E b).lay.to (F8 ys hp2 nx2)=some g2→((E b).lay.WF g2→R (Afn (fun k=>some (U6 ids nx k)) b (ofKs (E b).ks g2.1 (E b).nx),Lr ids nx hp ((E b).lay.hp g2),nx+(((E b).lay.of g2).nx-Br ids))) →
      (∀ τ' zs,RepL τ' zs vs→zs.length=vs.length→Abo τ' (bif b then .ret (Qr zs) else .pan (match zs with | [x]=>x | _=>.top)) e) →
      ∃ y τ hp' nx',Ext σ τ∧HRel w0.heap.size τ hp' nx' w'∧Below w0.heap.size w0 w'∧Abo τ y e∧R (y,hp',nx'):=by
     intro b ys vs g2 hv hg2 hR ho
     obtain ⟨wf2,rs2,hF2⟩:=(A1x k2 k3 hv).forget (E b).lay hg2
     have hvl:vs.length=(E b).ks.length:=by rw [← hv.length];exact Afo hg2
     have hout:=Yv hvl hF2
     have e3:Ext (Dd ids σ hp w) (Ra (E b).nx τ rs2):=El e2 fun i hi=>U7 (Nat.le_trans hle (Nat.le_trans (hE b) hi))
     have hnx:ids.length≤((E b).lay.of g2).nx:=Nat.le_trans hle (Nat.le_trans (hE b) (Nat.le_add_right _ _))
     obtain ⟨f1,f2⟩:=hh.back hnd hlt e3 hF2.h hnx
     have hout':=renL_rep (U9 hnd hlt σ (Ra (E b).nx τ rs2)) _ _ hout
     refine ⟨_,_,_,_,f1,f2,k3,?_,by rw [← B8 ids];exact hR wf2⟩
     have:=ho _ _ hout' hout'.length
     unfold Afn
     exact this
    cases y with
    | ret x =>
     cases e with
     | returned v =>
      have hx:Rep τ x v:=k4
      have one:(∀ l,x≠.tup l)→∃ y τ hp' nx',Ext σ τ∧HRel w0.heap.size τ hp' nx' w'∧Below w0.heap.size w0 w'∧Abo τ y (.returned v)∧R (y,hp',nx'):=by
       intro hne
       have k6:(match (E true).lay.to (F8 [x] hp2 nx2) with | some g=>Tree.leaf (⟨true,g⟩:Dx E) | none=>.fail).sat (fun (z:Dx E)=>(E z.1).lay.WF z.2→R (Afn (fun k=>some (U6 ids nx k)) z.1 (ofKs (E z.1).ks z.2.1 (E z.1).nx),Lr ids nx hp ((E z.1).lay.hp z.2),nx+(((E z.1).lay.of z.2).nx-Br ids))):=by
        unfold Yt at k5
        split at k5
        ·rename_i l heq
         cases heq
         exact absurd rfl (hne l)
        ·rename_i x' _ heq
         cases heq
         exact k5
        ·rename_i heq
         cases heq
       split at k6 <;> try (exact k6.elim)
       rename_i g2 hg2
       refine key true [x] [v] g2 (by simp only [RepL];exact ⟨v,[],rfl,hx,rfl⟩) hg2 k6 fun τ' zs hz hzl=>?_
       cases zs with
       | nil=>simp at hzl
       | cons z zs =>
        simp only [RepL,List.cons.injEq] at hz
        obtain ⟨v',us',⟨rfl,rfl⟩,h1,h2⟩:=hz
        cases zs with
        | nil=>exact h1
        | cons _ _=>simp at hzl
      cases x with
      | tup l =>
       simp only [Yt] at k5
       cases ho:Ar0 l with
       | true=>rw [ho,cond_true] at k5;exact k5.elim
       | false =>
        rw [ho,cond_false] at k5
        split at k5 <;> try (exact k5.elim)
        rename_i g2 hg2
        simp only [Rep] at hx
        obtain ⟨vs,h1,rfl⟩:=hx
        refine key true l vs g2 h1 hg2 k5 fun τ' zs hz hzl=>?_
        show Rep τ' (Qr zs) _
        have hne:∀ a,zs=[a]→False:=by
         intro a ha
         rw [ha] at hzl
         have:=h1.length
         cases l with
         | nil=>simp at this;rw [← this] at hzl;simp at hzl
         | cons b l=>cases l with
          | nil=>simp [Ar0] at ho
          | cons _ _=>simp at this hzl;omega
        rw [Afq hne]
        simp only [Rep]
        exact ⟨vs,hz,rfl⟩
      | _=>exact one (by simp)
     | panicked c=>exact k4.elim
     | outgrown=>exact k4.elim
    | pan x =>
     cases e with
     | panicked c =>
      obtain ⟨v,hv,rfl⟩:=k4
      simp only [Yt] at k5
      split at k5 <;> try (exact k5.elim)
      rename_i g2 hg2
      refine key false [x] [v] g2 (by simp only [RepL];exact ⟨v,[],rfl,hv,rfl⟩) hg2 k5 fun τ' zs hz hzl=>?_
      cases zs with
      | nil=>simp at hzl
      | cons z zs =>
       simp only [RepL,List.cons.injEq] at hz
       obtain ⟨v',us',⟨rfl,rfl⟩,h1,h2⟩:=hz
       cases zs with
       | nil=>exact ⟨_,h1,rfl⟩
       | cons _ _=>simp at hzl
     | returned v=>exact k4.elim
     | outgrown=>exact k4.elim
def A0h (P:Program) (pu:List (Nat×PureT)) (fns:List (Nat×Func)) (loops:List ((Nat×Nat)×(St→Tree (XE×St)))) (specs:List (Nat×(Ah→Nat→List AV→Tree (Out×Ah×Nat)))):Ctx:={ P:=P,u:=64,fns:=fns,loops:=loops,pures:=pu,specs:=specs }
theorem Iq {P:Program} (hm:P.follows .mixedOrders=true) {pu:List (Nat×PureT)} {fns:List (Nat×Func)} {loops:List ((Nat×Nat)×(St→Tree (XE×St)))} {specs:List (Nat×(Ah→Nat→List AV→Tree (Out×Ah×Nat)))} (hp:Ci P pu) (hf:∀ p ∈ fns,FnIs P p)
  (hl:∀ p ∈ fns,∀ d ∈ Aj (bodyOf p.2),∀ g,C9 loops p.1 (keyOf d)=some g→Ax P p.1 d g) (hs:∀ p ∈ specs,Plain P p.1∧Bv P p.1 p.2):CtxOk (A0h P pu fns loops specs) :=
 ⟨hm,hp,fun p h=>⟨(hf p h).1,(hf p h).2.1,fun c hc d hd f hfd=>hl p h d (by unfold bodyOf;rw [hc];exact hd) f hfd⟩,hs⟩
mutual
theorem Ay0 {σ:Env}:∀ (k:SK) {x:AV} {y:SKT k} {rs:Bb} {v:Value},toK 0 C4 k x=some (y,rs)→Rep σ x v→WFK k y
 | .d c,x,y,rs,v,h,hv=>by
  simp only [toK,Option.map_eq_some_iff,Prod.mk.injEq] at h
  obtain ⟨z,hz,rfl,_⟩:=h
  exact (N8 hz hv σ (.inl rfl)).2
 | .o ty c,x,y,rs,v,h,hv=>by
  simp only [toK] at h
  unfold toO at h
  split at h
  ·simp [C4] at h
  ·cases hb:Nat.blt 0 c.size with
   | false=>rw [hb] at h;cases h
   | true =>
    rw [hb,cond_true] at h
    simp only [Option.some.injEq,Prod.mk.injEq] at h
    obtain ⟨rfl,_⟩:=h
    exact ⟨by simp [B0],by simp⟩
  ·cases h
 | .p id row st col,x,y,rs,v,h,hv=>trivial
 | .r c col,x,y,rs,v,h,hv=>by
  simp only [toK] at h
  obtain ⟨_,rfl⟩:=Ny h
  simp only [Rep] at hv
  obtain ⟨_,_,vs,_,_,h3⟩:=hv
  exact RepD.wf c y vs h3
 | .y id,x,y,rs,v,h,hv=>trivial
 | .q id,x,y,rs,v,h,hv=>trivial
 | .m _ _,x,y,rs,v,h,hv=>by simp [toK] at h
 | .w id ty c,x,y,rs,v,h,hv=>by
  simp only [toK] at h
  exact absurd (Mx h).2.2.1 (Nat.not_lt_zero id)
 | .i t k,x,y,rs,v,h,hv=>by
  simp only [toK] at h
  obtain ⟨_,rfl⟩:=R2 h
  simp only [Rep] at hv
  obtain ⟨_,hu,_⟩:=hv
  exact hu.2
 | .f f a c,x,y,rs,v,h,hv=>by
  simp only [toK] at h
  split at h <;> try (cases h;done)
  rename_i u w hx
  have:=Sz hx
  subst this
  split at h <;> try (cases h;done)
  rename_i y1 r1 y2 r2 h1 h2
  simp only [Option.some.injEq,Prod.mk.injEq] at h
  obtain ⟨rfl,_⟩:=h
  simp only [Rep] at hv
  obtain ⟨p,q,k1,k2,k3⟩:=hv
  exact ⟨toKs_wf0 a h1 k1,toKs_wf0 c h2 k2⟩
 | .ag ks,x,y,rs,v,h,hv=>by
  simp only [toK] at h
  split at h <;> try (cases h;done)
  rename_i cs hx
  have:=Ph hx
  subst this
  simp only [Rep] at hv
  obtain ⟨vs,k1,k2⟩:=hv
  exact toKs_wf0 ks h k1
theorem toKs_wf0 {σ:Env}:∀ (ks:List SK) {xs:List AV} {y:SKTs ks} {rs:Bb} {vs:List Value},toKs 0 C4 ks xs=some (y,rs)→RepL σ xs vs→WFKs ks y
 | [],xs,y,rs,vs,h,hv=>trivial
 | k::ks,xs,y,rs,vs,h,hv=>by
  cases xs with
  | nil=>simp [toKs] at h
  | cons x xs =>
   simp only [toKs] at h
   split at h <;> try (cases h;done)
   rename_i y1 r1 y2 r2 h1 h2
   simp only [Option.some.injEq,Prod.mk.injEq] at h
   obtain ⟨rfl,_⟩:=h
   simp only [RepL] at hv
   obtain ⟨v,us,e,k1,k2⟩:=hv
   exact ⟨Ay0 k h1 k1,toKs_wf0 ks h2 k2⟩
end
def K1 (ks:List SK) (rs:List TC) (ok:SKTs ks→Bool) (f:SKTs ks→TCTs rs):PureT :=
 {
  run:=fun l=>match toKs 0 C4 ks l with
   | some (y,[])=>some (ok y,Axb rs (f y))
   | _=>none
  flat:=noSls rs
  vw:=ks.map fun
   | .r c o=>.one (some (c,o))
   | .f _ _ cs=>.cl (cs.map fun
    | .r c o=>some (c,o)
    | _=>none)
   | _=>.one none }
theorem B8n {P:Program} {f:FuncId} {ks:List SK} {rs:List TC} {ok:SKTs ks→Bool} {F:SKTs ks→TCTs rs}
  (h:∀ x:SKTs ks,ok x=true→WFKs ks x→∀ (w:World) (mem:Nat→Nat→Option Value) (us:List Value),MemOk mem w→RepL (Mc mem) (ofKs ks x 0) us→Calls' P f us.toArray w (A0f w (Mc mem) (Ir P rs) (fun y=>y=F x))):A7 P f (K1 ks rs ok F):=by
 intro σ w xs us r _ hm hu hg
 simp only [K1] at hg
 split at hg <;> try (simp at hg;done)
 rename_i x hx
 simp only [Option.some.injEq,Prod.mk.injEq] at hg
 obtain ⟨hok,rfl⟩:=hg
 have hwf:WFKs ks x:=toKs_wf0 ks hx hu
 have h1:RepL (Mc σ.mem) (ofKs ks x 0) us:=toKs_rep (σ:=σ) (τ:=Mc σ.mem) rfl (fun i hi=>absurd hi (Nat.not_lt_zero i)) (fun i hi=>absurd hi (Nat.not_lt_zero i)) ks hx hu (fun j r h=>by simp at h)
 refine (h x hok hwf w σ.mem us hm h1).mono ?_
 rintro e w' ⟨y,τ,hp',nx',k1,k2,k3,k4,k5⟩
 cases y with
 | pan z=>simp [Ir,Tree.sat] at k5
 | ret z =>
  simp only [Ir] at k5
  split at k5 <;> try (simp [Tree.sat] at k5;done)
  rename_i q hq
  simp only [Tree.sat] at k5
  subst k5
  cases e with
  | returned v =>
   have hz:=Afs (P:=P) k2 (show Rep τ z v from k4)
   refine ⟨v,frozen τ hp' (Ar4 hp' z) w',rfl,Hj k2 _,fun b o u hb=>E4 k2 _ b o u (k1.2 b o u hb),fun b o u hb=>?_,fun _=>Ri hq hz _ (.inl rfl),fun hf τ' _=>Ri hq hz τ' (.inr hf),fun h=>absurd (show false=true from h) (by decide),k3⟩
   unfold frozen at hb
   split at hb
   ·rename_i hex
    obtain ⟨id,_,hne,hat⟩:=hex
    exact .inr (k2.ge hne hat)
   ·rcases Nat.lt_or_ge b w.heap.size with hlt | hge
    ·have:=k2.low b o u hb hlt
     rw [k1.4] at this
     exact .inl this
    ·exact .inr hge
  | panicked c=>exact k4.elim
  | outgrown=>exact k4.elim
theorem kq {X:Ctx} (hX:CtxOk X) {f:FuncId} {ks:List SK} {rs:List TC} {ok:SKTs ks→Bool} {F:SKTs ks→TCTs rs} (m:Nat)
  (h:∀ x:SKTs ks,ok x=true→WFKs ks x→(Dh X m (.fn f) (ofKs ks x 0) C4 0 (Ir X.P rs)).sat (fun y=>y=F x)):A7 X.P f (K1 ks rs ok F) :=
 B8n fun x hok hwf w mem us hm hu=>(Ek hX (fun y=>y=F x) m w (Mc mem) C4 0 w (.fn f) _ us (Ir X.P rs) (Td hm _) (Below.refl _ w) hu (h x hok hwf)).2
end V
end Go.Proofs.YtlangijnealfjaaGreat
