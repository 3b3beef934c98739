import Derived.Test.YtlangijnealfjaaGreatVC
namespace Go.Proofs.YtlangijnealfjaaGreat
open Go.RowKit
namespace V
def Hz:List Nat→Nat→Option Nat
 | [],_=>none
 | j::l,i=>bif Nat.beq j i then some 0 else match Hz l i with
  | some k=>some (k+1)
  | none=>none
mutual
def Ma (f:Nat→Option Nat):AV→AV
 | .bool b=>.bool b
 | .int k n=>.int k n
 | .ptr id row st col=>match f id with
  | some k=>.ptr k row st col
  | none=>.top
 | .nilp=>.nilp
 | .sl id off st len cap=>match f id with
  | some k=>.sl k off st len cap
  | none=>.top
 | .val v=>.val v
 | .agg cs=>.agg (renL f cs)
 | .tup cs=>.tup (renL f cs)
 | .fn g a c=>.fn g (renL f a) (renL f c)
 | .ro c xs=>.ro c xs
 | .rop c x col=>.rop c x col
 | .own id=>match f id with
  | some k=>.own k
  | none=>.top
 | .mp id=>match f id with
  | some k=>.mp k
  | none=>.top
 | .yld id=>match f id with
  | some k=>.yld k
  | none=>.top
 | .stp id=>match f id with
  | some k=>.stp k
  | none=>.top
 | .ifc t x=>.ifc t (Ma f x)
 | .top=>.top
def renL (f:Nat→Option Nat):List AV→List AV
 | []=>[]
 | x::xs=>Ma f x::renL f xs
end
def Tf (f:Nat→Option Nat):Ob→Option Ob
 | .blk b=>some (.blk ⟨b.ty,renL f b.cs⟩)
 | .arr A=>some (.arr A)
 | .mp M=>some (.mp ⟨M.kc,M.vc,M.get,[]⟩)
 | _=>none
def Tg (ids:List Nat) (hp:Ao):Ao:=fun k=>match nth ids k with
 | some id=>match hp id with
  | some o=>Tf (Hz ids) o
  | none=>none
 | none=>none
def Vy (ids:List Nat) (nx k:Nat):Nat:=match nth ids k with
 | some id=>id
 | none=>nx+(k-Bz ids)
def Dj (ids:List Nat) (nx i:Nat):Option Nat:=match Hz ids i with
 | some k=>some k
 | none=>bif Nat.ble nx i then some (Bz ids+(i-nx)) else none
def N1 (ids:List Nat) (nx:Nat) (hp hpc:Ao):Ao:=fun i=>match Dj ids nx i with
 | some k=>match hpc k with
  | some o=>Tf (fun k=>some (Vy ids nx k)) o
  | none=>none
 | none=>hp i
def A0j:List Nat→Bool
 | []=>true
 | i::l=>(l.all fun j=>!(Nat.beq j i))&&A0j l
structure RenRel (f:Nat→Option Nat) (σ τ:Env):Prop where
 at_:∀ i k b,f i=some k→σ i=some b→τ k=some b
 sv:∀ i k v,f i=some k→σ.sv i=some v→τ.sv k=some v
 mem:∀ b o v,σ.mem b o=some v→τ.mem b o=some v
mutual
theorem Aad {f:Nat→Option Nat} {σ τ:Env} (h:RenRel f σ τ):∀ (x:AV) (v:Value),Rep σ x v→Rep τ (Ma f x) v
 | .bool _,_,k=>by simpa only [Ma,Rep] using k
 | .int _ _,_,k=>by simpa only [Ma,Rep] using k
 | .ptr id row st col,v,k=>by
  simp only [Rep] at k
  obtain ⟨b,k1,k2⟩:=k
  simp only [Ma]
  split
  ·rename_i j hj;simp only [Rep];exact ⟨b,h.at_ _ _ _ hj k1,k2⟩
  ·simp only [Rep]
 | .nilp,_,k=>by simpa only [Ma,Rep] using k
 | .sl id off st len cap,v,k=>by
  simp only [Rep] at k
  obtain ⟨k1,k2,b,k3,k4⟩:=k
  simp only [Ma]
  split
  ·rename_i j hj;simp only [Rep];exact ⟨k1,k2,b,h.at_ _ _ _ hj k3,k4⟩
  ·simp only [Rep]
 | .val _,_,k=>by simpa only [Ma,Rep] using k
 | .agg cs,v,k=>by
  simp only [Rep] at k
  obtain ⟨vs,k1,k2⟩:=k
  simp only [Ma,Rep]
  exact ⟨vs,renL_rep h cs vs k1,k2⟩
 | .tup cs,v,k=>by
  simp only [Rep] at k
  obtain ⟨vs,k1,k2⟩:=k
  simp only [Ma,Rep]
  exact ⟨vs,renL_rep h cs vs k1,k2⟩
 | .fn g a c,v,k=>by
  simp only [Rep] at k
  obtain ⟨x,y,k1,k2,k3⟩:=k
  simp only [Ma,Rep]
  exact ⟨x,y,renL_rep h a x k1,renL_rep h c y k2,k3⟩
 | .ro c xs,v,k=>by
  simp only [Rep] at k
  simp only [Ma,Rep]
  exact RepD.mono h.mem (.sl c) xs [v] k
 | .rop c x col,v,k=>by
  simp only [Rep] at k
  obtain ⟨b,o,vs,k1,k2,k3⟩:=k
  simp only [Ma,Rep]
  exact ⟨b,o,vs,k1,k2.mono h.mem,RepD.mono h.mem c x vs k3⟩
 | .own id,v,k=>by
  simp only [Rep] at k
  simp only [Ma]
  split
  ·rename_i j hj;simp only [Rep];exact ⟨h.sv _ _ _ hj k.1,k.2⟩
  ·simp only [Rep]
 | .mp id,v,k=>by
  simp only [Rep] at k
  obtain ⟨b,k1,k2⟩:=k
  simp only [Ma]
  split
  ·rename_i j hj;simp only [Rep];exact ⟨b,h.at_ _ _ _ hj k1,k2⟩
  ·simp only [Rep]
 | .yld id,v,k=>by
  simp only [Rep] at k
  obtain ⟨b,k1,k2⟩:=k
  simp only [Ma]
  split
  ·rename_i j hj;simp only [Rep];exact ⟨b,h.at_ _ _ _ hj k1,k2⟩
  ·simp only [Rep]
 | .stp id,v,k=>by
  simp only [Rep] at k
  simp only [Ma]
  split
  ·rename_i j hj;simp only [Rep];exact ⟨h.sv _ _ _ hj k.1,k.2⟩
  ·simp only [Rep]
 | .ifc t x,v,k=>by
  simp only [Rep] at k
  obtain ⟨u,k1,k2⟩:=k
  simp only [Ma,Rep]
  exact ⟨u,Aad h x u k1,k2⟩
 | .top,_,_=>by simp only [Ma,Rep]
theorem renL_rep {f:Nat→Option Nat} {σ τ:Env} (h:RenRel f σ τ):∀ (xs:List AV) (vs:List Value),RepL σ xs vs→RepL τ (renL f xs) vs
 | [],_,k=>by simpa only [renL,RepL] using k
 | x::xs,vs,k=>by
  simp only [RepL] at k
  obtain ⟨v,us,k1,k2,k3⟩:=k
  simp only [renL,RepL]
  exact ⟨v,us,k1,Aad h x v k2,renL_rep h xs us k3⟩
end
theorem A3n {B:Nat} {f:Nat→Option Nat} {σ τ:Env} {w:World} {i k:Nat} {o o':Ob} (h:RenRel f σ τ) (hat:τ k=σ i) (hsv:∀ v,σ.sv i=some v→τ.sv k=some v) (ho:Tf f o=some o') (hr:ObRel B σ w i o):ObRel B τ w k o':=by
 cases o with
 | blk b =>
  simp only [Tf,Option.some.injEq] at ho
  subst ho
  obtain ⟨n,vs,h1,h2,h3,h4⟩:=hr
  exact ⟨n,vs,hat.trans h1,h2,renL_rep h _ _ h3,h4⟩
 | arr A =>
  simp only [Tf,Option.some.injEq] at ho
  subst ho
  obtain ⟨v,us,h1,h2,h3,h4,h5⟩:=hr
  exact ⟨v,us,hsv _ h1,h2,LR.mono (fun x vs=>RepD.mono h.mem A.c x vs) h3,h4,fun n=>by rw [hat];exact h5 n⟩
 | mp M =>
  simp only [Tf,Option.some.injEq] at ho
  subst ho
  obtain ⟨n,es,clock,h1,h2,h3,h4⟩:=hr
  obtain ⟨kc,vc,get,ents⟩:=M
  exact ⟨n,es,clock,hat.trans h1,h2,(h3.mono h.mem (fun _ _ h=>h)).drop,h4⟩
 | _=>simp [Tf] at ho
theorem Ib {ids:List Nat} {i k:Nat} (h:Hz ids i=some k):ids[k]? = some i:=by
 induction ids generalizing k with
 | nil=>simp [Hz] at h
 | cons j l ih =>
  simp only [Hz] at h
  cases hb:Nat.beq j i with
  | true=>rw [hb,cond_true] at h;cases h;simp [Nat.eq_of_beq_eq_true hb]
  | false =>
   rw [hb,cond_false] at h
   split at h
   ·rename_i k' hk'
    cases h
    simpa using ih hk'
   ·cases h
theorem A0k {ids:List Nat} {i:Nat} (h:Hz ids i=none):i ∉ ids:=by
 induction ids with
 | nil=>simp
 | cons j l ih =>
  simp only [Hz] at h
  cases hb:Nat.beq j i with
  | true=>rw [hb,cond_true] at h;cases h
  | false =>
   rw [hb,cond_false] at h
   split at h
   ·cases h
   ·rename_i hk
    intro hm
    rcases List.mem_cons.1 hm with rfl | hm
    ·simp at hb
    ·exact ih hk hm
theorem Aae {ids:List Nat} (h:A0j ids=true):ids.Nodup:=by
 induction ids with
 | nil=>simp
 | cons i l ih =>
  simp only [A0j,Bool.and_eq_true,List.all_eq_true,Bool.not_eq_true'] at h
  rw [List.nodup_cons]
  refine ⟨fun hm=>?_,ih h.2⟩
  have:=h.1 i hm
  simp at this
theorem Aaf {ids:List Nat} (h:ids.Nodup) {j k i:Nat} (hj:ids[j]? = some i) (hk:ids[k]? = some i):j=k:=by
 obtain ⟨h1,h2⟩:=List.getElem?_eq_some_iff.1 hj
 obtain ⟨h3,h4⟩:=List.getElem?_eq_some_iff.1 hk
 have hp:=List.pairwise_iff_getElem.1 h
 rcases Nat.lt_trichotomy j k with x | x | x
 ·exact absurd (h2.trans h4.symm) (hp j k h1 h3 x)
 ·exact x
 ·exact absurd (h4.trans h2.symm) (hp k j h3 h1 x)
theorem Auy {ids:List Nat} (h:ids.Nodup) {k i:Nat} (hk:ids[k]? = some i):Hz ids i=some k:=by
 cases hc:Hz ids i with
 | none=>exact absurd (List.mem_of_getElem? hk) (A0k hc)
 | some j=>rw [Aaf h (Ib hc) hk]
noncomputable def E5 (ids:List Nat) (σ:Env) (hp:Ao) (w:World):Env where
 at_ k:=match ids[k]? with
  | some id=>σ id
  | none=>none
 sv k:=match ids[k]? with
  | some id=>σ.sv id
  | none=>none
 mem:=σ.mem
 low:=σ.low
 kp n:=open Classical in if ∃ i,i ∉ ids∧hp i≠none∧σ i=some n then w.heap[n]? else σ.kp n
 sz:=w.heap.size
 dd k:=match ids[k]? with
  | some id=>σ.dd id
  | none=>false
 ds k:=match ids[k]? with
  | some id=>σ.ds id
  | none=>false
theorem Jy {ids:List Nat} {σ:Env} {hp:Ao} {w:World} {k id:Nat} (h:ids[k]? = some id):E5 ids σ hp w k=σ id:=by
 show (match ids[k]? with | some id=>σ id | none=>none)=_;rw [h]
theorem Pk {ids:List Nat} {σ:Env} {hp:Ao} {w:World} {k id:Nat} (h:ids[k]? = some id):(E5 ids σ hp w).sv k=σ.sv id:=by
 show (match ids[k]? with | some id=>σ.sv id | none=>none)=_;rw [h]
theorem J3 {ids:List Nat} {σ:Env} {hp:Ao} {w:World} {k:Nat} (h:ids.length≤k):E5 ids σ hp w k=none∧(E5 ids σ hp w).sv k=none:=by
 have:ids[k]? = none:=List.getElem?_eq_none h
 constructor
 ·show (match ids[k]? with | some id=>σ id | none=>none)=_;rw [this]
 ·show (match ids[k]? with | some id=>σ.sv id | none=>none)=_;rw [this]
theorem Vz {ids:List Nat} {σ:Env} {hp:Ao} {w:World} {k:Nat} (h:ids.length≤k):Free (E5 ids σ hp w) k:=by
 have:ids[k]? = none:=List.getElem?_eq_none h
 refine ⟨(J3 h).1,(J3 h).2,?_,?_⟩
 ·show (match ids[k]? with | some id=>σ.dd id | none=>false)=_;rw [this]
 ·show (match ids[k]? with | some id=>σ.ds id | none=>false)=_;rw [this]
theorem A0l {ids:List Nat} (σ:Env) (hp:Ao) (w:World):RenRel (Hz ids) σ (E5 ids σ hp w) :=
 ⟨fun _ _ _ h k=>(Jy (Ib h)).trans k,fun _ _ _ h k=>(Pk (Ib h)).trans k,fun _ _ _ h=>h⟩
theorem R1 {ids:List Nat} {hp:Ao} {k:Nat} {o:Ob} (h:Tg ids hp k=some o):∃ id o',ids[k]? = some id∧hp id=some o'∧Tf (Hz ids) o'=some o:=by
 unfold Tg at h
 split at h
 ·rename_i id hid
  split at h
  ·rename_i o' ho'
   rw [E4] at hid
   exact ⟨id,o',hid,ho',h⟩
  ·cases h
 ·cases h
theorem HRel.cut {B:Nat} {σ:Env} {hp:Ao} {nx:Nat} {w:World} (h:HRel B σ hp nx w) {ids:List Nat} (hn:ids.Nodup):HRel B (E5 ids σ hp w) (Tg ids hp) ids.length w:=by
 have live:∀ k,Tg ids hp k≠none→∃ id,ids[k]? = some id∧hp id≠none:=by
  intro k hk
  cases ho:Tg ids hp k with
  | none=>exact absurd ho hk
  | some o =>
   obtain ⟨id,o',h1,h2,_⟩:=R1 ho
   exact ⟨id,h1,by rw [h2];simp⟩
 have hin:∀ k n,Tg ids hp k≠none→E5 ids σ hp w k=some n→∃ id,ids[k]? = some id∧hp id≠none∧σ id=some n:=by
  intro k n hk hkn
  obtain ⟨id,h1,h2⟩:=live k hk
  rw [Jy h1] at hkn
  exact ⟨id,h1,h2,hkn⟩
 refine ⟨fun k o ho=>?_,fun i j n hi hj h1 h2=>?_,fun k hk=>?_,fun k n hk=>?_,h.mem,fun k n hk hkn o=>?_,h.low,⟨Nat.le_refl _,fun n o hno=>?_,fun k n hk hkn=>?_,fun n o v hv=>?_⟩,⟨fun k hk=>?_,fun k hk=>?_,fun k hk=>?_⟩⟩
 ·obtain ⟨id,o',h1,h2,h3⟩:=R1 ho
  exact A3n (A0l σ hp w) (Jy h1) (fun v hv=>(Pk h1).trans hv) h3 (h.ob id o' h2)
 ·obtain ⟨a,a1,a2,a3⟩:=hin i n hi h1
  obtain ⟨b,b1,b2,b3⟩:=hin j n hj h2
  have:=h.inj a b n a2 b2 a3 b3
  subst this
  exact Aaf hn a1 b1
 ·refine ⟨(J3 hk).1,(J3 hk).2,?_⟩
  cases ho:Tg ids hp k with
  | none=>rfl
  | some o =>
   obtain ⟨id,o',h1,_⟩:=R1 ho
   rw [List.getElem?_eq_none hk] at h1;cases h1
 ·cases hc:ids[k]? with
  | none=>rw [(J3 (List.getElem?_eq_none_iff.1 hc)).1] at hk;cases hk
  | some id=>rw [Jy hc] at hk;exact h.bound id n hk
 ·obtain ⟨id,h1,h2,h3⟩:=hin k n hk hkn
  exact h.sep id n h2 h3 o
 ·simp only [E5] at hno
  split at hno
  ·exact hno
  ·exact h.kp.ok n o hno
 ·obtain ⟨id,h1,h2,h3⟩:=hin k n hk hkn
  simp only [E5]
  split
  ·rename_i hex
   obtain ⟨i,i1,i2,i3⟩:=hex
   have:=h.inj i id n i2 h2 i3 h3
   subst this
   exact absurd (List.mem_of_getElem? h1) i1
  ·exact h.kp.sep id n h2 h3
 ·simp only [E5]
  split
  ·rename_i hex
   obtain ⟨i,i1,i2,i3⟩:=hex
   rw [show (E5 ids σ hp w).mem n o=σ.mem n o from rfl] at hv
   rw [h.sep i n i2 i3 o] at hv;cases hv
  ·exact h.kp.mem n o v hv
 ·have e1:(E5 ids σ hp w).dd k=match ids[k]? with | some id=>σ.dd id | none=>false:=rfl
  have e2:(E5 ids σ hp w).ds k=match ids[k]? with | some id=>σ.ds id | none=>false:=rfl
  rw [e1,e2] at hk
  cases hc:ids[k]? with
  | none=>rw [hc] at hk;simp at hk
  | some id=>exact (List.getElem?_eq_some_iff.1 hc).1
 ·have e1:(E5 ids σ hp w).dd k=match ids[k]? with | some id=>σ.dd id | none=>false:=rfl
  rw [e1] at hk
  cases hc:ids[k]? with
  | none=>rw [hc] at hk;simp at hk
  | some id=>rw [hc] at hk;exact (Jy hc).trans (h.rs.at_ id hk)
 ·have e1:(E5 ids σ hp w).ds k=match ids[k]? with | some id=>σ.ds id | none=>false:=rfl
  rw [e1] at hk
  cases hc:ids[k]? with
  | none=>rw [hc] at hk;simp at hk
  | some id=>rw [hc] at hk;exact (Pk hc).trans (h.rs.sv id hk)
def Hq (ids:List Nat) (nx:Nat) (σ τ:Env):Env where
 at_ i:=match Dj ids nx i with
  | some k=>τ k
  | none=>σ i
 sv i:=match Dj ids nx i with
  | some k=>τ.sv k
  | none=>σ.sv i
 mem:=τ.mem
 low:=σ.low
 kp:=σ.kp
 sz:=σ.sz
 dd:=σ.dd
 ds:=σ.ds
theorem Bt {ids:List Nat} {nx:Nat} {σ τ:Env} {i k:Nat} (h:Dj ids nx i=some k):Hq ids nx σ τ i=τ k∧(Hq ids nx σ τ).sv i=τ.sv k:=by
 constructor
 ·show (match Dj ids nx i with | some k=>τ k | none=>σ i)=_;rw [h]
 ·show (match Dj ids nx i with | some k=>τ.sv k | none=>σ.sv i)=_;rw [h]
theorem Dc {ids:List Nat} {nx:Nat} {σ τ:Env} {i:Nat} (h:Dj ids nx i=none):Hq ids nx σ τ i=σ i∧(Hq ids nx σ τ).sv i=σ.sv i:=by
 constructor
 ·show (match Dj ids nx i with | some k=>τ k | none=>σ i)=_;rw [h]
 ·show (match Dj ids nx i with | some k=>τ.sv k | none=>σ.sv i)=_;rw [h]
theorem Aet {ids:List Nat} {nx i:Nat} (h:Dj ids nx i=none):i ∉ ids∧i<nx:=by
 unfold Dj at h
 split at h
 ·cases h
 ·rename_i hi
  refine ⟨A0k hi,?_⟩
  cases hb:Nat.ble nx i with
  | true=>rw [hb,cond_true] at h;cases h
  | false =>
        rcases Nat.lt_or_ge i nx with k | k
        ·exact k
        ·rw [Nat.ble_eq_true_of_le k] at hb;cases hb
theorem Ic {ids:List Nat} {nx i k:Nat} (h:Dj ids nx i=some k):ids[k]? = some i∨(nx≤i∧k=ids.length+(i-nx)):=by
 unfold Dj at h
 split at h
 ·rename_i j hj;cases h;exact .inl (Ib hj)
 ·cases hb:Nat.ble nx i with
  | true=>rw [hb,cond_true] at h;cases h;exact .inr ⟨Nat.le_of_ble_eq_true hb,by rw [Bg]⟩
  | false=>rw [hb,cond_false] at h;cases h
theorem W0 {ids:List Nat} {nx:Nat} (hn:ids.Nodup) (hlt:∀ id ∈ ids,id<nx) (k:Nat):Dj ids nx (Vy ids nx k)=some k:=by
 unfold Vy
 rw [E4]
 cases hc:ids[k]? with
 | some id=>simp only [Dj,Auy hn hc]
 | none =>
  simp only [Dj,Bg]
  have hk:=List.getElem?_eq_none_iff.1 hc
  have hno:Hz ids (nx+(k-ids.length))=none:=by
   cases hx:Hz ids (nx+(k-ids.length)) with
   | none=>rfl
   | some j =>
    have:=hlt _ (List.mem_of_getElem? (Ib hx))
    omega
  rw [hno]
  simp only [Nat.ble_eq_true_of_le (Nat.le_add_right nx (k-ids.length)),cond_true,Option.some.injEq]
  omega
theorem Alx {ids:List Nat} {nx:Nat} {i j k:Nat} (_hlt:∀ id ∈ ids,id<nx) (h1:Dj ids nx i=some k) (h2:Dj ids nx j=some k):i=j:=by
 rcases Ic h1 with a | ⟨a,a'⟩ <;> rcases Ic h2 with b | ⟨b,b'⟩
 ·rw [a] at b;exact Option.some.inj b
 ·have:=(List.getElem?_eq_some_iff.1 a).1;omega
 ·have:=(List.getElem?_eq_some_iff.1 b).1;omega
 ·omega
theorem W1 {ids:List Nat} {nx:Nat} (hn:ids.Nodup) (hlt:∀ id ∈ ids,id<nx) (σ τ:Env):RenRel (fun k=>some (Vy ids nx k)) τ (Hq ids nx σ τ):=by
 refine ⟨fun k i b h hk=>?_,fun k i v h hk=>?_,fun _ _ _ h=>h⟩
 ·cases h;exact (Bt (W0 hn hlt k)).1.trans hk
 ·cases h;exact (Bt (W0 hn hlt k)).2.trans hk
theorem HRel.back {B:Nat} {σ τ:Env} {hp hpc:Ao} {nx nxc:Nat} {w w':World} (h:HRel B σ hp nx w) {ids:List Nat} (hn:ids.Nodup) (hlt:∀ id ∈ ids,id<nx) (hx:Ext (E5 ids σ hp w) τ) (hc:HRel B τ hpc nxc w') (hnx:ids.length≤nxc) :
  Ext σ (Hq ids nx σ τ)∧HRel B (Hq ids nx σ τ) (N1 ids nx hp hpc) (nx+(nxc-ids.length)) w':=by
 have hext:Ext σ (Hq ids nx σ τ):=by
  refine ⟨fun i b hi=>?_,fun b o v hv=>hx.2 b o v hv,fun i v hi=>?_,rfl,rfl,rfl,rfl,rfl⟩
  ·cases hp':Dj ids nx i with
   | none=>exact (Dc hp').1.trans hi
   | some k =>
    rcases Ic hp' with a | ⟨a,_⟩
    ·rw [(Bt hp').1]
     exact hx.1 k b ((Jy a).trans hi)
    ·rw [(h.fresh i a).1] at hi;cases hi
  ·cases hp':Dj ids nx i with
   | none=>exact (Dc hp').2.trans hi
   | some k =>
    rcases Ic hp' with a | ⟨a,_⟩
    ·rw [(Bt hp').2]
     exact hx.3 k v ((Pk a).trans hi)
    ·rw [(h.fresh i a).2.1] at hi;cases hi
 have hkp:τ.kp=(E5 ids σ hp w).kp:=hx.5.1
 have hsz:w.heap.size≤w'.heap.size:=by
  have:=hc.kp.sz
  rw [hx.5.2.1] at this
  exact this
 have inner:∀ i k,Dj ids nx i=some k→N1 ids nx hp hpc i=match hpc k with | some o=>Tf (fun k=>some (Vy ids nx k)) o | none=>none:=by
  intro i k hk
  unfold N1
  rw [hk]
 have outer:∀ i,Dj ids nx i=none→N1 ids nx hp hpc i=hp i:=by
  intro i hk
  unfold N1
  rw [hk]
 have liveIn:∀ i k,Dj ids nx i=some k→N1 ids nx hp hpc i≠none→hpc k≠none:=by
  intro i k hk hl e
  rw [inner i k hk,e] at hl
  exact hl rfl
 have cut_out:∀ i n,Dj ids nx i=none→hp i≠none→σ i=some n→(E5 ids σ hp w).kp n=w.heap[n]? := by
  intro i n hk hl hin
  simp only [E5]
  rw [if_pos ⟨i,(Aet hk).1,hl,hin⟩]
 have cut_ne:∀ i n,Dj ids nx i=none→hp i≠none→σ i=some n→τ.kp n≠none:=by
  intro i n hk hl hin
  rw [hkp,cut_out i n hk hl hin]
  have:=h.bound i n hin
  rw [Array.getElem?_eq_getElem this];simp
 have kp_keep:∀ n o,σ.kp n=some o→τ.kp n=some o:=by
  intro n o ho
  rw [hkp]
  simp only [E5]
  split
  ·exact h.kp.ok n o ho
  ·exact ho
 refine ⟨hext,⟨fun i o ho=>?_,fun i j n hi hj h1 h2=>?_,fun i hi=>?_,fun i n hi=>?_,hc.mem,fun i n hi h1 o=>?_,fun b o v hv hlt'=>?_,⟨Nat.le_trans h.kp.sz hsz,fun n o ho=>?_,fun i n hi h1=>?_,fun n o v hv=>?_⟩,⟨fun i hi=>Nat.lt_of_lt_of_le (h.rs.lt i hi) (Nat.le_add_right _ _),fun i hi=>?_,fun i hi=>?_⟩⟩⟩
 ·cases hk:Dj ids nx i with
  | none =>
   rw [outer i hk] at ho
   refine (h.ob i o ho).keep hext (Dc hk).1 fun n hin=>?_
   have hl:hp i≠none:=by rw [ho];simp
   have e:=cut_out i n hk hl hin
   have hb:=h.bound i n hin
   rw [Array.getElem?_eq_getElem hb] at e
   rw [← hkp] at e
   rw [hc.kp.ok n _ e,Array.getElem?_eq_getElem hb]
  | some k =>
   rw [inner i k hk] at ho
   cases hck:hpc k with
   | none=>rw [hck] at ho;cases ho
   | some o' =>
    rw [hck] at ho
    exact A3n (W1 hn hlt σ τ) (Bt hk).1 (fun v hv=>(Bt hk).2.trans hv) ho (hc.ob k o' hck)
 ·cases hki:Dj ids nx i with
  | none =>
   rw [(Dc hki).1] at h1
   have hli:hp i≠none:=by rw [← outer i hki];exact hi
   cases hkj:Dj ids nx j with
   | none =>
    rw [(Dc hkj).1] at h2
    exact h.inj i j n hli (by rw [← outer j hkj];exact hj) h1 h2
   | some b =>
    rw [(Bt hkj).1] at h2
    exact absurd (hc.kp.sep b n (liveIn j b hkj hj) h2) (cut_ne i n hki hli h1)
  | some a =>
   rw [(Bt hki).1] at h1
   cases hkj:Dj ids nx j with
   | none =>
    rw [(Dc hkj).1] at h2
    exact absurd (hc.kp.sep a n (liveIn i a hki hi) h1) (cut_ne j n hkj (by rw [← outer j hkj];exact hj) h2)
   | some b =>
    rw [(Bt hkj).1] at h2
    have:=hc.inj a b n (liveIn i a hki hi) (liveIn j b hkj hj) h1 h2
    subst this
    exact Alx hlt hki hkj
 ·have hk:Dj ids nx i=some (ids.length+(i-nx)):=by
   have hno:Hz ids i=none:=by
    cases hx:Hz ids i with
    | none=>rfl
    | some j=>have:=hlt _ (List.mem_of_getElem? (Ib hx));omega
   simp only [Dj,hno,Bg,Nat.ble_eq_true_of_le (show nx≤i by omega),cond_true]
  obtain ⟨f1,f2,f3⟩:=hc.fresh (ids.length+(i-nx)) (by omega)
  refine ⟨(Bt hk).1.trans f1,(Bt hk).2.trans f2,?_⟩
  rw [inner i _ hk,f3]
 ·cases hk:Dj ids nx i with
  | none=>rw [(Dc hk).1] at hi;exact Nat.lt_of_lt_of_le (h.bound i n hi) hsz
  | some k=>rw [(Bt hk).1] at hi;exact hc.bound k n hi
 ·cases hk:Dj ids nx i with
  | none =>
   rw [(Dc hk).1] at h1
   have hli:hp i≠none:=by rw [← outer i hk];exact hi
   cases hm:(Hq ids nx σ τ).mem n o with
   | none=>rfl
   | some v=>exact absurd (hc.kp.mem n o v hm) (cut_ne i n hk hli h1)
  | some k =>
   rw [(Bt hk).1] at h1
   exact hc.sep k n (liveIn i k hk hi) h1 o
 ·have:=hc.low b o v hv hlt'
  rw [hx.4] at this
  exact this
 ·exact hc.kp.ok n o (kp_keep n o ho)
 ·cases hs:(Hq ids nx σ τ).kp n with
  | none=>rfl
  | some o =>
   exfalso
   have hs':σ.kp n=some o:=hs
   cases hk:Dj ids nx i with
   | none =>
    rw [(Dc hk).1] at h1
    rw [h.kp.sep i n (by rw [← outer i hk];exact hi) h1] at hs';cases hs'
   | some k =>
    rw [(Bt hk).1] at h1
    have:=hc.kp.sep k n (liveIn i k hk hi) h1
    rw [kp_keep n o hs'] at this;cases this
 ·cases hs:(Hq ids nx σ τ).kp n with
  | none=>rfl
  | some o' =>
   have:=hc.kp.mem n o v hv
   rw [kp_keep n o' hs] at this;cases this
 ·have hi:σ.dd i=true:=hi
  cases hk:Dj ids nx i with
  | none=>exact (Dc hk).1.trans (h.rs.at_ i hi)
  | some k =>
   rcases Ic hk with a | ⟨a,_⟩
   ·have hd:τ.dd k=true:=by
     rw [hx.5.2.2.1]
     show (match ids[k]? with | some id=>σ.dd id | none=>false)=true
     rw [a];exact hi
    exact (Bt hk).1.trans (hc.rs.at_ k hd)
   ·have:=h.rs.lt i (.inl hi);omega
 ·have hi:σ.ds i=true:=hi
  cases hk:Dj ids nx i with
  | none=>exact (Dc hk).2.trans (h.rs.sv i hi)
  | some k =>
   rcases Ic hk with a | ⟨a,_⟩
   ·have hd:τ.ds k=true:=by
     rw [hx.5.2.2.2]
     show (match ids[k]? with | some id=>σ.ds id | none=>false)=true
     rw [a];exact hi
    exact (Bt hk).2.trans (hc.rs.sv k hd)
   ·have:=h.rs.lt i (.inr hi);omega
def Ga (xs:List AV) (hp:Ao) (nx:Nat):St:={ tm:=Ir xs,n:=Bz xs,hp:=hp,nx:=nx,df:=[],rd:=false }
@[reducible] def Air (ks:List SK) (bs:List BK) (nx:Nat):Lay:={ keys:=List.range ks.length,ks:=ks,bs:=bs,n:=ks.length,nx:=nx,marks:=[] }
structure FLay where
 ks:List SK
 bs:List BK
 nx:Nat
@[reducible] def FLay.lay (F:FLay):Lay:=Air F.ks F.bs F.nx
@[reducible] def FLay.T (F:FLay):Type:=SKTs F.ks×BTs F.bs
abbrev Ee (E:Bool→FLay):=(b:Bool)×(E b).T
def Auz {β:Type}:List β→Bool
 | [_]=>true
 | _=>false
def A0m (E:Bool→FLay) (v:Out) (hp:Ao) (nx:Nat):Tree (Ee E) :=
 match v with
 | .ret (.tup l)=>bif Auz l then .fail else match (E true).lay.to (Ga l hp nx) with
  | some g=>.leaf ⟨true,g⟩
  | none=>.fail
 | .ret x=>match (E true).lay.to (Ga [x] hp nx) with
  | some g=>.leaf ⟨true,g⟩
  | none=>.fail
 | .pan x=>match (E false).lay.to (Ga [x] hp nx) with
  | some g=>.leaf ⟨false,g⟩
  | none=>.fail
def Ais (r:Nat→Option Nat) (b:Bool) (xs:List AV):Out:=bif b then .ret (Sp (renL r xs)) else .pan (match renL r xs with
 | [x]=>x
 | _=>.top)
def Ky (probe:Ao→List AV→Option (List Nat)) (L:FLay) (E:Bool→FLay) (fin:L.T→Tree (Ee E)) (hp:Ao) (nx:Nat) (args:List AV):Tree (Out×Ao×Nat) :=
 match probe hp args with
 | none=>.fail
 | some ids=>bif A0j ids&&(ids.all (fun i=>Nat.blt i nx)&&Nat.ble (Bz ids) L.nx) then
   match L.lay.to (Ga (renL (Hz ids) args) (Tg ids hp) (Bz ids)) with
   | none=>.fail
   | some g=>(fin g).map fun z=>(Ais (fun k=>some (Vy ids nx k)) z.1 (ofKs (E z.1).ks z.2.1 (E z.1).nx),N1 ids nx hp ((E z.1).lay.hp z.2),nx+(((E z.1).lay.of z.2).nx-Bz ids))
  else .fail
theorem Aag:∀ (ks:List SK) (y:SKTs ks) (m:Nat),(ofKs ks y m).length=ks.length
 | [],_,_=>rfl
 | k::ks,y,m=>by simp only [ofKs,List.length_cons,Aag ks y.2]
theorem A0n:∀ (xs:List AV) (s j:Nat),j<xs.length→A63 (List.range' s xs.length) xs (s+j)=xs.getD j .top
 | [],_,_,h=>by simp at h
 | x::xs,s,j,h=>by
  simp only [List.length_cons,List.range'_succ,A63]
  cases j with
  | zero=>simp
  | succ j =>
   rw [Eb (by omega),cond_false]
   have:=A0n xs (s+1) j (by simpa using h)
   rw [show s+(j+1)=s+1+j by omega,this]
   simp
theorem A3o {w0 w:World} {σ:Env} {hp:Ao} {nx:Nat} {xs:List AV} {us:List Value} (hh:HRel w0.heap.size σ hp nx w) (hb:Below w0.heap.size w0 w) (hu:RepL σ xs us):Sat false w0 σ (Ga xs hp nx) { tmps:=us.toArray,defers:=[] } w:=by
 refine ⟨hh,fun t=>?_,?_,.nil,hb,rfl⟩
 ·have:=Kz xs us hu 0 t
  simpa [Ga,Array.getD_eq_getD_getElem?] using this
 ·simp [Ga,Bg,hu.length]
theorem A0o {w0 w:World} {σ:Env} {F:FLay} {g:F.T} {us:List Value} (hl:us.length=F.ks.length) (h:Sat false w0 σ (F.lay.of g) { tmps:=us.toArray,defers:=[] } w):RepL σ (ofKs F.ks g.1 F.nx) us:=by
 rw [Dx]
 have hlen:=Aag F.ks g.1 F.nx
 refine ⟨by rw [hlen,hl],fun i x v hx hv=>?_⟩
 have:=h.tm i
 have hi:=(List.getElem?_eq_some_iff.1 hx).1
 simp only [Lay.of,Air,FLay.lay] at this
 rw [List.range_eq_range',← hlen] at this
 have e:=A0n (ofKs F.ks g.1 F.nx) 0 i hi
 simp only [Nat.zero_add] at e
 rw [e] at this
 have e1:(ofKs F.ks g.1 F.nx).getD i .top=x:=by simp [hx]
 have e2:us.toArray.getD i undef=v:=by simp [Array.getD_eq_getD_getElem?,hv]
 rw [e1,e2] at this
 exact this
theorem Ait {F:FLay} {xs:List AV} {hp:Ao} {nx:Nat} {g:F.T} (h:F.lay.to (Ga xs hp nx)=some g):xs.length=F.ks.length:=by
 unfold Lay.to at h
 cases hb:Nat.beq (Ga xs hp nx).n F.lay.n with
 | false=>simp [hb] at h
 | true =>
  have:=Nat.eq_of_beq_eq_true hb
  simpa [Ga,Bg] using this
theorem Aah {X:Ctx} (hX:CtxOk X) {f:FuncId} (m:Nat) {probe:Ao→List AV→Option (List Nat)} {L:FLay} {E:Bool→FLay} (hE:∀ b,L.nx≤(E b).nx) {fin:L.T→Tree (Ee E)}
  (h:∀ g R,L.lay.WF g→(fin g).sat R→(Qq X (D1 X m) f (ofKs L.ks g.1 L.nx) (L.lay.hp g) (L.lay.of g).nx (A0m E)).sat (fun z=>(E z.1).lay.WF z.2→R z)):C5 X.P f (Ky probe L E fin):=by
 intro w0 σ hp nx w xs us R hh hb hu hs
 unfold Ky at hs
 cases hp1:probe hp xs with
 | none=>rw [hp1] at hs;exact hs.elim
 | some ids =>
  rw [hp1] at hs
  simp only at hs
  cases hok:(A0j ids&&(ids.all (fun i=>Nat.blt i nx)&&Nat.ble (Bz ids) L.nx)) with
  | false=>rw [hok] at hs;exact hs.elim
  | true =>
   rw [hok,cond_true] at hs
   simp only [Bool.and_eq_true,List.all_eq_true,C9,Nat.ble_eq,Bg] at hok
   obtain ⟨hn,hlt,hle⟩:=hok
   have hnd:=Aae hn
   cases hg:L.lay.to (Ga (renL (Hz ids) xs) (Tg ids hp) (Bz ids)) with
   | none=>rw [hg] at hs;exact hs.elim
   | some g =>
    rw [hg] at hs
    simp only [A64] at hs
    have hu1:=renL_rep (A0l (ids:=ids) σ hp w) xs us hu
    have hS:=A3o (Bg ids ▸ hh.cut hnd) hb hu1
    obtain ⟨hwf,rs,hF⟩:=hS.forget L.lay hg
    have hul:us.length=L.ks.length:=by rw [← hu1.length];exact Ait hg
    have hargs:=A0o hul hF
    obtain ⟨_,hcalls⟩:=A0y hX (Fj hX _ m) hF.h hF.bl hargs (h g _ hwf hs)
    have e1:Ext (E5 ids σ hp w) (Tb L.nx (E5 ids σ hp w) rs):=Fp (Ext.refl _) fun i hi=>Vz (Nat.le_trans hle hi)
    refine hcalls.mono ?_
    rintro e w' ⟨y,τ,hp2,nx2,k1,k2,k3,k4,k5⟩
    have e2:=e1.trans k1
    have key:∀ (b:Bool) (ys:List AV) (vs:List Value) (g2:(E b).T),RepL τ ys vs→(E b).lay.to (Ga ys hp2 nx2)=some g2→((E b).lay.WF g2→R (Ais (fun k=>some (Vy ids nx k)) b (ofKs (E b).ks g2.1 (E b).nx),N1 ids nx hp ((E b).lay.hp g2),nx+(((E b).lay.of g2).nx-Bz ids))) →
      (∀ τ' zs,RepL τ' zs vs→zs.length=vs.length→Aeg τ' (bif b then .ret (Sp zs) else .pan (match zs with | [x]=>x | _=>.top)) e) →
      ∃ y τ hp' nx',Ext σ τ∧HRel w0.heap.size τ hp' nx' w'∧Below w0.heap.size w0 w'∧Aeg τ y e∧R (y,hp',nx'):=by
     intro b ys vs g2 hv hg2 hR ho
     obtain ⟨wf2,rs2,hF2⟩:=(A3o k2 k3 hv).forget (E b).lay hg2
     have hvl:vs.length=(E b).ks.length:=by rw [← hv.length];exact Ait hg2
     have hout:=A0o hvl hF2
     have e3:Ext (E5 ids σ hp w) (Tb (E b).nx τ rs2):=Fp e2 fun i hi=>Vz (Nat.le_trans hle (Nat.le_trans (hE b) hi))
     have hnx:ids.length≤((E b).lay.of g2).nx:=Nat.le_trans hle (Nat.le_trans (hE b) (Nat.le_add_right _ _))
     obtain ⟨f1,f2⟩:=hh.back hnd hlt e3 hF2.h hnx
     have hout':=renL_rep (W1 hnd hlt σ (Tb (E b).nx τ rs2)) _ _ hout
     refine ⟨_,_,_,_,f1,f2,k3,?_,by rw [← Bg ids];exact hR wf2⟩
     have:=ho _ _ hout' hout'.length
     unfold Ais
     exact this
    cases y with
    | ret x =>
     cases e with
     | returned v =>
      have hx:Rep τ x v:=k4
      have one:(∀ l,x≠.tup l)→∃ y τ hp' nx',Ext σ τ∧HRel w0.heap.size τ hp' nx' w'∧Below w0.heap.size w0 w'∧Aeg τ y (.returned v)∧R (y,hp',nx'):=by
       intro hne
       have k6:(match (E true).lay.to (Ga [x] hp2 nx2) with | some g=>Tree.leaf (⟨true,g⟩:Ee E) | none=>.fail).sat (fun (z:Ee E)=>(E z.1).lay.WF z.2→R (Ais (fun k=>some (Vy ids nx k)) z.1 (ofKs (E z.1).ks z.2.1 (E z.1).nx),N1 ids nx hp ((E z.1).lay.hp z.2),nx+(((E z.1).lay.of z.2).nx-Bz ids))):=by
        unfold A0m at k5
        split at k5
        ·rename_i l heq
         cases heq
         exact absurd rfl (hne l)
        ·rename_i x' _ heq
         cases heq
         exact k5
        ·rename_i heq
         cases heq
       split at k6 <;> try (exact k6.elim)
       rename_i g2 hg2
       refine key true [x] [v] g2 (by simp only [RepL];exact ⟨v,[],rfl,hx,rfl⟩) hg2 k6 fun τ' zs hz hzl=>?_
       cases zs with
       | nil=>simp at hzl
       | cons z zs =>
        simp only [RepL,List.cons.injEq] at hz
        obtain ⟨v',us',⟨rfl,rfl⟩,h1,h2⟩:=hz
        cases zs with
        | nil=>exact h1
        | cons _ _=>simp at hzl
      cases x with
      | tup l =>
       simp only [A0m] at k5
       cases ho:Auz l with
       | true=>rw [ho,cond_true] at k5;exact k5.elim
       | false =>
        rw [ho,cond_false] at k5
        split at k5 <;> try (exact k5.elim)
        rename_i g2 hg2
        simp only [Rep] at hx
        obtain ⟨vs,h1,rfl⟩:=hx
        refine key true l vs g2 h1 hg2 k5 fun τ' zs hz hzl=>?_
        show Rep τ' (Sp zs) _
        have hne:∀ a,zs=[a]→False:=by
         intro a ha
         rw [ha] at hzl
         have:=h1.length
         cases l with
         | nil=>simp at this;rw [← this] at hzl;simp at hzl
         | cons b l=>cases l with
          | nil=>simp [Auz] at ho
          | cons _ _=>simp at this hzl;omega
        rw [Aiv hne]
        simp only [Rep]
        exact ⟨vs,hz,rfl⟩
      | _=>exact one (by simp)
     | panicked c=>exact k4.elim
     | outgrown=>exact k4.elim
    | pan x =>
     cases e with
     | panicked c =>
      obtain ⟨v,hv,rfl⟩:=k4
      simp only [A0m] at k5
      split at k5 <;> try (exact k5.elim)
      rename_i g2 hg2
      refine key false [x] [v] g2 (by simp only [RepL];exact ⟨v,[],rfl,hv,rfl⟩) hg2 k5 fun τ' zs hz hzl=>?_
      cases zs with
      | nil=>simp at hzl
      | cons z zs =>
       simp only [RepL,List.cons.injEq] at hz
       obtain ⟨v',us',⟨rfl,rfl⟩,h1,h2⟩:=hz
       cases zs with
       | nil=>exact ⟨_,h1,rfl⟩
       | cons _ _=>simp at hzl
     | returned v=>exact k4.elim
     | outgrown=>exact k4.elim
def Wq (P:Program) (pu:List (Nat×PureT)) (fns:List (Nat×Func)) (loops:List ((Nat×Nat)×(St→Tree (XE×St)))) (specs:List (Nat×(Ao→Nat→List AV→Tree (Out×Ao×Nat)))):Ctx:={ P:=P,u:=64,fns:=fns,loops:=loops,pures:=pu,specs:=specs }
theorem Hr {P:Program} (hm:P.follows .mixedOrders=true) {pu:List (Nat×PureT)} {fns:List (Nat×Func)} {loops:List ((Nat×Nat)×(St→Tree (XE×St)))} {specs:List (Nat×(Ao→Nat→List AV→Tree (Out×Ao×Nat)))} (hp:D3 P pu) (hf:∀ p ∈ fns,FnIs P p)
  (hl:∀ p ∈ fns,∀ d ∈ Al (bodyOf p.2),∀ g,Co loops p.1 (keyOf d)=some g→Aw P p.1 d g) (hs:∀ p ∈ specs,Plain P p.1∧C5 P p.1 p.2):CtxOk (Wq P pu fns loops specs) :=
 ⟨hm,hp,fun p h=>⟨(hf p h).1,(hf p h).2.1,fun c hc d hd f hfd=>hl p h d (by unfold bodyOf;rw [hc];exact hd) f hfd⟩,hs⟩
mutual
theorem B2u {σ:Env}:∀ (k:SK) {x:AV} {y:SKT k} {rs:Bi} {v:Value},toK 0 Ce k x=some (y,rs)→Rep σ x v→WFK k y
 | .d c,x,y,rs,v,h,hv=>by
  simp only [toK,Option.map_eq_some_iff,Prod.mk.injEq] at h
  obtain ⟨z,hz,rfl,_⟩:=h
  exact (Ov hz hv σ (.inl rfl)).2
 | .o ty c,x,y,rs,v,h,hv=>by
  simp only [toK] at h
  unfold toO at h
  split at h
  ·simp [Ce] at h
  ·cases hb:Nat.blt 0 c.size with
   | false=>rw [hb] at h;cases h
   | true =>
    rw [hb,cond_true] at h
    simp only [Option.some.injEq,Prod.mk.injEq] at h
    obtain ⟨rfl,_⟩:=h
    exact ⟨by simp [B7],by simp⟩
  ·cases h
 | .p id row st col,x,y,rs,v,h,hv=>trivial
 | .sli id off st len cap,x,y,rs,v,h,hv=>trivial
 | .r c col,x,y,rs,v,h,hv=>by
  simp only [toK] at h
  obtain ⟨_,rfl⟩:=Pi h
  simp only [Rep] at hv
  obtain ⟨_,_,vs,_,_,h3⟩:=hv
  exact RepD.wf c y vs h3
 | .y id,x,y,rs,v,h,hv=>trivial
 | .q id,x,y,rs,v,h,hv=>trivial
 | .m _ _,x,y,rs,v,h,hv=>by simp [toK] at h
 | .w id ty c,x,y,rs,v,h,hv=>by
  simp only [toK] at h
  exact absurd (Oh h).2.2.1 (Nat.not_lt_zero id)
 | .i t k,x,y,rs,v,h,hv=>by
  simp only [toK] at h
  obtain ⟨_,rfl⟩:=T8 h
  simp only [Rep] at hv
  obtain ⟨_,hu,_⟩:=hv
  exact hu.2
 | .f f a c,x,y,rs,v,h,hv=>by
  simp only [toK] at h
  split at h <;> try (cases h;done)
  rename_i u w hx
  have:=V0 hx
  subst this
  split at h <;> try (cases h;done)
  rename_i y1 r1 y2 r2 h1 h2
  simp only [Option.some.injEq,Prod.mk.injEq] at h
  obtain ⟨rfl,_⟩:=h
  simp only [Rep] at hv
  obtain ⟨p,q,k1,k2,k3⟩:=hv
  exact ⟨toKs_wf0 a h1 k1,toKs_wf0 c h2 k2⟩
 | .ag ks,x,y,rs,v,h,hv=>by
  simp only [toK] at h
  split at h <;> try (cases h;done)
  rename_i cs hx
  have:=Qx hx
  subst this
  simp only [Rep] at hv
  obtain ⟨vs,k1,k2⟩:=hv
  exact toKs_wf0 ks h k1
theorem toKs_wf0 {σ:Env}:∀ (ks:List SK) {xs:List AV} {y:SKTs ks} {rs:Bi} {vs:List Value},toKs 0 Ce ks xs=some (y,rs)→RepL σ xs vs→WFKs ks y
 | [],xs,y,rs,vs,h,hv=>trivial
 | k::ks,xs,y,rs,vs,h,hv=>by
  cases xs with
  | nil=>simp [toKs] at h
  | cons x xs =>
   simp only [toKs] at h
   split at h <;> try (cases h;done)
   rename_i y1 r1 y2 r2 h1 h2
   simp only [Option.some.injEq,Prod.mk.injEq] at h
   obtain ⟨rfl,_⟩:=h
   simp only [RepL] at hv
   obtain ⟨v,us,e,k1,k2⟩:=hv
   exact ⟨B2u k h1 k1,toKs_wf0 ks h2 k2⟩
end
def Ha (ks:List SK) (rs:List TC) (ok:SKTs ks→Bool) (f:SKTs ks→TCTs rs):PureT :=
 {
  run:=fun l=>match toKs 0 Ce ks l with
   | some (y,[])=>some (ok y,Au3 rs (f y))
   | _=>none
  flat:=noSls rs
  vw:=ks.map fun
   | .r c o=>.one (some (c,o))
   | .f _ _ cs=>.cl (cs.map fun
    | .r c o=>some (c,o)
    | _=>none)
   | _=>.one none }
theorem Bfm {P:Program} {f:FuncId} {ks:List SK} {rs:List TC} {ok:SKTs ks→Bool} {F:SKTs ks→TCTs rs}
  (h:∀ x:SKTs ks,ok x=true→WFKs ks x→∀ (w:World) (mem:Nat→Nat→Option Value) (us:List Value),MemOk mem w→RepL (Nt mem) (ofKs ks x 0) us→Calls' P f us.toArray w (A24 w (Nt mem) (Hx P rs) (fun y=>y=F x))):A6 P f (Ha ks rs ok F):=by
 intro σ w xs us r _ hm hu hg
 simp only [Ha] at hg
 split at hg <;> try (simp at hg;done)
 rename_i x hx
 simp only [Option.some.injEq,Prod.mk.injEq] at hg
 obtain ⟨hok,rfl⟩:=hg
 have hwf:WFKs ks x:=toKs_wf0 ks hx hu
 have h1:RepL (Nt σ.mem) (ofKs ks x 0) us:=toKs_rep (σ:=σ) (τ:=Nt σ.mem) rfl (fun i hi=>absurd hi (Nat.not_lt_zero i)) (fun i hi=>absurd hi (Nat.not_lt_zero i)) ks hx hu (fun j r h=>by simp at h)
 refine (h x hok hwf w σ.mem us hm h1).mono ?_
 rintro e w' ⟨y,τ,hp',nx',k1,k2,k3,k4,k5⟩
 cases y with
 | pan z=>simp [Hx,Tree.sat] at k5
 | ret z =>
  simp only [Hx] at k5
  split at k5 <;> try (simp [Tree.sat] at k5;done)
  rename_i q hq
  simp only [Tree.sat] at k5
  subst k5
  cases e with
  | returned v =>
   have hz:=Aix (P:=P) k2 (show Rep τ z v from k4)
   refine ⟨v,frozen τ hp' (Av3 hp' z) w',rfl,Ia k2 _,fun b o u hb=>Em k2 _ b o u (k1.2 b o u hb),fun b o u hb=>?_,fun _=>Ti hq hz _ (.inl rfl),fun hf τ' _=>Ti hq hz τ' (.inr hf),fun h=>absurd (show false=true from h) (by decide),k3⟩
   unfold frozen at hb
   split at hb
   ·rename_i hex
    obtain ⟨id,_,hne,hat⟩:=hex
    exact .inr (k2.ge hne hat)
   ·rcases Nat.lt_or_ge b w.heap.size with hlt | hge
    ·have:=k2.low b o u hb hlt
     rw [k1.4] at this
     exact .inl this
    ·exact .inr hge
  | panicked c=>exact k4.elim
  | outgrown=>exact k4.elim
theorem kq {X:Ctx} (hX:CtxOk X) {f:FuncId} {ks:List SK} {rs:List TC} {ok:SKTs ks→Bool} {F:SKTs ks→TCTs rs} (m:Nat)
  (h:∀ x:SKTs ks,ok x=true→WFKs ks x→(D1 X m (.fn f) (ofKs ks x 0) Ce 0 (Hx X.P rs)).sat (fun y=>y=F x)):A6 X.P f (Ha ks rs ok F) :=
 Bfm fun x hok hwf w mem us hm hu=>(Fj hX (fun y=>y=F x) m w (Nt mem) Ce 0 w (.fn f) _ us (Hx X.P rs) (V6 hm _) (Below.refl _ w) hu (h x hok hwf)).2
end V
end Go.Proofs.YtlangijnealfjaaGreat
