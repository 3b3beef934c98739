import Derived.Test.YtcfanlgpkefogaaGreatVC
namespace Go.Proofs.YtcfanlgpkefogaaGreat
open Go.RowKit
namespace V
def Ij:List Nat→Nat→Option Nat
 | [],_=>none
 | j::l,i=>bif Nat.beq j i then some 0 else match Ij l i with
  | some k=>some (k+1)
  | none=>none
mutual
def My (f:Nat→Option Nat):AV→AV
 | .bool b=>.bool b
 | .int k n=>.int k n
 | .ptr id row st col=>match f id with
  | some k=>.ptr k row st col
  | none=>.top
 | .nilp=>.nilp
 | .sl id off st len cap=>match f id with
  | some k=>.sl k off st len cap
  | none=>.top
 | .val v=>.val v
 | .agg cs=>.agg (renL f cs)
 | .tup cs=>.tup (renL f cs)
 | .fn g a c=>.fn g (renL f a) (renL f c)
 | .ro c xs=>.ro c xs
 | .rop c x col=>.rop c x col
 | .own id=>match f id with
  | some k=>.own k
  | none=>.top
 | .mp id=>match f id with
  | some k=>.mp k
  | none=>.top
 | .yld id=>match f id with
  | some k=>.yld k
  | none=>.top
 | .stp id=>match f id with
  | some k=>.stp k
  | none=>.top
 | .ifc t x=>.ifc t (My f x)
 | .top=>.top
def renL (f:Nat→Option Nat):List AV→List AV
 | []=>[]
 | x::xs=>My f x::renL f xs
end
def U8 (f:Nat→Option Nat):Ob→Option Ob
 | .blk b=>some (.blk ⟨b.ty,renL f b.cs⟩)
 | .arr A=>some (.arr A)
 | .mp M=>some (.mp ⟨M.kc,M.vc,M.get,[]⟩)
 | _=>none
def U9 (ids:List Nat) (hp:B0):B0:=fun k=>match nth ids k with
 | some id=>match hp id with
  | some o=>U8 (Ij ids) o
  | none=>none
 | none=>none
def Ww (ids:List Nat) (nx k:Nat):Nat:=match nth ids k with
 | some id=>id
 | none=>nx+(k-Ce ids)
def E0 (ids:List Nat) (nx i:Nat):Option Nat:=match Ij ids i with
 | some k=>some k
 | none=>bif Nat.ble nx i then some (Ce ids+(i-nx)) else none
def Nt (ids:List Nat) (nx:Nat) (hp hpc:B0):B0:=fun i=>match E0 ids nx i with
 | some k=>match hpc k with
  | some o=>U8 (fun k=>some (Ww ids nx k)) o
  | none=>none
 | none=>hp i
def A1c:List Nat→Bool
 | []=>true
 | i::l=>(l.all fun j=>!(Nat.beq j i))&&A1c l
structure RenRel (f:Nat→Option Nat) (σ τ:Env):Prop where
 at_:∀ i k b,f i=some k→σ i=some b→τ k=some b
 sv:∀ i k v,f i=some k→σ.sv i=some v→τ.sv k=some v
 mem:∀ b o v,σ.mem b o=some v→τ.mem b o=some v
mutual
theorem Abs {f:Nat→Option Nat} {σ τ:Env} (h:RenRel f σ τ):∀ (x:AV) (v:Value),Rep σ x v→Rep τ (My f x) v
 | .bool _,_,k=>by simpa only [My,Rep] using k
 | .int _ _,_,k=>by simpa only [My,Rep] using k
 | .ptr id row st col,v,k=>by
  simp only [Rep] at k
  obtain ⟨b,k1,k2⟩:=k
  simp only [My]
  split
  ·rename_i j hj;simp only [Rep];exact ⟨b,h.at_ _ _ _ hj k1,k2⟩
  ·simp only [Rep]
 | .nilp,_,k=>by simpa only [My,Rep] using k
 | .sl id off st len cap,v,k=>by
  simp only [Rep] at k
  obtain ⟨k1,k2,b,k3,k4⟩:=k
  simp only [My]
  split
  ·rename_i j hj;simp only [Rep];exact ⟨k1,k2,b,h.at_ _ _ _ hj k3,k4⟩
  ·simp only [Rep]
 | .val _,_,k=>by simpa only [My,Rep] using k
 | .agg cs,v,k=>by
  simp only [Rep] at k
  obtain ⟨vs,k1,k2⟩:=k
  simp only [My,Rep]
  exact ⟨vs,renL_rep h cs vs k1,k2⟩
 | .tup cs,v,k=>by
  simp only [Rep] at k
  obtain ⟨vs,k1,k2⟩:=k
  simp only [My,Rep]
  exact ⟨vs,renL_rep h cs vs k1,k2⟩
 | .fn g a c,v,k=>by
  simp only [Rep] at k
  obtain ⟨x,y,k1,k2,k3⟩:=k
  simp only [My,Rep]
  exact ⟨x,y,renL_rep h a x k1,renL_rep h c y k2,k3⟩
 | .ro c xs,v,k=>by
  simp only [Rep] at k
  simp only [My,Rep]
  exact RepD.mono h.mem (.sl c) xs [v] k
 | .rop c x col,v,k=>by
  simp only [Rep] at k
  obtain ⟨b,o,vs,k1,k2,k3⟩:=k
  simp only [My,Rep]
  exact ⟨b,o,vs,k1,k2.mono h.mem,RepD.mono h.mem c x vs k3⟩
 | .own id,v,k=>by
  simp only [Rep] at k
  simp only [My]
  split
  ·rename_i j hj;simp only [Rep];exact ⟨h.sv _ _ _ hj k.1,k.2⟩
  ·simp only [Rep]
 | .mp id,v,k=>by
  simp only [Rep] at k
  obtain ⟨b,k1,k2⟩:=k
  simp only [My]
  split
  ·rename_i j hj;simp only [Rep];exact ⟨b,h.at_ _ _ _ hj k1,k2⟩
  ·simp only [Rep]
 | .yld id,v,k=>by
  simp only [Rep] at k
  obtain ⟨b,k1,k2⟩:=k
  simp only [My]
  split
  ·rename_i j hj;simp only [Rep];exact ⟨b,h.at_ _ _ _ hj k1,k2⟩
  ·simp only [Rep]
 | .stp id,v,k=>by
  simp only [Rep] at k
  simp only [My]
  split
  ·rename_i j hj;simp only [Rep];exact ⟨h.sv _ _ _ hj k.1,k.2⟩
  ·simp only [Rep]
 | .ifc t x,v,k=>by
  simp only [Rep] at k
  obtain ⟨u,k1,k2⟩:=k
  simp only [My,Rep]
  exact ⟨u,Abs h x u k1,k2⟩
 | .top,_,_=>by simp only [My,Rep]
theorem renL_rep {f:Nat→Option Nat} {σ τ:Env} (h:RenRel f σ τ):∀ (xs:List AV) (vs:List Value),RepL σ xs vs→RepL τ (renL f xs) vs
 | [],_,k=>by simpa only [renL,RepL] using k
 | x::xs,vs,k=>by
  simp only [RepL] at k
  obtain ⟨v,us,k1,k2,k3⟩:=k
  simp only [renL,RepL]
  exact ⟨v,us,k1,Abs h x v k2,renL_rep h xs us k3⟩
end
theorem A4h {B:Nat} {f:Nat→Option Nat} {σ τ:Env} {w:World} {i k:Nat} {o o':Ob} (h:RenRel f σ τ) (hat:τ k=σ i) (hsv:∀ v,σ.sv i=some v→τ.sv k=some v) (ho:U8 f o=some o') (hr:ObRel B σ w i o):ObRel B τ w k o':=by
 cases o with
 | blk b =>
  simp only [U8,Option.some.injEq] at ho
  subst ho
  obtain ⟨n,vs,h1,h2,h3,h4⟩:=hr
  exact ⟨n,vs,hat.trans h1,h2,renL_rep h _ _ h3,h4⟩
 | arr A =>
  simp only [U8,Option.some.injEq] at ho
  subst ho
  obtain ⟨v,us,h1,h2,h3,h4,h5⟩:=hr
  exact ⟨v,us,hsv _ h1,h2,LR.mono (fun x vs=>RepD.mono h.mem A.c x vs) h3,h4,fun n=>by rw [hat];exact h5 n⟩
 | mp M =>
  simp only [U8,Option.some.injEq] at ho
  subst ho
  obtain ⟨n,es,clock,h1,h2,h3,h4⟩:=hr
  obtain ⟨kc,vc,get,ents⟩:=M
  exact ⟨n,es,clock,hat.trans h1,h2,(h3.mono h.mem (fun _ _ h=>h)).drop,h4⟩
 | _=>simp [U8] at ho
theorem Iz {ids:List Nat} {i k:Nat} (h:Ij ids i=some k):ids[k]? = some i:=by
 induction ids generalizing k with
 | nil=>simp [Ij] at h
 | cons j l ih =>
  simp only [Ij] at h
  cases hb:Nat.beq j i with
  | true=>rw [hb,cond_true] at h;cases h;simp [Nat.eq_of_beq_eq_true hb]
  | false =>
   rw [hb,cond_false] at h
   split at h
   ·rename_i k' hk'
    cases h
    simpa using ih hk'
   ·cases h
theorem A1d {ids:List Nat} {i:Nat} (h:Ij ids i=none):i ∉ ids:=by
 induction ids with
 | nil=>simp
 | cons j l ih =>
  simp only [Ij] at h
  cases hb:Nat.beq j i with
  | true=>rw [hb,cond_true] at h;cases h
  | false =>
   rw [hb,cond_false] at h
   split at h
   ·cases h
   ·rename_i hk
    intro hm
    rcases List.mem_cons.1 hm with rfl | hm
    ·simp at hb
    ·exact ih hk hm
theorem Abt {ids:List Nat} (h:A1c ids=true):ids.Nodup:=by
 induction ids with
 | nil=>simp
 | cons i l ih =>
  simp only [A1c,Bool.and_eq_true,List.all_eq_true,Bool.not_eq_true'] at h
  rw [List.nodup_cons]
  refine ⟨fun hm=>?_,ih h.2⟩
  have:=h.1 i hm
  simp at this
theorem Abu {ids:List Nat} (h:ids.Nodup) {j k i:Nat} (hj:ids[j]? = some i) (hk:ids[k]? = some i):j=k:=by
 obtain ⟨h1,h2⟩:=List.getElem?_eq_some_iff.1 hj
 obtain ⟨h3,h4⟩:=List.getElem?_eq_some_iff.1 hk
 have hp:=List.pairwise_iff_getElem.1 h
 rcases Nat.lt_trichotomy j k with x | x | x
 ·exact absurd (h2.trans h4.symm) (hp j k h1 h3 x)
 ·exact x
 ·exact absurd (h4.trans h2.symm) (hp k j h3 h1 x)
theorem Ay0 {ids:List Nat} (h:ids.Nodup) {k i:Nat} (hk:ids[k]? = some i):Ij ids i=some k:=by
 cases hc:Ij ids i with
 | none=>exact absurd (List.mem_of_getElem? hk) (A1d hc)
 | some j=>rw [Abu h (Iz hc) hk]
noncomputable def Ef (ids:List Nat) (σ:Env) (hp:B0) (w:World):Env where
 at_ k:=match ids[k]? with
  | some id=>σ id
  | none=>none
 sv k:=match ids[k]? with
  | some id=>σ.sv id
  | none=>none
 mem:=σ.mem
 low:=σ.low
 kp n:=open Classical in if ∃ i,i ∉ ids∧hp i≠none∧σ i=some n then w.heap[n]? else σ.kp n
 sz:=w.heap.size
 dd k:=match ids[k]? with
  | some id=>σ.dd id
  | none=>false
 ds k:=match ids[k]? with
  | some id=>σ.ds id
  | none=>false
theorem Ki {ids:List Nat} {σ:Env} {hp:B0} {w:World} {k id:Nat} (h:ids[k]? = some id):Ef ids σ hp w k=σ id:=by
 show (match ids[k]? with | some id=>σ id | none=>none)=_;rw [h]
theorem Qc {ids:List Nat} {σ:Env} {hp:B0} {w:World} {k id:Nat} (h:ids[k]? = some id):(Ef ids σ hp w).sv k=σ.sv id:=by
 show (match ids[k]? with | some id=>σ.sv id | none=>none)=_;rw [h]
theorem Jj {ids:List Nat} {σ:Env} {hp:B0} {w:World} {k:Nat} (h:ids.length≤k):Ef ids σ hp w k=none∧(Ef ids σ hp w).sv k=none:=by
 have:ids[k]? = none:=List.getElem?_eq_none h
 constructor
 ·show (match ids[k]? with | some id=>σ id | none=>none)=_;rw [this]
 ·show (match ids[k]? with | some id=>σ.sv id | none=>none)=_;rw [this]
theorem Wx {ids:List Nat} {σ:Env} {hp:B0} {w:World} {k:Nat} (h:ids.length≤k):Free (Ef ids σ hp w) k:=by
 have:ids[k]? = none:=List.getElem?_eq_none h
 refine ⟨(Jj h).1,(Jj h).2,?_,?_⟩
 ·show (match ids[k]? with | some id=>σ.dd id | none=>false)=_;rw [this]
 ·show (match ids[k]? with | some id=>σ.ds id | none=>false)=_;rw [this]
theorem A1e {ids:List Nat} (σ:Env) (hp:B0) (w:World):RenRel (Ij ids) σ (Ef ids σ hp w) :=
 ⟨fun _ _ _ h k=>(Ki (Iz h)).trans k,fun _ _ _ h k=>(Qc (Iz h)).trans k,fun _ _ _ h=>h⟩
theorem S4 {ids:List Nat} {hp:B0} {k:Nat} {o:Ob} (h:U9 ids hp k=some o):∃ id o',ids[k]? = some id∧hp id=some o'∧U8 (Ij ids) o'=some o:=by
 unfold U9 at h
 split at h
 ·rename_i id hid
  split at h
  ·rename_i o' ho'
   rw [Ee] at hid
   exact ⟨id,o',hid,ho',h⟩
  ·cases h
 ·cases h
theorem HRel.cut {B:Nat} {σ:Env} {hp:B0} {nx:Nat} {w:World} (h:HRel B σ hp nx w) {ids:List Nat} (hn:ids.Nodup):HRel B (Ef ids σ hp w) (U9 ids hp) ids.length w:=by
 have live:∀ k,U9 ids hp k≠none→∃ id,ids[k]? = some id∧hp id≠none:=by
  intro k hk
  cases ho:U9 ids hp k with
  | none=>exact absurd ho hk
  | some o =>
   obtain ⟨id,o',h1,h2,_⟩:=S4 ho
   exact ⟨id,h1,by rw [h2];simp⟩
 have hin:∀ k n,U9 ids hp k≠none→Ef ids σ hp w k=some n→∃ id,ids[k]? = some id∧hp id≠none∧σ id=some n:=by
  intro k n hk hkn
  obtain ⟨id,h1,h2⟩:=live k hk
  rw [Ki h1] at hkn
  exact ⟨id,h1,h2,hkn⟩
 refine ⟨fun k o ho=>?_,fun i j n hi hj h1 h2=>?_,fun k hk=>?_,fun k n hk=>?_,h.mem,fun k n hk hkn o=>?_,h.low,⟨Nat.le_refl _,fun n o hno=>?_,fun k n hk hkn=>?_,fun n o v hv=>?_⟩,⟨fun k hk=>?_,fun k hk=>?_,fun k hk=>?_⟩⟩
 ·obtain ⟨id,o',h1,h2,h3⟩:=S4 ho
  exact A4h (A1e σ hp w) (Ki h1) (fun v hv=>(Qc h1).trans hv) h3 (h.ob id o' h2)
 ·obtain ⟨a,a1,a2,a3⟩:=hin i n hi h1
  obtain ⟨b,b1,b2,b3⟩:=hin j n hj h2
  have:=h.inj a b n a2 b2 a3 b3
  subst this
  exact Abu hn a1 b1
 ·refine ⟨(Jj hk).1,(Jj hk).2,?_⟩
  cases ho:U9 ids hp k with
  | none=>rfl
  | some o =>
   obtain ⟨id,o',h1,_⟩:=S4 ho
   rw [List.getElem?_eq_none hk] at h1;cases h1
 ·cases hc:ids[k]? with
  | none=>rw [(Jj (List.getElem?_eq_none_iff.1 hc)).1] at hk;cases hk
  | some id=>rw [Ki hc] at hk;exact h.bound id n hk
 ·obtain ⟨id,h1,h2,h3⟩:=hin k n hk hkn
  exact h.sep id n h2 h3 o
 ·simp only [Ef] at hno
  split at hno
  ·exact hno
  ·exact h.kp.ok n o hno
 ·obtain ⟨id,h1,h2,h3⟩:=hin k n hk hkn
  simp only [Ef]
  split
  ·rename_i hex
   obtain ⟨i,i1,i2,i3⟩:=hex
   have:=h.inj i id n i2 h2 i3 h3
   subst this
   exact absurd (List.mem_of_getElem? h1) i1
  ·exact h.kp.sep id n h2 h3
 ·simp only [Ef]
  split
  ·rename_i hex
   obtain ⟨i,i1,i2,i3⟩:=hex
   rw [show (Ef ids σ hp w).mem n o=σ.mem n o from rfl] at hv
   rw [h.sep i n i2 i3 o] at hv;cases hv
  ·exact h.kp.mem n o v hv
 ·have e1:(Ef ids σ hp w).dd k=match ids[k]? with | some id=>σ.dd id | none=>false:=rfl
  have e2:(Ef ids σ hp w).ds k=match ids[k]? with | some id=>σ.ds id | none=>false:=rfl
  rw [e1,e2] at hk
  cases hc:ids[k]? with
  | none=>rw [hc] at hk;simp at hk
  | some id=>exact (List.getElem?_eq_some_iff.1 hc).1
 ·have e1:(Ef ids σ hp w).dd k=match ids[k]? with | some id=>σ.dd id | none=>false:=rfl
  rw [e1] at hk
  cases hc:ids[k]? with
  | none=>rw [hc] at hk;simp at hk
  | some id=>rw [hc] at hk;exact (Ki hc).trans (h.rs.at_ id hk)
 ·have e1:(Ef ids σ hp w).ds k=match ids[k]? with | some id=>σ.ds id | none=>false:=rfl
  rw [e1] at hk
  cases hc:ids[k]? with
  | none=>rw [hc] at hk;simp at hk
  | some id=>rw [hc] at hk;exact (Qc hc).trans (h.rs.sv id hk)
def Ia (ids:List Nat) (nx:Nat) (σ τ:Env):Env where
 at_ i:=match E0 ids nx i with
  | some k=>τ k
  | none=>σ i
 sv i:=match E0 ids nx i with
  | some k=>τ.sv k
  | none=>σ.sv i
 mem:=τ.mem
 low:=σ.low
 kp:=σ.kp
 sz:=σ.sz
 dd:=σ.dd
 ds:=σ.ds
theorem Ca {ids:List Nat} {nx:Nat} {σ τ:Env} {i k:Nat} (h:E0 ids nx i=some k):Ia ids nx σ τ i=τ k∧(Ia ids nx σ τ).sv i=τ.sv k:=by
 constructor
 ·show (match E0 ids nx i with | some k=>τ k | none=>σ i)=_;rw [h]
 ·show (match E0 ids nx i with | some k=>τ.sv k | none=>σ.sv i)=_;rw [h]
theorem Dq {ids:List Nat} {nx:Nat} {σ τ:Env} {i:Nat} (h:E0 ids nx i=none):Ia ids nx σ τ i=σ i∧(Ia ids nx σ τ).sv i=σ.sv i:=by
 constructor
 ·show (match E0 ids nx i with | some k=>τ k | none=>σ i)=_;rw [h]
 ·show (match E0 ids nx i with | some k=>τ.sv k | none=>σ.sv i)=_;rw [h]
theorem Ag8 {ids:List Nat} {nx i:Nat} (h:E0 ids nx i=none):i ∉ ids∧i<nx:=by
 unfold E0 at h
 split at h
 ·cases h
 ·rename_i hi
  refine ⟨A1d hi,?_⟩
  cases hb:Nat.ble nx i with
  | true=>rw [hb,cond_true] at h;cases h
  | false =>
        rcases Nat.lt_or_ge i nx with k | k
        ·exact k
        ·rw [Nat.ble_eq_true_of_le k] at hb;cases hb
theorem J0 {ids:List Nat} {nx i k:Nat} (h:E0 ids nx i=some k):ids[k]? = some i∨(nx≤i∧k=ids.length+(i-nx)):=by
 unfold E0 at h
 split at h
 ·rename_i j hj;cases h;exact .inl (Iz hj)
 ·cases hb:Nat.ble nx i with
  | true=>rw [hb,cond_true] at h;cases h;exact .inr ⟨Nat.le_of_ble_eq_true hb,by rw [C0]⟩
  | false=>rw [hb,cond_false] at h;cases h
theorem Wy {ids:List Nat} {nx:Nat} (hn:ids.Nodup) (hlt:∀ id ∈ ids,id<nx) (k:Nat):E0 ids nx (Ww ids nx k)=some k:=by
 unfold Ww
 rw [Ee]
 cases hc:ids[k]? with
 | some id=>simp only [E0,Ay0 hn hc]
 | none =>
  simp only [E0,C0]
  have hk:=List.getElem?_eq_none_iff.1 hc
  have hno:Ij ids (nx+(k-ids.length))=none:=by
   cases hx:Ij ids (nx+(k-ids.length)) with
   | none=>rfl
   | some j =>
    have:=hlt _ (List.mem_of_getElem? (Iz hx))
    omega
  rw [hno]
  simp only [Nat.ble_eq_true_of_le (Nat.le_add_right nx (k-ids.length)),cond_true,Option.some.injEq]
  omega
theorem Ann {ids:List Nat} {nx:Nat} {i j k:Nat} (_hlt:∀ id ∈ ids,id<nx) (h1:E0 ids nx i=some k) (h2:E0 ids nx j=some k):i=j:=by
 rcases J0 h1 with a | ⟨a,a'⟩ <;> rcases J0 h2 with b | ⟨b,b'⟩
 ·rw [a] at b;exact Option.some.inj b
 ·have:=(List.getElem?_eq_some_iff.1 a).1;omega
 ·have:=(List.getElem?_eq_some_iff.1 b).1;omega
 ·omega
theorem Wz {ids:List Nat} {nx:Nat} (hn:ids.Nodup) (hlt:∀ id ∈ ids,id<nx) (σ τ:Env):RenRel (fun k=>some (Ww ids nx k)) τ (Ia ids nx σ τ):=by
 refine ⟨fun k i b h hk=>?_,fun k i v h hk=>?_,fun _ _ _ h=>h⟩
 ·cases h;exact (Ca (Wy hn hlt k)).1.trans hk
 ·cases h;exact (Ca (Wy hn hlt k)).2.trans hk
theorem HRel.back {B:Nat} {σ τ:Env} {hp hpc:B0} {nx nxc:Nat} {w w':World} (h:HRel B σ hp nx w) {ids:List Nat} (hn:ids.Nodup) (hlt:∀ id ∈ ids,id<nx) (hx:Ext (Ef ids σ hp w) τ) (hc:HRel B τ hpc nxc w') (hnx:ids.length≤nxc) :
  Ext σ (Ia ids nx σ τ)∧HRel B (Ia ids nx σ τ) (Nt ids nx hp hpc) (nx+(nxc-ids.length)) w':=by
 have hext:Ext σ (Ia ids nx σ τ):=by
  refine ⟨fun i b hi=>?_,fun b o v hv=>hx.2 b o v hv,fun i v hi=>?_,rfl,rfl,rfl,rfl,rfl⟩
  ·cases hp':E0 ids nx i with
   | none=>exact (Dq hp').1.trans hi
   | some k =>
    rcases J0 hp' with a | ⟨a,_⟩
    ·rw [(Ca hp').1]
     exact hx.1 k b ((Ki a).trans hi)
    ·rw [(h.fresh i a).1] at hi;cases hi
  ·cases hp':E0 ids nx i with
   | none=>exact (Dq hp').2.trans hi
   | some k =>
    rcases J0 hp' with a | ⟨a,_⟩
    ·rw [(Ca hp').2]
     exact hx.3 k v ((Qc a).trans hi)
    ·rw [(h.fresh i a).2.1] at hi;cases hi
 have hkp:τ.kp=(Ef ids σ hp w).kp:=hx.5.1
 have hsz:w.heap.size≤w'.heap.size:=by
  have:=hc.kp.sz
  rw [hx.5.2.1] at this
  exact this
 have inner:∀ i k,E0 ids nx i=some k→Nt ids nx hp hpc i=match hpc k with | some o=>U8 (fun k=>some (Ww ids nx k)) o | none=>none:=by
  intro i k hk
  unfold Nt
  rw [hk]
 have outer:∀ i,E0 ids nx i=none→Nt ids nx hp hpc i=hp i:=by
  intro i hk
  unfold Nt
  rw [hk]
 have liveIn:∀ i k,E0 ids nx i=some k→Nt ids nx hp hpc i≠none→hpc k≠none:=by
  intro i k hk hl e
  rw [inner i k hk,e] at hl
  exact hl rfl
 have cut_out:∀ i n,E0 ids nx i=none→hp i≠none→σ i=some n→(Ef ids σ hp w).kp n=w.heap[n]? := by
  intro i n hk hl hin
  simp only [Ef]
  rw [if_pos ⟨i,(Ag8 hk).1,hl,hin⟩]
 have cut_ne:∀ i n,E0 ids nx i=none→hp i≠none→σ i=some n→τ.kp n≠none:=by
  intro i n hk hl hin
  rw [hkp,cut_out i n hk hl hin]
  have:=h.bound i n hin
  rw [Array.getElem?_eq_getElem this];simp
 have kp_keep:∀ n o,σ.kp n=some o→τ.kp n=some o:=by
  intro n o ho
  rw [hkp]
  simp only [Ef]
  split
  ·exact h.kp.ok n o ho
  ·exact ho
 refine ⟨hext,⟨fun i o ho=>?_,fun i j n hi hj h1 h2=>?_,fun i hi=>?_,fun i n hi=>?_,hc.mem,fun i n hi h1 o=>?_,fun b o v hv hlt'=>?_,⟨Nat.le_trans h.kp.sz hsz,fun n o ho=>?_,fun i n hi h1=>?_,fun n o v hv=>?_⟩,⟨fun i hi=>Nat.lt_of_lt_of_le (h.rs.lt i hi) (Nat.le_add_right _ _),fun i hi=>?_,fun i hi=>?_⟩⟩⟩
 ·cases hk:E0 ids nx i with
  | none =>
   rw [outer i hk] at ho
   refine (h.ob i o ho).keep hext (Dq hk).1 fun n hin=>?_
   have hl:hp i≠none:=by rw [ho];simp
   have e:=cut_out i n hk hl hin
   have hb:=h.bound i n hin
   rw [Array.getElem?_eq_getElem hb] at e
   rw [← hkp] at e
   rw [hc.kp.ok n _ e,Array.getElem?_eq_getElem hb]
  | some k =>
   rw [inner i k hk] at ho
   cases hck:hpc k with
   | none=>rw [hck] at ho;cases ho
   | some o' =>
    rw [hck] at ho
    exact A4h (Wz hn hlt σ τ) (Ca hk).1 (fun v hv=>(Ca hk).2.trans hv) ho (hc.ob k o' hck)
 ·cases hki:E0 ids nx i with
  | none =>
   rw [(Dq hki).1] at h1
   have hli:hp i≠none:=by rw [← outer i hki];exact hi
   cases hkj:E0 ids nx j with
   | none =>
    rw [(Dq hkj).1] at h2
    exact h.inj i j n hli (by rw [← outer j hkj];exact hj) h1 h2
   | some b =>
    rw [(Ca hkj).1] at h2
    exact absurd (hc.kp.sep b n (liveIn j b hkj hj) h2) (cut_ne i n hki hli h1)
  | some a =>
   rw [(Ca hki).1] at h1
   cases hkj:E0 ids nx j with
   | none =>
    rw [(Dq hkj).1] at h2
    exact absurd (hc.kp.sep a n (liveIn i a hki hi) h1) (cut_ne j n hkj (by rw [← outer j hkj];exact hj) h2)
   | some b =>
    rw [(Ca hkj).1] at h2
    have:=hc.inj a b n (liveIn i a hki hi) (liveIn j b hkj hj) h1 h2
    subst this
    exact Ann hlt hki hkj
 ·have hk:E0 ids nx i=some (ids.length+(i-nx)):=by
   have hno:Ij ids i=none:=by
    cases hx:Ij ids i with
    | none=>rfl
    | some j=>have:=hlt _ (List.mem_of_getElem? (Iz hx));omega
   simp only [E0,hno,C0,Nat.ble_eq_true_of_le (show nx≤i by omega),cond_true]
  obtain ⟨f1,f2,f3⟩:=hc.fresh (ids.length+(i-nx)) (by omega)
  refine ⟨(Ca hk).1.trans f1,(Ca hk).2.trans f2,?_⟩
  rw [inner i _ hk,f3]
 ·cases hk:E0 ids nx i with
  | none=>rw [(Dq hk).1] at hi;exact Nat.lt_of_lt_of_le (h.bound i n hi) hsz
  | some k=>rw [(Ca hk).1] at hi;exact hc.bound k n hi
 ·cases hk:E0 ids nx i with
  | none =>
   rw [(Dq hk).1] at h1
   have hli:hp i≠none:=by rw [← outer i hk];exact hi
   cases hm:(Ia ids nx σ τ).mem n o with
   | none=>rfl
   | some v=>exact absurd (hc.kp.mem n o v hm) (cut_ne i n hk hli h1)
  | some k =>
   rw [(Ca hk).1] at h1
   exact hc.sep k n (liveIn i k hk hi) h1 o
 ·have:=hc.low b o v hv hlt'
  rw [hx.4] at this
  exact this
 ·exact hc.kp.ok n o (kp_keep n o ho)
 ·cases hs:(Ia ids nx σ τ).kp n with
  | none=>rfl
  | some o =>
   exfalso
   have hs':σ.kp n=some o:=hs
   cases hk:E0 ids nx i with
   | none =>
    rw [(Dq hk).1] at h1
    rw [h.kp.sep i n (by rw [← outer i hk];exact hi) h1] at hs';cases hs'
   | some k =>
    rw [(Ca hk).1] at h1
    have:=hc.kp.sep k n (liveIn i k hk hi) h1
    rw [kp_keep n o hs'] at this;cases this
 ·cases hs:(Ia ids nx σ τ).kp n with
  | none=>rfl
  | some o' =>
   have:=hc.kp.mem n o v hv
   rw [kp_keep n o' hs] at this;cases this
 ·have hi:σ.dd i=true:=hi
  cases hk:E0 ids nx i with
  | none=>exact (Dq hk).1.trans (h.rs.at_ i hi)
  | some k =>
   rcases J0 hk with a | ⟨a,_⟩
   ·have hd:τ.dd k=true:=by
     rw [hx.5.2.2.1]
     show (match ids[k]? with | some id=>σ.dd id | none=>false)=true
     rw [a];exact hi
    exact (Ca hk).1.trans (hc.rs.at_ k hd)
   ·have:=h.rs.lt i (.inl hi);omega
 ·have hi:σ.ds i=true:=hi
  cases hk:E0 ids nx i with
  | none=>exact (Dq hk).2.trans (h.rs.sv i hi)
  | some k =>
   rcases J0 hk with a | ⟨a,_⟩
   ·have hd:τ.ds k=true:=by
     rw [hx.5.2.2.2]
     show (match ids[k]? with | some id=>σ.ds id | none=>false)=true
     rw [a];exact hi
    exact (Ca hk).2.trans (hc.rs.sv k hd)
   ·have:=h.rs.lt i (.inr hi);omega
def Gm (xs:List AV) (hp:B0) (nx:Nat):St:={ tm:=J8 xs,n:=Ce xs,hp:=hp,nx:=nx,df:=[],rd:=false }
@[reducible] def Akk (ks:List SK) (bs:List BK) (nx:Nat):Lay:={ keys:=List.range ks.length,ks:=ks,bs:=bs,n:=ks.length,nx:=nx,marks:=[] }
structure FLay where
 ks:List SK
 bs:List BK
 nx:Nat
@[reducible] def FLay.lay (F:FLay):Lay:=Akk F.ks F.bs F.nx
@[reducible] def FLay.T (F:FLay):Type:=SKTs F.ks×BTs F.bs
abbrev Ev (E:Bool→FLay):=(b:Bool)×(E b).T
def Ay1 {β:Type}:List β→Bool
 | [_]=>true
 | _=>false
def X0 (E:Bool→FLay) (v:Out) (hp:B0) (nx:Nat):Tree (Ev E) :=
 match v with
 | .ret (.tup l)=>bif Ay1 l then .fail else match (E true).lay.to (Gm l hp nx) with
  | some g=>.leaf ⟨true,g⟩
  | none=>.fail
 | .ret x=>match (E true).lay.to (Gm [x] hp nx) with
  | some g=>.leaf ⟨true,g⟩
  | none=>.fail
 | .pan x=>match (E false).lay.to (Gm [x] hp nx) with
  | some g=>.leaf ⟨false,g⟩
  | none=>.fail
def Akl (r:Nat→Option Nat) (b:Bool) (xs:List AV):Out:=bif b then .ret (Tr (renL r xs)) else .pan (match renL r xs with
 | [x]=>x
 | _=>.top)
def Ly (probe:B0→List AV→Option (List Nat)) (L:FLay) (E:Bool→FLay) (fin:L.T→Tree (Ev E)) (hp:B0) (nx:Nat) (args:List AV):Tree (Out×B0×Nat) :=
 match probe hp args with
 | none=>.fail
 | some ids=>bif A1c ids&&(ids.all (fun i=>Nat.blt i nx)&&Nat.ble (Ce ids) L.nx) then
   match L.lay.to (Gm (renL (Ij ids) args) (U9 ids hp) (Ce ids)) with
   | none=>.fail
   | some g=>(fin g).map fun z=>(Akl (fun k=>some (Ww ids nx k)) z.1 (ofKs (E z.1).ks z.2.1 (E z.1).nx),Nt ids nx hp ((E z.1).lay.hp z.2),nx+(((E z.1).lay.of z.2).nx-Ce ids))
  else .fail
theorem Abv:∀ (ks:List SK) (y:SKTs ks) (m:Nat),(ofKs ks y m).length=ks.length
 | [],_,_=>rfl
 | k::ks,y,m=>by simp only [ofKs,List.length_cons,Abv ks y.2]
theorem A1f:∀ (xs:List AV) (s j:Nat),j<xs.length→A76 (List.range' s xs.length) xs (s+j)=xs.getD j .top
 | [],_,_,h=>by simp at h
 | x::xs,s,j,h=>by
  simp only [List.length_cons,List.range'_succ,A76]
  cases j with
  | zero=>simp
  | succ j =>
   rw [En (by omega),cond_false]
   have:=A1f xs (s+1) j (by simpa using h)
   rw [show s+(j+1)=s+1+j by omega,this]
   simp
theorem A4i {w0 w:World} {σ:Env} {hp:B0} {nx:Nat} {xs:List AV} {us:List Value} (hh:HRel w0.heap.size σ hp nx w) (hb:Below w0.heap.size w0 w) (hu:RepL σ xs us):Sat false w0 σ (Gm xs hp nx) { tmps:=us.toArray,defers:=[] } w:=by
 refine ⟨hh,fun t=>?_,?_,.nil,hb,rfl⟩
 ·have:=Lz xs us hu 0 t
  simpa [Gm,Array.getD_eq_getD_getElem?] using this
 ·simp [Gm,C0,hu.length]
theorem A1g {w0 w:World} {σ:Env} {F:FLay} {g:F.T} {us:List Value} (hl:us.length=F.ks.length) (h:Sat false w0 σ (F.lay.of g) { tmps:=us.toArray,defers:=[] } w):RepL σ (ofKs F.ks g.1 F.nx) us:=by
 rw [E4]
 have hlen:=Abv F.ks g.1 F.nx
 refine ⟨by rw [hlen,hl],fun i x v hx hv=>?_⟩
 have:=h.tm i
 have hi:=(List.getElem?_eq_some_iff.1 hx).1
 simp only [Lay.of,Akk,FLay.lay] at this
 rw [List.range_eq_range',← hlen] at this
 have e:=A1f (ofKs F.ks g.1 F.nx) 0 i hi
 simp only [Nat.zero_add] at e
 rw [e] at this
 have e1:(ofKs F.ks g.1 F.nx).getD i .top=x:=by simp [hx]
 have e2:us.toArray.getD i undef=v:=by simp [Array.getD_eq_getD_getElem?,hv]
 rw [e1,e2] at this
 exact this
theorem Akm {F:FLay} {xs:List AV} {hp:B0} {nx:Nat} {g:F.T} (h:F.lay.to (Gm xs hp nx)=some g):xs.length=F.ks.length:=by
 unfold Lay.to at h
 cases hb:Nat.beq (Gm xs hp nx).n F.lay.n with
 | false=>simp [hb] at h
 | true =>
  have:=Nat.eq_of_beq_eq_true hb
  simpa [Gm,C0] using this
theorem Abw {X:Ctx} (hX:CtxOk X) {f:FuncId} (m:Nat) {probe:B0→List AV→Option (List Nat)} {L:FLay} {E:Bool→FLay} (hE:∀ b,L.nx≤(E b).nx) {fin:L.T→Tree (Ev E)}
  (h:∀ g R,L.lay.WF g→(fin g).sat R→(P9 X (E1 X m) f (ofKs L.ks g.1 L.nx) (L.lay.hp g) (L.lay.of g).nx (X0 E)).sat (fun z=>(E z.1).lay.WF z.2→R z)):C3 X.P f (Ly probe L E fin):=by
 intro w0 σ hp nx w xs us R hh hb hu hs
 unfold Ly at hs
 cases hp1:probe hp xs with
 | none=>rw [hp1] at hs;exact hs.elim
 | some ids =>
  rw [hp1] at hs
  simp only at hs
  cases hok:(A1c ids&&(ids.all (fun i=>Nat.blt i nx)&&Nat.ble (Ce ids) L.nx)) with
  | false=>rw [hok] at hs;exact hs.elim
  | true =>
   rw [hok,cond_true] at hs
   simp only [Bool.and_eq_true,List.all_eq_true,Cj,Nat.ble_eq,C0] at hok
   obtain ⟨hn,hlt,hle⟩:=hok
   have hnd:=Abt hn
   cases hg:L.lay.to (Gm (renL (Ij ids) xs) (U9 ids hp) (Ce ids)) with
   | none=>rw [hg] at hs;exact hs.elim
   | some g =>
    rw [hg] at hs
    simp only [A77] at hs
    have hu1:=renL_rep (A1e (ids:=ids) σ hp w) xs us hu
    have hS:=A4i (C0 ids ▸ hh.cut hnd) hb hu1
    obtain ⟨hwf,rs,hF⟩:=hS.forget L.lay hg
    have hul:us.length=L.ks.length:=by rw [← hu1.length];exact Akm hg
    have hargs:=A1g hul hF
    obtain ⟨_,hcalls⟩:=A1q hX (G2 hX _ m) hF.h hF.bl hargs (h g _ hwf hs)
    have e1:Ext (Ef ids σ hp w) (U4 L.nx (Ef ids σ hp w) rs):=G5 (Ext.refl _) fun i hi=>Wx (Nat.le_trans hle hi)
    refine hcalls.mono ?_
    rintro e w' ⟨y,τ,hp2,nx2,k1,k2,k3,k4,k5⟩
    have e2:=e1.trans k1
    have key:∀ (b:Bool) (ys:List AV) (vs:List Value) (g2:(E b).T),RepL τ ys vs→(E b).lay.to (Gm ys hp2 nx2)=some g2→((E b).lay.WF g2→R (Akl (fun k=>some (Ww ids nx k)) b (ofKs (E b).ks g2.1 (E b).nx),Nt ids nx hp ((E b).lay.hp g2),nx+(((E b).lay.of g2).nx-Ce ids))) →
      (∀ τ' zs,RepL τ' zs vs→zs.length=vs.length→Afv τ' (bif b then .ret (Tr zs) else .pan (match zs with | [x]=>x | _=>.top)) e) →
      ∃ y τ hp' nx',Ext σ τ∧HRel w0.heap.size τ hp' nx' w'∧Below w0.heap.size w0 w'∧Afv τ y e∧R (y,hp',nx'):=by
     intro b ys vs g2 hv hg2 hR ho
     obtain ⟨wf2,rs2,hF2⟩:=(A4i k2 k3 hv).forget (E b).lay hg2
     have hvl:vs.length=(E b).ks.length:=by rw [← hv.length];exact Akm hg2
     have hout:=A1g hvl hF2
     have e3:Ext (Ef ids σ hp w) (U4 (E b).nx τ rs2):=G5 e2 fun i hi=>Wx (Nat.le_trans hle (Nat.le_trans (hE b) hi))
     have hnx:ids.length≤((E b).lay.of g2).nx:=Nat.le_trans hle (Nat.le_trans (hE b) (Nat.le_add_right _ _))
     obtain ⟨f1,f2⟩:=hh.back hnd hlt e3 hF2.h hnx
     have hout':=renL_rep (Wz hnd hlt σ (U4 (E b).nx τ rs2)) _ _ hout
     refine ⟨_,_,_,_,f1,f2,k3,?_,by rw [← C0 ids];exact hR wf2⟩
     have:=ho _ _ hout' hout'.length
     unfold Akl
     exact this
    cases y with
    | ret x =>
     cases e with
     | returned v =>
      have hx:Rep τ x v:=k4
      have one:(∀ l,x≠.tup l)→∃ y τ hp' nx',Ext σ τ∧HRel w0.heap.size τ hp' nx' w'∧Below w0.heap.size w0 w'∧Afv τ y (.returned v)∧R (y,hp',nx'):=by
       intro hne
       have k6:(match (E true).lay.to (Gm [x] hp2 nx2) with | some g=>Tree.leaf (⟨true,g⟩:Ev E) | none=>.fail).sat (fun (z:Ev E)=>(E z.1).lay.WF z.2→R (Akl (fun k=>some (Ww ids nx k)) z.1 (ofKs (E z.1).ks z.2.1 (E z.1).nx),Nt ids nx hp ((E z.1).lay.hp z.2),nx+(((E z.1).lay.of z.2).nx-Ce ids))):=by
        unfold X0 at k5
        split at k5
        ·rename_i l heq
         cases heq
         exact absurd rfl (hne l)
        ·rename_i x' _ heq
         cases heq
         exact k5
        ·rename_i heq
         cases heq
       split at k6 <;> try (exact k6.elim)
       rename_i g2 hg2
       refine key true [x] [v] g2 (by simp only [RepL];exact ⟨v,[],rfl,hx,rfl⟩) hg2 k6 fun τ' zs hz hzl=>?_
       cases zs with
       | nil=>simp at hzl
       | cons z zs =>
        simp only [RepL,List.cons.injEq] at hz
        obtain ⟨v',us',⟨rfl,rfl⟩,h1,h2⟩:=hz
        cases zs with
        | nil=>exact h1
        | cons _ _=>simp at hzl
      cases x with
      | tup l =>
       simp only [X0] at k5
       cases ho:Ay1 l with
       | true=>rw [ho,cond_true] at k5;exact k5.elim
       | false =>
        rw [ho,cond_false] at k5
        split at k5 <;> try (exact k5.elim)
        rename_i g2 hg2
        simp only [Rep] at hx
        obtain ⟨vs,h1,rfl⟩:=hx
        refine key true l vs g2 h1 hg2 k5 fun τ' zs hz hzl=>?_
        show Rep τ' (Tr zs) _
        have hne:∀ a,zs=[a]→False:=by
         intro a ha
         rw [ha] at hzl
         have:=h1.length
         cases l with
         | nil=>simp at this;rw [← this] at hzl;simp at hzl
         | cons b l=>cases l with
          | nil=>simp [Ay1] at ho
          | cons _ _=>simp at this hzl;omega
        rw [Ako hne]
        simp only [Rep]
        exact ⟨vs,hz,rfl⟩
      | _=>exact one (by simp)
     | panicked c=>exact k4.elim
     | outgrown=>exact k4.elim
    | pan x =>
     cases e with
     | panicked c =>
      obtain ⟨v,hv,rfl⟩:=k4
      simp only [X0] at k5
      split at k5 <;> try (exact k5.elim)
      rename_i g2 hg2
      refine key false [x] [v] g2 (by simp only [RepL];exact ⟨v,[],rfl,hv,rfl⟩) hg2 k5 fun τ' zs hz hzl=>?_
      cases zs with
      | nil=>simp at hzl
      | cons z zs =>
       simp only [RepL,List.cons.injEq] at hz
       obtain ⟨v',us',⟨rfl,rfl⟩,h1,h2⟩:=hz
       cases zs with
       | nil=>exact ⟨_,h1,rfl⟩
       | cons _ _=>simp at hzl
     | returned v=>exact k4.elim
     | outgrown=>exact k4.elim
def Ua (P:Program) (pu:List (Nat×PureT)) (fns:List (Nat×Func)) (loops:List ((Nat×Nat)×(St→Tree (XE×St)))) (specs:List (Nat×(B0→Nat→List AV→Tree (Out×B0×Nat)))):Ctx:={ P:=P,u:=64,fns:=fns,loops:=loops,pures:=pu,specs:=specs }
theorem Gn {P:Program} (hm:P.follows .mixedOrders=true) {pu:List (Nat×PureT)} {fns:List (Nat×Func)} {loops:List ((Nat×Nat)×(St→Tree (XE×St)))} {specs:List (Nat×(B0→Nat→List AV→Tree (Out×B0×Nat)))} (hp:De P pu) (hf:∀ p ∈ fns,FnIs P p)
  (hl:∀ p ∈ fns,∀ d ∈ Ak (bodyOf p.2),∀ g,D7 loops p.1 (keyOf d)=some g→Bc P p.1 d g) (hs:∀ p ∈ specs,Plain P p.1∧C3 P p.1 p.2):CtxOk (Ua P pu fns loops specs) :=
 ⟨hm,hp,fun p h=>⟨(hf p h).1,(hf p h).2.1,fun c hc d hd f hfd=>hl p h d (by unfold bodyOf;rw [hc];exact hd) f hfd⟩,hs⟩
mutual
theorem B55 {σ:Env}:∀ (k:SK) {x:AV} {y:SKT k} {rs:C4} {v:Value},toK 0 Ck k x=some (y,rs)→Rep σ x v→WFK k y
 | .d c,x,y,rs,v,h,hv=>by
  simp only [toK,Option.map_eq_some_iff,Prod.mk.injEq] at h
  obtain ⟨z,hz,rfl,_⟩:=h
  exact (Pq hz hv σ (.inl rfl)).2
 | .o ty c,x,y,rs,v,h,hv=>by
  simp only [toK] at h
  unfold toO at h
  split at h
  ·simp [Ck] at h
  ·cases hb:Nat.blt 0 c.size with
   | false=>rw [hb] at h;cases h
   | true =>
    rw [hb,cond_true] at h
    simp only [Option.some.injEq,Prod.mk.injEq] at h
    obtain ⟨rfl,_⟩:=h
    exact ⟨by simp [Bo],by simp⟩
  ·cases h
 | .p id row st col,x,y,rs,v,h,hv=>trivial
 | .r c col,x,y,rs,v,h,hv=>by
  simp only [toK] at h
  obtain ⟨_,rfl⟩:=Qa h
  simp only [Rep] at hv
  obtain ⟨_,_,vs,_,_,h3⟩:=hv
  exact RepD.wf c y vs h3
 | .y id,x,y,rs,v,h,hv=>trivial
 | .q id,x,y,rs,v,h,hv=>trivial
 | .m _ _,x,y,rs,v,h,hv=>by simp [toK] at h
 | .w id ty c,x,y,rs,v,h,hv=>by
  simp only [toK] at h
  exact absurd (Ph h).2.2.1 (Nat.not_lt_zero id)
 | .i t k,x,y,rs,v,h,hv=>by
  simp only [toK] at h
  obtain ⟨_,rfl⟩:=U1 h
  simp only [Rep] at hv
  obtain ⟨_,hu,_⟩:=hv
  exact hu.2
 | .f f a c,x,y,rs,v,h,hv=>by
  simp only [toK] at h
  split at h <;> try (cases h;done)
  rename_i u w hx
  have:=Vv hx
  subst this
  split at h <;> try (cases h;done)
  rename_i y1 r1 y2 r2 h1 h2
  simp only [Option.some.injEq,Prod.mk.injEq] at h
  obtain ⟨rfl,_⟩:=h
  simp only [Rep] at hv
  obtain ⟨p,q,k1,k2,k3⟩:=hv
  exact ⟨toKs_wf0 a h1 k1,toKs_wf0 c h2 k2⟩
 | .ag ks,x,y,rs,v,h,hv=>by
  simp only [toK] at h
  split at h <;> try (cases h;done)
  rename_i cs hx
  have:=S0 hx
  subst this
  simp only [Rep] at hv
  obtain ⟨vs,k1,k2⟩:=hv
  exact toKs_wf0 ks h k1
theorem toKs_wf0 {σ:Env}:∀ (ks:List SK) {xs:List AV} {y:SKTs ks} {rs:C4} {vs:List Value},toKs 0 Ck ks xs=some (y,rs)→RepL σ xs vs→WFKs ks y
 | [],xs,y,rs,vs,h,hv=>trivial
 | k::ks,xs,y,rs,vs,h,hv=>by
  cases xs with
  | nil=>simp [toKs] at h
  | cons x xs =>
   simp only [toKs] at h
   split at h <;> try (cases h;done)
   rename_i y1 r1 y2 r2 h1 h2
   simp only [Option.some.injEq,Prod.mk.injEq] at h
   obtain ⟨rfl,_⟩:=h
   simp only [RepL] at hv
   obtain ⟨v,us,e,k1,k2⟩:=hv
   exact ⟨B55 k h1 k1,toKs_wf0 ks h2 k2⟩
end
def K0 (ks:List SK) (rs:List TC) (ok:SKTs ks→Bool) (f:SKTs ks→TCTs rs):PureT :=
 {
  run:=fun l=>match toKs 0 Ck ks l with
   | some (y,[])=>some (ok y,B4g rs (f y))
   | _=>none
  flat:=noSls rs
  vw:=ks.map fun
   | .r c o=>.one (some (c,o))
   | .f _ _ cs=>.cl (cs.map fun
    | .r c o=>some (c,o)
    | _=>none)
   | _=>.one none }
theorem Bia {P:Program} {f:FuncId} {ks:List SK} {rs:List TC} {ok:SKTs ks→Bool} {F:SKTs ks→TCTs rs}
  (h:∀ x:SKTs ks,ok x=true→WFKs ks x→∀ (w:World) (mem:Nat→Nat→Option Value) (us:List Value),MemOk mem w→RepL (Oe mem) (ofKs ks x 0) us→Calls' P f us.toArray w (A2r w (Oe mem) (If P rs) (fun y=>y=F x))):A5 P f (K0 ks rs ok F):=by
 intro σ w xs us r _ hm hu hg
 simp only [K0] at hg
 split at hg <;> try (simp at hg;done)
 rename_i x hx
 simp only [Option.some.injEq,Prod.mk.injEq] at hg
 obtain ⟨hok,rfl⟩:=hg
 have hwf:WFKs ks x:=toKs_wf0 ks hx hu
 have h1:RepL (Oe σ.mem) (ofKs ks x 0) us:=toKs_rep (σ:=σ) (τ:=Oe σ.mem) rfl (fun i hi=>absurd hi (Nat.not_lt_zero i)) (fun i hi=>absurd hi (Nat.not_lt_zero i)) ks hx hu (fun j r h=>by simp at h)
 refine (h x hok hwf w σ.mem us hm h1).mono ?_
 rintro e w' ⟨y,τ,hp',nx',k1,k2,k3,k4,k5⟩
 cases y with
 | pan z=>simp [If,Tree.sat] at k5
 | ret z =>
  simp only [If] at k5
  split at k5 <;> try (simp [Tree.sat] at k5;done)
  rename_i q hq
  simp only [Tree.sat] at k5
  subst k5
  cases e with
  | returned v =>
   have hz:=Akq (P:=P) k2 (show Rep τ z v from k4)
   refine ⟨v,frozen τ hp' (Ay5 hp' z) w',rfl,Iy k2 _,fun b o u hb=>Fw k2 _ b o u (k1.2 b o u hb),fun b o u hb=>?_,fun _=>Uk hq hz _ (.inl rfl),fun hf τ' _=>Uk hq hz τ' (.inr hf),k3⟩
   unfold frozen at hb
   split at hb
   ·rename_i hex
    obtain ⟨id,_,hne,hat⟩:=hex
    exact .inr (k2.ge hne hat)
   ·rcases Nat.lt_or_ge b w.heap.size with hlt | hge
    ·have:=k2.low b o u hb hlt
     rw [k1.4] at this
     exact .inl this
    ·exact .inr hge
  | panicked c=>exact k4.elim
  | outgrown=>exact k4.elim
theorem kq {X:Ctx} (hX:CtxOk X) {f:FuncId} {ks:List SK} {rs:List TC} {ok:SKTs ks→Bool} {F:SKTs ks→TCTs rs} (m:Nat)
  (h:∀ x:SKTs ks,ok x=true→WFKs ks x→(E1 X m (.fn f) (ofKs ks x 0) Ck 0 (If X.P rs)).sat (fun y=>y=F x)):A5 X.P f (K0 ks rs ok F) :=
 Bia fun x hok hwf w mem us hm hu=>(G2 hX (fun y=>y=F x) m w (Oe mem) Ck 0 w (.fn f) _ us (If X.P rs) (W3 hm _) (Below.refl _ w) hu (h x hok hwf)).2
end V
end Go.Proofs.YtcfanlgpkefogaaGreat
