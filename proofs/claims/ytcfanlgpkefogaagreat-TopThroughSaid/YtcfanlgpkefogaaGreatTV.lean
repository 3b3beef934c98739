import Derived.Test.YtcfanlgpkefogaaGreatZe
import Derived.Test.YtcfanlgpkefogaaGreatMA
import Derived.Test.YtcfanlgpkefogaaGreatRows
namespace Go.Proofs.YtcfanlgpkefogaaGreat
open Go.RowKit V
theorem is_outside:FnIs Tryz.prog (66,Tryz.f66):=⟨Tryz.func66,by kernel_rfl,by kernel_rfl⟩
theorem is_divide:FnIs Tryz.prog (69,Tryz.f69):=⟨Tryz.func69,by kernel_rfl,by kernel_rfl⟩
theorem is_Divide:FnIs Tryz.prog (38,Tryz.f38):=⟨Tryz.func38,by kernel_rfl,by kernel_rfl⟩
theorem is_Root:FnIs Tryz.prog (61,Tryz.f61):=⟨Tryz.func61,by kernel_rfl,by kernel_rfl⟩
theorem is_root:FnIs Tryz.prog (67,Tryz.f67):=⟨Tryz.func67,by kernel_rfl,by kernel_rfl⟩
theorem is_Len64:FnIs Tryz.prog (110,Tryz.f110):=⟨Tryz.func110,by kernel_rfl,by kernel_rfl⟩
theorem is_fits:FnIs Tryz.prog (65,Tryz.f65):=⟨Tryz.func65,by kernel_rfl,by kernel_rfl⟩
theorem is_CheckDisc:FnIs Tryz.prog (155,Tryz.f155):=⟨Tryz.func155,by kernel_rfl,by kernel_rfl⟩
theorem is_square:FnIs Tryz.prog (68,Tryz.f68):=⟨Tryz.func68,by kernel_rfl,by kernel_rfl⟩
theorem is_Square:FnIs Tryz.prog (167,Tryz.f167):=⟨Tryz.func167,by kernel_rfl,by kernel_rfl⟩
theorem is_Towards:FnIs Tryz.prog (23,Tryz.f23):=⟨Tryz.func23,by kernel_rfl,by kernel_rfl⟩
theorem Ir:FnIs Tryz.prog (43,Tryz.f43):=⟨Tryz.func43,by kernel_rfl,by kernel_rfl⟩
namespace V
abbrev cPt:TC:=.st [.i .i64,.i .i64]
abbrev A6:TC:=.st [cPt,.i .i64]
end V
abbrev K9:PureT:=Bz [cI,cI,cI] [.b] (fun _=>true) (fun x=>(Bu x.1 x.2.1 x.2.2.1,()))
theorem Amg {a b c:Int}:(bif decide (a<b) then .leaf (true,()) else .leaf (decide (a>c),()):Tree (TCTs [.b])).sat (fun y=>y=(Bu a b c,())):=by
 refine Bs (fun h1=>?_) (fun h1=>?_) <;> (refine As ?_;unfold Bu;rw [h1];rfl)
theorem Zz:A5 Tryz.prog 66 K9:=C5 (B6 Aw puOk_nil (fns_cons is_outside A1)) 2 (fun x=>bif decide (x.1<x.2.1) then .leaf (true,()) else .leaf (decide (x.1>x.2.2.1),())) (fun x=>by kernel_rfl) fun _ _ _=>Amg
theorem Bhr:De Tryz.prog [(66,K9)]:=puOk_cons is_outside.plain Zz puOk_nil
def A00 (n d:Int):Tree (TCTs [.st [cI,cI]]) :=
 bif d != 0 then bif d != 0 then
      bif decide (IntKind.i64.wrap (2*n.tmod d)≥d) then .leaf (((IntKind.i64.wrap (IntKind.i64.wrap (n.tdiv d)+1)),(IntKind.i64.wrap (n.tmod d-d)),()),())
      else bif decide (IntKind.i64.wrap (2*n.tmod d)<IntKind.i64.wrap (0-d)) then .leaf (((IntKind.i64.wrap (IntKind.i64.wrap (n.tdiv d)-1)),(IntKind.i64.wrap (n.tmod d+d)),()),())
      else .leaf (((IntKind.i64.wrap (n.tdiv d)),(n.tmod d),()),())
     else .fail else .fail
theorem Aar {n d:Int} (hok:M8 n d=true):(A00 n d).sat (fun y=>y=((DW n d,DR n d,()),())):=by
 unfold A00
 unfold M8 at hok
 obtain ⟨h1,h2,h3,h4⟩:=of_decide_eq_true hok
 have hd:(d != 0)=true:=by simp;omega
 have ⟨k1,k2⟩:=Ajf n d h3
 have ⟨k3,k4⟩:=Bhi n d 1152921504606846976 h3 h1 h2
 rw [A7 (n:=2*n.tmod d) (by omega) (by omega),A7 (n:=n.tdiv d) (by omega) (by omega),A7 (n:=n.tdiv d+1) (by omega) (by omega),A7 (n:=n.tdiv d-1) (by omega) (by omega),
  A7 (n:=n.tmod d-d) (by omega) (by omega),A7 (n:=n.tmod d+d) (by omega) (by omega),A7 (n:=0-d) (by omega) (by omega),hd]
 refine Bs (fun _=>Bs (fun _=>Bs (fun h5=>?_) (fun h5=>Bs (fun h6=>?_) (fun h6=>?_))) (fun h=>by simp at h)) (fun h=>by simp at h)
 ·obtain ⟨e1,e2⟩:=Bhj n d h3 (of_decide_eq_true h5)
  refine As ?_
  rw [e1,e2]
 ·obtain ⟨e1,e2⟩:=Bhk n d h3 (by have:=of_decide_eq_true h6;omega)
  refine As ?_
  rw [e1,e2]
 ·obtain ⟨e1,e2⟩:=Bc4 n d h3 (by have:=of_decide_eq_false h5;omega) (by have:=of_decide_eq_false h6;omega)
  refine As ?_
  rw [e1,e2]
abbrev A01:PureT:=Bz [cI,cI] [.st [cI,cI]] (fun x=>M8 x.1 x.2.1) (fun x=>((DW x.1 x.2.1,DR x.1 x.2.1,()),()))
theorem Amh:A5 Tryz.prog 69 A01:=C5 (B6 Aw puOk_nil (fns_cons is_divide A1)) 2 (fun x=>A00 x.1 x.2.1) (fun x=>by kernel_rfl) fun x hok hw=>Aar hok
theorem Bhs:De Tryz.prog [(69,A01),(66,K9)]:=puOk_cons is_divide.plain Amh Bhr
namespace V
def Bce (n d:Int):Tree (TCTs [.st [cI,cI],cI]) :=
 bif Bu n (-1152921504606846976) 1152921504606846976 then .leaf ((0,0,()),3,())
     else bif Bu d 1 1152921504606846976 then .leaf ((0,0,()),3,())
     else bif M8 n d then
      bif (DW n d==0)&&((DR n d==0)&&true) then .leaf ((0,0,()),0,())
      else .leaf (((DW n d),(DR n d),()),0,())
     else .fail
theorem B3y {n d:Int}:(Bce n d).sat (fun y=>y=((DvW n d,DvR n d,()),DvE n d,())):=by
 unfold Bce
 refine Bs (fun h1=>?_) (fun h1=>Bs (fun h2=>?_) (fun h2=>Bs (fun h3=>?_) (fun h3=>?_)))
 ·obtain ⟨e1,e2,e3⟩:=B3c n d h1
  refine As ?_
  rw [e1,e2,e3]
 ·obtain ⟨e1,e2,e3⟩:=B3d n d h2
  refine As ?_
  rw [e1,e2,e3]
 ·have ⟨k1,k2⟩:=Fi h1
  have ⟨k3,k4⟩:=Fi h2
  obtain ⟨e1,e2,e3⟩:=Avr n d k1 k2 k3 k4
  refine Bs (fun h4=>?_) (fun h4=>?_)
  ·simp at h4
   refine As ?_
   rw [e1,e2,e3,h4.1,h4.2]
  ·refine As ?_
   rw [e1,e2,e3]
 ·rw [Zt,h1,h2] at h3;simp at h3
abbrev Aas:PureT:=Bz [cI,cI] [.st [cI,cI],cI] (fun x=>true) (fun x=>((DvW x.1 x.2.1,DvR x.1 x.2.1,()),DvE x.1 x.2.1,()))
theorem Aw4:A5 Tryz.prog 38 Aas:=C5 (B6 Aw Bhs (fns_cons is_Divide A1)) 2 (fun x=>Bce x.1 x.2.1) (fun x=>by kernel_rfl) fun x hok hw=>B3y
end V
def tbB:ByteArray:=⟨((List.range 256).map fun i=>UInt8.ofNat (if i=0 then 0 else Nat.log2 i+1)).toArray⟩
def B3z (i:Nat):Int:=((tbB.data.toList.getD i 0).toNat:Int)
theorem B40:∀ i,i<256→(tbB.data.toList.getD i 0).toNat=bl i:=by decide +kernel
theorem Aw5 (i:Nat) (h:i<256):B3z i=bl i:=by unfold B3z;rw [B40 i h]
attribute [irreducible] B3z tbB
def Aw6 (n k:Int):Int:=n.fdiv (2 ^ min (Int.toNat k) IntKind.u64.bits)
def B41 (m s:Int):Tree (TCTs [cI]):=bif decide (0≤IntKind.u8.wrap m∧IntKind.u8.wrap m<256) then .leaf (IntKind.i64.wrap (s+IntKind.i64.wrap (B3z (IntKind.u8.wrap m).toNat)),()) else .fail
def B42 (m s:Int):Tree (TCTs [cI]):=bif decide (m≥256) then B41 (Aw6 m 8) (IntKind.i64.wrap (s+8)) else B41 m s
def A6d (m s:Int):Tree (TCTs [cI]):=bif decide (m≥65536) then B42 (Aw6 m 16) (IntKind.i64.wrap (s+16)) else B42 m s
def Bcf (n:Int):Tree (TCTs [cI]):=bif decide (n≥4294967296) then A6d (Aw6 n 32) 32 else A6d n 0
section
attribute [local irreducible] Tree.sat
theorem A02 (n k:Nat) (hk:k≤64):Aw6 (n:Int) (k:Int)=((n / 2 ^ k:Nat):Int):=by
 unfold Aw6
 have:min (Int.toNat (k:Int)) IntKind.u64.bits=k:=by simp [IntKind.bits];omega
 rw [this,Int.fdiv_eq_ediv_of_nonneg _ (by exact Int.le_of_lt (Int.pow_pos (by decide)))]
 simp
theorem Ami (m:Nat) (h:m<256):IntKind.u8.wrap (m:Int)=m:=by
 unfold IntKind.wrap;simp [IntKind.bits,IntKind.signed];omega
theorem Ajk {R:TCTs [cI]→Prop} (m s:Nat) (hm:m<256) (hs:s≤56) (h:R (((s+bl m:Nat):Int),())):(B41 (m:Int) (s:Int)).sat R:=by
 unfold B41
 rw [Ami m hm]
 have hb:bl m≤8:=Zu m 8 (by omega)
 refine Bs (fun _=>?_) (fun h=>?_)
 ·rw [Int.toNat_natCast,Aw5 m hm,A7 (n:=(bl m:Int)) (by omega) (by omega),A7 (n:=(s:Int)+(bl m:Int)) (by omega) (by omega)]
  refine As ?_
  rw [← Int.natCast_add];exact h
 ·have:=of_decide_eq_false h;omega
theorem Ajl {R:TCTs [cI]→Prop} (m s:Nat) (hm:m<65536) (hs:s≤48) (h:R (((s+bl m:Nat):Int),())):(B42 (m:Int) (s:Int)).sat R:=by
 unfold B42
 refine Bs (fun h1=>?_) (fun h1=>?_)
 ·have h2:=of_decide_eq_true h1
  rw [A7 (n:=(s:Int)+8) (by omega) (by omega)]
  have e1:=A02 m 8 (by omega)
  simp only [Int.cast_ofNat_Int] at e1
  rw [e1]
  have e2:(s:Int)+8=((s+8:Nat):Int):=by simp
  rw [e2]
  refine Ajk (m / 2 ^ 8) (s+8) (by omega) (by omega) ?_
  have:=Aey m 8 (by omega)
  rwa [show s+8+bl (m / 2 ^ 8)=s+bl m by omega]
 ·have h2:=of_decide_eq_false h1
  exact Ajk m s (by omega) (by omega) h
theorem Ajm {R:TCTs [cI]→Prop} (m s:Nat) (hm:m<4294967296) (hs:s≤32) (h:R (((s+bl m:Nat):Int),())):(A6d (m:Int) (s:Int)).sat R:=by
 unfold A6d
 refine Bs (fun h1=>?_) (fun h1=>?_)
 ·have h2:=of_decide_eq_true h1
  rw [A7 (n:=(s:Int)+16) (by omega) (by omega)]
  have e1:=A02 m 16 (by omega)
  simp only [Int.cast_ofNat_Int] at e1
  rw [e1]
  have e2:(s:Int)+16=((s+16:Nat):Int):=by simp
  rw [e2]
  refine Ajl (m / 2 ^ 16) (s+16) (by omega) (by omega) ?_
  have:=Aey m 16 (by omega)
  rwa [show s+16+bl (m / 2 ^ 16)=s+bl m by omega]
 ·have h2:=of_decide_eq_false h1
  exact Ajl m s (by omega) (by omega) h
theorem B43 {R:TCTs [cI]→Prop} (n:Int) (h0:0≤n) (h1:n≤18446744073709551615) (h:R ((bl n.toNat:Int),())):(Bcf n).sat R:=by
 obtain ⟨m,rfl⟩:=Int.eq_ofNat_of_zero_le h0
 rw [Int.toNat_natCast] at h
 unfold Bcf
 refine Bs (fun h1=>?_) (fun h1=>?_)
 ·have h2:=of_decide_eq_true h1
  have e1:=A02 m 32 (by omega)
  simp only [Int.cast_ofNat_Int] at e1
  rw [e1]
  refine Ajm (m / 2 ^ 32) 32 (by omega) (by omega) ?_
  have:=Aey m 32 (by omega)
  rwa [show 32+bl (m / 2 ^ 32)=bl m by omega]
 ·have h2:=of_decide_eq_false h1
  exact Ajm m 0 (by omega) (by omega) (by rwa [Nat.zero_add])
end
abbrev A6e:PureT:=Bz [.i .u64] [cI] (fun _=>true) (fun x=>((bl x.1.toNat:Int),()))
theorem Aw7:A5 Tryz.prog 110 A6e:=C5 (B6 Aw puOk_nil (fns_cons is_Len64 A1)) 2 (fun x=>Bcf x.1) (fun x=>by kernel_rfl) fun x _ hw=>B43 x.1 hw.1.1 hw.1.2 rfl
theorem Amj:De Tryz.prog [(110,A6e)]:=puOk_cons is_Len64.plain Aw7 puOk_nil
noncomputable def Ajn:Code:=(Ak (bodyOf Tryz.f67)).getD 0 .skip
def P2:Lay:={ keys:=[0,3],ks:=[.d cI,.d cI],bs:=[],n:=25,nx:=1000,marks:=[] }
def B44:Lay:={ keys:=[2],ks:=[.d cI],bs:=[],n:=25,nx:=1000,marks:=[] }
def Rr:XE→Lay:=fun _=>B44
def Q3 (n x:Int):P2.T:=((n,x,()),())
def A6f (r:Int):A0 Rr:=⟨.ret,((r,()),())⟩
def Xv (n x:Int):Int:=IntKind.i64.wrap ((IntKind.i64.wrap (x+IntKind.i64.wrap (n.tdiv x))).tdiv 2)
def A03 (n x:Int):Tree (P2.T⊕A0 Rr):=bif x != 0 then bif decide (Xv n x≥x) then .leaf (.inr (A6f x)) else .leaf (.inl (Q3 n (Xv n x))) else .fail
def Q4 (g:P2.T):Tree (P2.T⊕A0 Rr):=A03 g.1.1 g.1.2.1
def A6g (g:P2.T):Nat:=Int.toNat g.1.2.1+1
theorem Bcg:Bc Tryz.prog 67 Ajn (Bd P2 Rr (E5 [.ret] Q4 A6g)):=Bv (B6 Aw puOk_nil A1) 1 _ P2 Rr (fun _=>Nat.le_refl _) [.ret] Q4 A6g (fun g=>by kernel_rfl)
theorem Ajo {n:Int} (h1:2≤n) (h2:n≤4611686018427387904):∀ (k:Nat) (x:Int),1≤x→x≤4294967296→rt n≤x→x.toNat≤k→iter Q4 (k+1) (Q3 n x)=some (A6f (rt n))
 | 0,x,h3,_,_,hk=>by omega
 | k+1,x,h3,h4,h5,hk=>by
  have hq:=Int.ediv_nonneg (show 0≤n by omega) (show 0≤x by omega)
  have hq2:=Int.ediv_le_self x (show 0≤n by omega)
  have e1:Xv n x=(x+n / x) / 2:=by
   unfold Xv
   rw [Int.tdiv_eq_ediv_of_nonneg (show 0≤n by omega),A7 (n:=n / x) (by omega) (by omega),A7 (n:=x+n / x) (by omega) (by omega),Int.tdiv_eq_ediv_of_nonneg (by omega),A7 (by omega) (by omega)]
  have hge:=Am9 n x (by omega) h3
  have hx0:(x != 0)=true:=by simp;omega
  have hs:Q4 (Q3 n x)=bif decide ((x+n / x) / 2≥x) then .leaf (.inr (A6f x)) else .leaf (.inl (Q3 n ((x+n / x) / 2))):=by
   show A03 n x=_
   unfold A03
   rw [hx0,e1]
   rfl
  cases hd:decide ((x+n / x) / 2≥x) with
  | true =>
   have h7:=of_decide_eq_true hd
   have hx:=Aez n x (by omega) h3 h5 (by omega)
   rw [← hx]
   exact Jl (by rw [hs,hd];rfl)
  | false =>
   have h7:=of_decide_eq_false hd
   have hr:=(J6 n (by omega)).1
   have hpos:1≤(x+n / x) / 2:=by
    have:1≤rt n:=by
     have hc:=(J6 n (by omega)).2.2
     rcases Int.lt_or_le (rt n) 1 with k | k
     ·have:rt n=0:=by omega
      rw [this] at hc;omega
     ·exact k
    omega
   rw [Y4 (g':=Q3 n ((x+n / x) / 2)) (by rw [hs,hd];rfl)]
   exact Ajo h1 h2 k _ hpos (by omega) hge (by omega)
theorem Aw8 (n:Int) (h0:0≤n) (h:n<2):rt n=n:=Vf n n h0 (by rcases (show n=0∨n=1 by omega) with rfl | rfl <;> decide) (by rcases (show n=0∨n=1 by omega) with rfl | rfl <;> decide)
def Amk (n:Int):Bool:=decide (0≤n∧n≤4611686018427387904)
def RtV (n:Int):Int:=if Amk n then rt n else 0
def RtE (n:Int):Int:=if Amk n then 0 else 3
abbrev Af6:PureT:=Bz [cI] [cI] (fun x=>decide (0≤x.1∧x.1≤4611686018427387904)) (fun x=>(rt x.1,()))
noncomputable def Bch:Ctx:=Ie Tryz.prog [(110,A6e)] [(67,Tryz.f67)] [((67,V.keyOf Ajn),Bd P2 Rr (E5 [.ret] Q4 A6g))]
theorem Aml:CtxOk Bch:=D6 Aw Amj (fns_cons is_root A1) (Cl rfl (by kernel_rfl) Bcg)
def A6h (n:Int):Int:=IntKind.i64.wrap (1*2 ^ min (IntKind.i64.wrap ((IntKind.i64.wrap ((bl (IntKind.u64.wrap n).toNat:Int)+1)).tdiv 2)).toNat IntKind.i64.bits)
def Af7 (n:Int):Option (A0 Rr):=iter Q4 (Int.toNat (A6h n)+1) (Q3 n (A6h n))
def Af8 (n:Int):Tree (TCTs [cI]):=bif decide (n<2) then .leaf (n,()) else bif decide (0≤IntKind.i64.wrap ((IntKind.i64.wrap ((bl (IntKind.u64.wrap n).toNat:Int)+1)).tdiv 2)) then bif isE .ret (Af7 n) then .leaf ((D4 .ret (Af7 n)).1.1,()) else .fail else .fail
theorem Amm {n:Int} (h0:0≤n) (h1:n≤4611686018427387904):(Af8 n).sat (fun y=>y=(rt n,())):=by
 unfold Af8 Af7 A6h
 have hwr:IntKind.u64.wrap n=n:=by unfold IntKind.wrap;simp [IntKind.bits,IntKind.signed];omega
 have hb:bl n.toNat≤63:=Zu _ 63 (by omega)
 rw [hwr,A7 (n:=(bl n.toNat:Int)+1) (by omega) (by omega),Int.tdiv_eq_ediv_of_nonneg (by omega),A7 (n:=((bl n.toNat:Int)+1) / 2) (by omega) (by omega)]
 refine Bs (fun h2=>?_) (fun h2=>Bs (fun h3=>?_) (fun h3=>?_))
 ·have:=of_decide_eq_true h2
  refine As ?_
  rw [Aw8 n h0 this]
 ·have h5:=of_decide_eq_false h2
  have e2:min (((bl n.toNat:Int)+1) / 2).toNat IntKind.i64.bits=(bl n.toNat+1) / 2:=by simp [IntKind.bits];omega
  rw [e2,Int.one_mul]
  have hs:=A68 n h0
  have hk:(bl n.toNat+1) / 2≤32:=by omega
  have hp1:(1:Int)≤2 ^ ((bl n.toNat+1) / 2):=Int.pow_pos (by decide)
  have hp2:(2:Int) ^ ((bl n.toNat+1) / 2)≤4294967296:=by
   have:2 ^ ((bl n.toNat+1) / 2)≤2 ^ 32:=Nat.pow_le_pow_right (by decide) hk
   have h6:((2 ^ ((bl n.toNat+1) / 2):Nat):Int)≤((2 ^ 32:Nat):Int):=by exact_mod_cast this
   rw [Int.natCast_pow] at h6
   simpa using h6
  generalize (2:Int) ^ ((bl n.toNat+1) / 2)=y at hs hp1 hp2
  rw [A7 (by omega) (by omega)]
  have hr:=B7j n y h0 (by omega) hs
  rw [Ajo (by omega) h1 y.toNat y hp1 hp2 hr (Nat.le_refl _)]
  exact As rfl
 ·have:=of_decide_eq_false h3;omega
theorem Ajp:A5 Tryz.prog 67 Af6:=C5 Aml 3 (fun x=>Af8 x.1) (fun x=>by kernel_rfl) fun x hok _=>Amm (of_decide_eq_true hok).1 (of_decide_eq_true hok).2
theorem Aw9:De Tryz.prog [(67,Af6),(66,K9)]:=puOk_cons is_root.plain Ajp Bhr
namespace V
def Af9 (n:Int):Tree (TCTs [cI,cI]) :=
 bif Bu n 0 4611686018427387904 then .leaf (0,3,()) else bif decide (0≤n∧n≤4611686018427387904) then .leaf ((rt n),0,()) else .fail
theorem Amn {n:Int}:(Af9 n).sat (fun y=>y=(RtV n,RtE n,())):=by
 unfold Af9
 refine Bs (fun h1=>?_) (fun h1=>Bs (fun h2=>?_) (fun h2=>?_))
 ·have:Amk n=false:=by
   unfold Bu at h1;unfold Amk
   simp at h1
   exact decide_eq_false (by omega)
  refine As ?_
  unfold RtV RtE;rw [this];rfl
 ·have:Amk n=true:=h2
  refine As ?_
  unfold RtV RtE;rw [this];rfl
 ·have:=Fi h1
  have:=of_decide_eq_false h2;omega
abbrev Awa:PureT:=Bz [cI] [cI,cI] (fun x=>true) (fun x=>(RtV x.1,RtE x.1,()))
theorem Bci:A5 Tryz.prog 61 Awa:=C5 (B6 Aw Aw9 (fns_cons is_Root A1)) 2 (fun x=>Af9 x.1) (fun x=>by kernel_rfl) fun x hok hw=>Amn
end V
theorem A3z {x lo hi:Int} (h:Bu x lo hi=false):lo≤x∧x≤hi:=by
 unfold Bu at h
 simp only [Bool.or_eq_false_iff,decide_eq_false_iff_not] at h
 omega
def Vg (x y:Int):Bool:=decide (max (max (max x (IntKind.i64.wrap (0-x))) y) (IntKind.i64.wrap (0-y))>4194304)
def Vh (x y:Int):Bool:=decide (min x y < -4194304)
def fpt (x y:Int):Bool:=decide (-4194304≤x∧x≤4194304 ∧ -4194304≤y∧y≤4194304)
theorem Aat (x:Int) (h1 : -9223372036854775808≤x) (h2:x≤9223372036854775807):IntKind.i64.wrap (0-x)=if x = -9223372036854775808 then x else -x:=by
 split
 ·rename_i h;subst h;rfl
 ·rw [A7 (by omega) (by omega)];omega
theorem Awb {x y:Int} (hx:inK .i64 x) (hy:inK .i64 y) (h:Vg x y=true):fpt x y=false:=by
 simp only [inK,Jf,Bo] at hx hy
 unfold Vg at h;unfold fpt
 have h1:=of_decide_eq_true h
 rw [Aat x (by omega) (by omega),Aat y (by omega) (by omega)] at h1
 refine decide_eq_false ?_
 split at h1 <;> split at h1 <;> omega
theorem Awc {x y:Int} (h:Vh x y=true):fpt x y=false:=by
 unfold Vh at h;unfold fpt
 have h1:=of_decide_eq_true h
 refine decide_eq_false ?_
 omega
theorem Bcj {x y:Int} (h:Vg x y=false) (k:Vh x y=false):fpt x y=true:=by
 unfold Vg at h;unfold Vh at k;unfold fpt
 have h1:=of_decide_eq_false h
 have k1:=of_decide_eq_false k
 refine decide_eq_true ?_
 omega
theorem Jp {x y:Int} (h:fpt x y=true) : -4194304≤x∧x≤4194304 ∧ -4194304≤y∧y≤4194304:=of_decide_eq_true h
theorem J7 {α:Type} {R:α→Prop} {x y:Int} {t u:Tree α} (hx:inK .i64 x) (hy:inK .i64 y) (h1:fpt x y=false→t.sat R) (h2:fpt x y=true→u.sat R):(bif Vg x y then t else bif Vh x y then t else u).sat R :=
 Bs (fun h=>h1 (Awb hx hy h)) (fun h=>Bs (fun k=>h1 (Awc k)) (fun k=>h2 (Bcj h k)))
def Hy (x y:Int):Int:=bif fpt x y then 0 else 2
def Kz (x y r:Int):Bool:=fpt x y&&!Bu r 1 65536
def A04 (x y r:Int):Int:=bif Kz x y r then 0 else 2
namespace V
def Awd (ax ay:Int):Tree (TCTs [cI]) :=
 bif Vg ax ay then .leaf (2,()) else bif Vh ax ay then .leaf (2,()) else .leaf (0,())
theorem Awe {ax ay:Int} (a1:inK .i64 ax) (a2:inK .i64 ay):(Awd ax ay).sat (fun y=>y=(Hy ax ay,())):=by
 unfold Awd
 refine J7 a1 a2 (fun k=>?_) (fun k=>?_) <;> (refine As ?_;unfold Hy;rw [k];rfl)
abbrev K2:PureT:=Bz [cPt] [cI] (fun x=>true) (fun x=>(Hy x.1.1 x.1.2.1,()))
theorem Lm:A5 Tryz.prog 43 K2:=C5 (B6 Aw puOk_nil (fns_cons Ir (fns_cons is_fits A1))) 3 (fun x=>Awd x.1.1 x.1.2.1) (fun x=>by kernel_rfl) fun x hok hw=>Awe hw.1.1 hw.1.2.1
def Awf (px py r:Int):Tree (TCTs [cI]) :=
 bif Vg px py then .leaf (2,()) else bif Vh px py then .leaf (2,()) else
    bif decide (r<1) then .leaf (2,()) else bif decide (r>65536) then .leaf (2,()) else .leaf (0,())
theorem Awg {px py r:Int} (a1:inK .i64 px) (a2:inK .i64 py):(Awf px py r).sat (fun y=>y=(A04 px py r,())):=by
 unfold Awf
 refine J7 a1 a2 (fun k=>?_) (fun k1=>Bs (fun k=>?_) (fun k2=>Bs (fun k=>?_) (fun k3=>?_)))
 ·refine As ?_
  unfold A04 Kz;rw [k];rfl
 ·refine As ?_
  unfold A04 Kz Bu;rw [k1,k];rfl
 ·have k':decide (65536<r)=true:=k
  refine As ?_
  unfold A04 Kz Bu;rw [k1,k2,k'];rfl
 ·have k':decide (65536<r)=false:=k3
  refine As ?_
  unfold A04 Kz Bu;rw [k1,k2,k'];rfl
abbrev Wg:PureT:=Bz [A6] [cI] (fun x=>true) (fun x=>(A04 x.1.1.1 x.1.1.2.1 x.1.2.1,()))
theorem Wh:A5 Tryz.prog 155 Wg:=C5 (B6 Aw puOk_nil (fns_cons is_CheckDisc (fns_cons is_fits A1))) 3 (fun x=>Awf x.1.1.1 x.1.1.2.1 x.1.2.1) (fun x=>by kernel_rfl) fun x hok hw=>Awg hw.1.1.1 hw.1.1.2.1
end V
def Awh (ax ay bx bY:Int):Tree (TCTs [cI]) :=
 .leaf ((IntKind.i64.wrap (IntKind.i64.wrap (IntKind.i64.wrap (bx-ax)*IntKind.i64.wrap (bx-ax))+IntKind.i64.wrap (IntKind.i64.wrap (bY-ay)*IntKind.i64.wrap (bY-ay)))),())
theorem Awi {ax ay bx bY:Int} (hok:(fpt ax ay&&fpt bx bY)=true):(Awh ax ay bx bY).sat (fun y=>y=(sq ax ay bx bY,())):=by
 unfold Awh
 rw [Bool.and_eq_true] at hok
 have c1:=Jp hok.1
 have c2:=Jp hok.2
 have b1:=Dj (a:=bx-ax) (b:=bx-ax) (A:=8388608) (B:=8388608) (by omega) (by omega) (by omega) (by omega)
 have b2:=Dj (a:=bY-ay) (b:=bY-ay) (A:=8388608) (B:=8388608) (by omega) (by omega) (by omega) (by omega)
 rw [A7 (n:=bx-ax) (by omega) (by omega),A7 (n:=bY-ay) (by omega) (by omega),A7 (n:=(bx-ax)*(bx-ax)) (by omega) (by omega),A7 (n:=(bY-ay)*(bY-ay)) (by omega) (by omega),A7 (n:=(bx-ax)*(bx-ax)+(bY-ay)*(bY-ay)) (by omega) (by omega)]
 refine As ?_
 unfold sq;rfl
abbrev A05:PureT:=Bz [cPt,cPt] [cI] (fun x=>fpt x.1.1 x.1.2.1&&fpt x.2.1.1 x.2.1.2.1) (fun x=>(sq x.1.1 x.1.2.1 x.2.1.1 x.2.1.2.1,()))
theorem A40:A5 Tryz.prog 68 A05:=C5 (B6 Aw puOk_nil (fns_cons is_square A1)) 2 (fun x=>Awh x.1.1 x.1.2.1 x.2.1.1 x.2.1.2.1) (fun x=>by kernel_rfl) fun x hok hw=>Awi hok
def Bck:List (Nat×PureT):=[(68,A05),(67,Af6),(69,A01),(66,K9)]
theorem Awj:De Tryz.prog Bck:=puOk_cons is_square.plain A40 (puOk_cons is_root.plain Ajp Bhs)
def SqR (ax ay bx bY:Int):Int×Int:=bif fpt ax ay&&fpt bx bY then (sq ax ay bx bY,0) else (0,2)
namespace V
def Awk (ax ay bx bY:Int):Tree (TCTs [cI,cI]) :=
 bif Vg ax ay then .leaf (0,2,()) else bif Vh ax ay then .leaf (0,2,()) else
    bif Vg bx bY then .leaf (0,2,()) else bif Vh bx bY then .leaf (0,2,()) else
    bif fpt ax ay&&fpt bx bY then .leaf ((sq ax ay bx bY),0,()) else .fail
theorem Awl {ax ay bx bY:Int} (a1:inK .i64 ax) (a2:inK .i64 ay) (a3:inK .i64 bx) (a4:inK .i64 bY):(Awk ax ay bx bY).sat (fun y=>y=((SqR ax ay bx bY).1,(SqR ax ay bx bY).2,())):=by
 unfold Awk
 refine J7 a1 a2 (fun k=>?_) (fun k1=>J7 a3 a4 (fun k=>?_) (fun k2=>?_))
 ·refine As ?_
  unfold SqR;rw [k];rfl
 ·refine As ?_
  unfold SqR;rw [k1,k];rfl
 ·rw [k1,k2]
  refine As ?_
  unfold SqR;rw [k1,k2];rfl
abbrev Awm:PureT:=Bz [cPt,cPt] [cI,cI] (fun x=>true) (fun x=>((SqR x.1.1 x.1.2.1 x.2.1.1 x.2.1.2.1).1,(SqR x.1.1 x.1.2.1 x.2.1.1 x.2.1.2.1).2,()))
theorem Awn:A5 Tryz.prog 167 Awm:=C5 (B6 Aw Awj (fns_cons is_Square (fns_cons is_fits A1))) 3 (fun x=>Awk x.1.1 x.1.2.1 x.2.1.1 x.2.1.2.1) (fun x=>by kernel_rfl) fun x hok hw=>Awl hw.1.1 hw.1.2.1 hw.2.1.1 hw.2.1.2.1
end V
def ToX (px qx d l:Int):Int:=qx+DW (64*l*(px-qx)) d
def dTo (px py qx qy:Int):Int:=rt (sq px py qx qy*4096)
def TwR (px py qx qy l:Int):(Int×Int)×Int :=
 bif fpt px py&&fpt qx qy then bif Bu l 0 4194304 then ((0,0),3) else bif px==qx&&py==qy then ((0,0),9) else
  bif fpt (ToX px qx (dTo px py qx qy) l) (ToX py qy (dTo px py qx qy) l) then ((ToX px qx (dTo px py qx qy) l,ToX py qy (dTo px py qx qy) l),0) else ((0,0),4)
 else ((0,0),2)
theorem Ajq {px py qx qy:Int} (h:fpt px py=true) (k:fpt qx qy=true):0≤sq px py qx qy∧sq px py qx qy≤140737488355328:=by
 have c1:=Jp h
 have c2:=Jp k
 have b1:=Dj (a:=qx-px) (b:=qx-px) (A:=8388608) (B:=8388608) (by omega) (by omega) (by omega) (by omega)
 have b2:=Dj (a:=qy-py) (b:=qy-py) (A:=8388608) (B:=8388608) (by omega) (by omega) (by omega) (by omega)
 have b3:=I4 (qx-px)
 have b4:=I4 (qy-py)
 unfold sq;omega
theorem Awo {px py qx qy:Int} (h:fpt px py=true) (k:fpt qx qy=true) (hne:¬ (px=qx∧py=qy)):1≤dTo px py qx qy∧dTo px py qx qy≤576460752303423488:=by
 have h1:=Ajq h k
 have h2:=Bc5 hne
 obtain ⟨r1,r2,r3⟩:=J6 (sq px py qx qy*4096) (by omega)
 unfold dTo
 generalize rt (sq px py qx qy*4096)=d at r1 r2 r3
 have hd:1≤d:=by
  rcases Int.lt_or_le d 1 with x | x
  ·have:d=0:=by omega
   subst this
   omega
  ·exact x
 have:=Int.mul_le_mul_of_nonneg_left hd (show 0≤d by omega)
 omega
namespace V
def Bcl (px py qx qy l:Int):Tree (TCTs [cPt,cI]) :=
 let d:=rt (IntKind.i64.wrap (sq px py qx qy*4096))
    let ux:=IntKind.i64.wrap (IntKind.i64.wrap (64*l)*IntKind.i64.wrap (px-qx))
    let uy:=IntKind.i64.wrap (IntKind.i64.wrap (64*l)*IntKind.i64.wrap (py-qy))
    bif Vg px py then .leaf ((0,0,()),2,()) else bif Vh px py then .leaf ((0,0,()),2,()) else
    bif Vg qx qy then .leaf ((0,0,()),2,()) else bif Vh qx qy then .leaf ((0,0,()),2,()) else
    bif Bu l 0 4194304 then .leaf ((0,0,()),3,()) else
    bif px==qx&&(py==qy&&true) then .leaf ((0,0,()),9,()) else
    bif fpt px py&&fpt qx qy then bif decide (0≤IntKind.i64.wrap (sq px py qx qy*4096)∧IntKind.i64.wrap (sq px py qx qy*4096)≤4611686018427387904) then
    bif M8 ux d then bif M8 uy d then
    bif Vg (IntKind.i64.wrap (qx+DW ux d)) (IntKind.i64.wrap (qy+DW uy d)) then .leaf ((0,0,()),4,()) else bif Vh (IntKind.i64.wrap (qx+DW ux d)) (IntKind.i64.wrap (qy+DW uy d)) then .leaf ((0,0,()),4,()) else
     .leaf (((IntKind.i64.wrap (qx+DW ux d)),(IntKind.i64.wrap (qy+DW uy d)),()),0,())
    else .fail else .fail else .fail else .fail
theorem B45 {px py qx qy l:Int} (a1:inK .i64 px) (a2:inK .i64 py) (a3:inK .i64 qx) (a4:inK .i64 qy):(Bcl px py qx qy l).sat (fun y=>y=(((TwR px py qx qy l).1.1,(TwR px py qx qy l).1.2,()),(TwR px py qx qy l).2,())):=by
 unfold Bcl
 dsimp only
 refine J7 a1 a2 (fun k=>?_) (fun k1=>J7 a3 a4 (fun k=>?_) (fun k2=>Bs (fun k=>?_) (fun k3=>Bs (fun k=>?_) (fun k4=>?_))))
 ·refine As ?_
  unfold TwR;rw [k];rfl
 ·refine As ?_
  unfold TwR;rw [k1,k];rfl
 ·refine As ?_
  unfold TwR;rw [k1,k2,k];rfl
 ·refine As ?_
  rw [Bool.and_true] at k
  unfold TwR;rw [k1,k2,k3,k];rfl
 ·have c1:=Jp k1
  have c2:=Jp k2
  have c3:=A3z k3
  rw [Bool.and_true] at k4
  have hne:¬ (px=qx∧py=qy):=by
   intro hh;simp [hh.1,hh.2] at k4
  have s1:=Ajq k1 k2
  have hd:=Awo k1 k2 hne
  have b1:=Dj (a:=64*l) (b:=px-qx) (A:=268435456) (B:=8388608) (by omega) (by omega) (by omega) (by omega)
  have b2:=Dj (a:=64*l) (b:=py-qy) (A:=268435456) (B:=8388608) (by omega) (by omega) (by omega) (by omega)
  rw [A7 (n:=sq px py qx qy*4096) (by omega) (by omega),A7 (n:=64*l) (by omega) (by omega),A7 (n:=px-qx) (by omega) (by omega),A7 (n:=py-qy) (by omega) (by omega),A7 (n:=64*l*(px-qx)) (by omega) (by omega),A7 (n:=64*l*(py-qy)) (by omega) (by omega)]
  have hdd:rt (sq px py qx qy*4096)=dTo px py qx qy:=rfl
  rw [hdd]
  have w1:=Ajg (64*l*(px-qx)) (dTo px py qx qy) 2251799813685248 hd.1 (by omega) (by omega) (by omega)
  have w2:=Ajg (64*l*(py-qy)) (dTo px py qx qy) 2251799813685248 hd.1 (by omega) (by omega) (by omega)
  rw [A7 (n:=qx+DW (64*l*(px-qx)) (dTo px py qx qy)) (by omega) (by omega),A7 (n:=qy+DW (64*l*(py-qy)) (dTo px py qx qy)) (by omega) (by omega)]
  have v1:M8 (64*l*(px-qx)) (dTo px py qx qy)=true:=by unfold M8;exact decide_eq_true (by omega)
  have v2:M8 (64*l*(py-qy)) (dTo px py qx qy)=true:=by unfold M8;exact decide_eq_true (by omega)
  rw [k1,k2,v1,v2]
  have v3:decide (0≤sq px py qx qy*4096∧sq px py qx qy*4096≤4611686018427387904)=true:=decide_eq_true (by omega)
  rw [v3]
  have hT:TwR px py qx qy l=bif fpt (ToX px qx (dTo px py qx qy) l) (ToX py qy (dTo px py qx qy) l) then ((ToX px qx (dTo px py qx qy) l,ToX py qy (dTo px py qx qy) l),0) else ((0,0),4):=by
   unfold TwR;rw [k1,k2,k3,k4];rfl
  rw [hT]
  simp only [cond_true,Bool.and_self]
  refine J7 ?_ ?_ (fun k=>?_) (fun k=>?_)
  ·simp only [inK,Jf,Bo];omega
  ·simp only [inK,Jf,Bo];omega
  ·have k':fpt (ToX px qx (dTo px py qx qy) l) (ToX py qy (dTo px py qx qy) l)=false:=k
   rw [k'];exact As rfl
  ·have k':fpt (ToX px qx (dTo px py qx qy) l) (ToX py qy (dTo px py qx qy) l)=true:=k
   rw [k'];exact As rfl
abbrev Afa:PureT:=Bz [cPt,cPt,cI] [cPt,cI] (fun x=>true) (fun x=>(((TwR x.1.1 x.1.2.1 x.2.1.1 x.2.1.2.1 x.2.2.1).1.1,(TwR x.1.1 x.1.2.1 x.2.1.1 x.2.1.2.1 x.2.2.1).1.2,()),(TwR x.1.1 x.1.2.1 x.2.1.1 x.2.1.2.1 x.2.2.1).2,()))
theorem Afb:A5 Tryz.prog 23 Afa:=C5 (B6 Aw Awj (fns_cons is_Towards (fns_cons is_fits A1))) 3 (fun x=>Bcl x.1.1 x.1.2.1 x.2.1.1 x.2.1.2.1 x.2.2.1) (fun x=>by kernel_rfl) fun x hok hw=>B45 hw.1.1 hw.1.2.1 hw.2.1.1 hw.2.1.2.1
end V
def Bcm (a b c:Int):Tree (TCTs [.b]) :=
 bif decide (a≥b) then .leaf ((decide (a≤c)),()) else .leaf (false,())
theorem B46 {a b c:Int}:(Bcm a b c).sat (fun y=>y=(!Bu a b c,())):=by
 unfold Bcm
 refine Bs (fun h1=>?_) (fun h1=>?_)
 ·have h2:=of_decide_eq_true h1
  refine As ?_
  congr 1
  unfold Bu
  rw [Bool.eq_iff_iff]
  simp only [decide_eq_true_eq,Bool.not_eq_true',Bool.or_eq_false_iff,decide_eq_false_iff_not]
  omega
 ·have h2:=of_decide_eq_false h1
  refine As ?_
  congr 1
  have:Bu a b c=true:=by unfold Bu;simp;omega
  rw [this];rfl
abbrev Ajr:PureT:=Bz [cI,cI,cI] [.b] (fun x=>true) (fun x=>(!Bu x.1 x.2.1 x.2.2.1,()))
theorem B47 (x y:Int):fpt x y=(!Bu x (-4194304) 4194304&&!Bu y (-4194304) 4194304):=by
 unfold fpt Bu
 rw [Bool.eq_iff_iff]
 simp only [decide_eq_true_eq,Bool.and_eq_true,Bool.not_eq_true',Bool.or_eq_false_iff,decide_eq_false_iff_not]
 omega
namespace V
def Bcp (x y:Int):Tree (TCTs [.b]) :=
 bif !Bu x (-4194304) 4194304 then .leaf ((!Bu y (-4194304) 4194304),()) else .leaf (false,())
theorem B48 {x y:Int}:(Bcp x y).sat (fun z=>z=(fpt x y,())):=by
 unfold Bcp
 rw [B47]
 refine Bs (fun h1=>?_) (fun h1=>?_) <;> (refine As ?_;rw [h1];rfl)
abbrev Ajs:PureT:=Bz [cPt] [.b] (fun x=>true) (fun x=>(fpt x.1.1 x.1.2.1,()))
end V
namespace V
end V
namespace V
end V
end Go.Proofs.YtcfanlgpkefogaaGreat
