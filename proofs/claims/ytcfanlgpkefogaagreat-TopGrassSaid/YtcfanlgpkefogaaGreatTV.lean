import Derived.Test.YtcfanlgpkefogaaGreatZe
import Derived.Test.YtcfanlgpkefogaaGreatMA
import Derived.Test.YtcfanlgpkefogaaGreatRows
namespace Go.Proofs.YtcfanlgpkefogaaGreat
open Go.RowKit V
theorem is_outside:FnIs Tryz.prog (66,Tryz.f66):=⟨Tryz.func66,by kernel_rfl,by kernel_rfl⟩
theorem is_divide:FnIs Tryz.prog (69,Tryz.f69):=⟨Tryz.func69,by kernel_rfl,by kernel_rfl⟩
theorem is_Divide:FnIs Tryz.prog (38,Tryz.f38):=⟨Tryz.func38,by kernel_rfl,by kernel_rfl⟩
theorem is_Root:FnIs Tryz.prog (61,Tryz.f61):=⟨Tryz.func61,by kernel_rfl,by kernel_rfl⟩
theorem is_root:FnIs Tryz.prog (67,Tryz.f67):=⟨Tryz.func67,by kernel_rfl,by kernel_rfl⟩
theorem is_Len64:FnIs Tryz.prog (110,Tryz.f110):=⟨Tryz.func110,by kernel_rfl,by kernel_rfl⟩
theorem is_fits:FnIs Tryz.prog (65,Tryz.f65):=⟨Tryz.func65,by kernel_rfl,by kernel_rfl⟩
theorem is_CheckDisc:FnIs Tryz.prog (155,Tryz.f155):=⟨Tryz.func155,by kernel_rfl,by kernel_rfl⟩
theorem is_square:FnIs Tryz.prog (68,Tryz.f68):=⟨Tryz.func68,by kernel_rfl,by kernel_rfl⟩
theorem is_Square:FnIs Tryz.prog (167,Tryz.f167):=⟨Tryz.func167,by kernel_rfl,by kernel_rfl⟩
theorem is_Towards:FnIs Tryz.prog (23,Tryz.f23):=⟨Tryz.func23,by kernel_rfl,by kernel_rfl⟩
theorem Bhh:FnIs Tryz.prog (43,Tryz.f43):=⟨Tryz.func43,by kernel_rfl,by kernel_rfl⟩
namespace V
abbrev cPt:TC:=.st [.i .i64,.i .i64]
abbrev Bag:TC:=.st [cPt,.i .i64]
end V
abbrev Bh6:PureT:=Bbc [cI,cI,cI] [.b] (fun _=>true) (fun x=>(Bb6 x.1 x.2.1 x.2.2.1,()))
theorem Cdy {a b c:Int}:(bif decide (a<b) then .leaf (true,()) else .leaf (decide (a>c),()):Tree (TCTs [.b])).sat (fun y=>y=(Bb6 a b c,())):=by
 refine Bb4 (fun h1=>?_) (fun h1=>?_) <;> (refine Ban ?_;unfold Bb6;rw [h1];rfl)
theorem Btm:Bai Tryz.prog 66 Bh6:=Bbd (Bap Bao puOk_nil (fns_cons is_outside No)) 2 (fun x=>bif decide (x.1<x.2.1) then .leaf (true,()) else .leaf (decide (x.1>x.2.2.1),())) (fun x=>by kernel_rfl) fun _ _ _=>Cdy
theorem D5d:Bc5 Tryz.prog [(66,Bh6)]:=puOk_cons is_outside.plain Btm puOk_nil
def Btn (n d:Int):Tree (TCTs [.st [cI,cI]]) :=
 bif d != 0 then bif d != 0 then
      bif decide (IntKind.i64.wrap (2*n.tmod d)≥d) then .leaf (((IntKind.i64.wrap (IntKind.i64.wrap (n.tdiv d)+1)),(IntKind.i64.wrap (n.tmod d-d)),()),())
      else bif decide (IntKind.i64.wrap (2*n.tmod d)<IntKind.i64.wrap (0-d)) then .leaf (((IntKind.i64.wrap (IntKind.i64.wrap (n.tdiv d)-1)),(IntKind.i64.wrap (n.tmod d+d)),()),())
      else .leaf (((IntKind.i64.wrap (n.tdiv d)),(n.tmod d),()),())
     else .fail else .fail
theorem C3g {n d:Int} (hok:Bik n d=true):(Btn n d).sat (fun y=>y=((DW n d,DR n d,()),())):=by
 unfold Btn
 unfold Bik at hok
 obtain ⟨h1,h2,h3,h4⟩:=of_decide_eq_true hok
 have hd:(d != 0)=true:=by simp;omega
 have ⟨k1,k2⟩:=Cb0 n d h3
 have ⟨k3,k4⟩:=D54 n d 1152921504606846976 h3 h1 h2
 rw [Bah (n:=2*n.tmod d) (by omega) (by omega),Bah (n:=n.tdiv d) (by omega) (by omega),Bah (n:=n.tdiv d+1) (by omega) (by omega),Bah (n:=n.tdiv d-1) (by omega) (by omega),
  Bah (n:=n.tmod d-d) (by omega) (by omega),Bah (n:=n.tmod d+d) (by omega) (by omega),Bah (n:=0-d) (by omega) (by omega),hd]
 refine Bb4 (fun _=>Bb4 (fun _=>Bb4 (fun h5=>?_) (fun h5=>Bb4 (fun h6=>?_) (fun h6=>?_))) (fun h=>by simp at h)) (fun h=>by simp at h)
 ·obtain ⟨e1,e2⟩:=D55 n d h3 (of_decide_eq_true h5)
  refine Ban ?_
  rw [e1,e2]
 ·obtain ⟨e1,e2⟩:=D56 n d h3 (by have:=of_decide_eq_true h6;omega)
  refine Ban ?_
  rw [e1,e2]
 ·obtain ⟨e1,e2⟩:=D0m n d h3 (by have:=of_decide_eq_false h5;omega) (by have:=of_decide_eq_false h6;omega)
  refine Ban ?_
  rw [e1,e2]
abbrev Bto:PureT:=Bbc [cI,cI] [.st [cI,cI]] (fun x=>Bik x.1 x.2.1) (fun x=>((DW x.1 x.2.1,DR x.1 x.2.1,()),()))
theorem Cdz:Bai Tryz.prog 69 Bto:=Bbd (Bap Bao puOk_nil (fns_cons is_divide No)) 2 (fun x=>Btn x.1 x.2.1) (fun x=>by kernel_rfl) fun x hok hw=>C3g hok
theorem D5e:Bc5 Tryz.prog [(69,Bto),(66,Bh6)]:=puOk_cons is_divide.plain Cdz D5d
namespace V
def D0x (n d:Int):Tree (TCTs [.st [cI,cI],cI]) :=
 bif Bb6 n (-1152921504606846976) 1152921504606846976 then .leaf ((0,0,()),3,())
     else bif Bb6 d 1 1152921504606846976 then .leaf ((0,0,()),3,())
     else bif Bik n d then
      bif (DW n d==0)&&((DR n d==0)&&true) then .leaf ((0,0,()),0,())
      else .leaf (((DW n d),(DR n d),()),0,())
     else .fail
theorem Ctp {n d:Int}:(D0x n d).sat (fun y=>y=((DvW n d,DvR n d,()),DvE n d,())):=by
 unfold D0x
 refine Bb4 (fun h1=>?_) (fun h1=>Bb4 (fun h2=>?_) (fun h2=>Bb4 (fun h3=>?_) (fun h3=>?_)))
 ·obtain ⟨e1,e2,e3⟩:=Ct2 n d h1
  refine Ban ?_
  rw [e1,e2,e3]
 ·obtain ⟨e1,e2,e3⟩:=Ct3 n d h2
  refine Ban ?_
  rw [e1,e2,e3]
 ·have ⟨k1,k2⟩:=Bdf h1
  have ⟨k3,k4⟩:=Bdf h2
  obtain ⟨e1,e2,e3⟩:=Cm0 n d k1 k2 k3 k4
  refine Bb4 (fun h4=>?_) (fun h4=>?_)
  ·simp at h4
   refine Ban ?_
   rw [e1,e2,e3,h4.1,h4.2]
  ·refine Ban ?_
   rw [e1,e2,e3]
 ·rw [Bti,h1,h2] at h3;simp at h3
abbrev C3h:PureT:=Bbc [cI,cI] [.st [cI,cI],cI] (fun x=>true) (fun x=>((DvW x.1 x.2.1,DvR x.1 x.2.1,()),DvE x.1 x.2.1,()))
theorem Cmd:Bai Tryz.prog 38 C3h:=Bbd (Bap Bao D5e (fns_cons is_Divide No)) 2 (fun x=>D0x x.1 x.2.1) (fun x=>by kernel_rfl) fun x hok hw=>Ctp
end V
def tbB:ByteArray:=⟨((List.range 256).map fun i=>UInt8.ofNat (if i=0 then 0 else Nat.log2 i+1)).toArray⟩
def Ctq (i:Nat):Int:=((tbB.data.toList.getD i 0).toNat:Int)
theorem Ctr:∀ i,i<256→(tbB.data.toList.getD i 0).toNat=bl i:=by decide +kernel
theorem Cme (i:Nat) (h:i<256):Ctq i=bl i:=by unfold Ctq;rw [Ctr i h]
attribute [irreducible] Ctq tbB
def Cmf (n k:Int):Int:=n.fdiv (2 ^ min (Int.toNat k) IntKind.u64.bits)
def Cts (m s:Int):Tree (TCTs [cI]):=bif decide (0≤IntKind.u8.wrap m∧IntKind.u8.wrap m<256) then .leaf (IntKind.i64.wrap (s+IntKind.i64.wrap (Ctq (IntKind.u8.wrap m).toNat)),()) else .fail
def Ctt (m s:Int):Tree (TCTs [cI]):=bif decide (m≥256) then Cts (Cmf m 8) (IntKind.i64.wrap (s+8)) else Cts m s
def Bzh (m s:Int):Tree (TCTs [cI]):=bif decide (m≥65536) then Ctt (Cmf m 16) (IntKind.i64.wrap (s+16)) else Ctt m s
def D0y (n:Int):Tree (TCTs [cI]):=bif decide (n≥4294967296) then Bzh (Cmf n 32) 32 else Bzh n 0
section
attribute [local irreducible] Tree.sat
theorem Btp (n k:Nat) (hk:k≤64):Cmf (n:Int) (k:Int)=((n / 2 ^ k:Nat):Int):=by
 unfold Cmf
 have:min (Int.toNat (k:Int)) IntKind.u64.bits=k:=by simp [IntKind.bits];omega
 rw [this,Int.fdiv_eq_ediv_of_nonneg _ (by exact Int.le_of_lt (Int.pow_pos (by decide)))]
 simp
theorem Ce0 (m:Nat) (h:m<256):IntKind.u8.wrap (m:Int)=m:=by
 unfold IntKind.wrap;simp [IntKind.bits,IntKind.signed];omega
theorem Cb6 {R:TCTs [cI]→Prop} (m s:Nat) (hm:m<256) (hs:s≤56) (h:R (((s+bl m:Nat):Int),())):(Cts (m:Int) (s:Int)).sat R:=by
 unfold Cts
 rw [Ce0 m hm]
 have hb:bl m≤8:=Btj m 8 (by omega)
 refine Bb4 (fun _=>?_) (fun h=>?_)
 ·rw [Int.toNat_natCast,Cme m hm,Bah (n:=(bl m:Int)) (by omega) (by omega),Bah (n:=(s:Int)+(bl m:Int)) (by omega) (by omega)]
  refine Ban ?_
  rw [← Int.natCast_add];exact h
 ·have:=of_decide_eq_false h;omega
theorem Cb7 {R:TCTs [cI]→Prop} (m s:Nat) (hm:m<65536) (hs:s≤48) (h:R (((s+bl m:Nat):Int),())):(Ctt (m:Int) (s:Int)).sat R:=by
 unfold Ctt
 refine Bb4 (fun h1=>?_) (fun h1=>?_)
 ·have h2:=of_decide_eq_true h1
  rw [Bah (n:=(s:Int)+8) (by omega) (by omega)]
  have e1:=Btp m 8 (by omega)
  simp only [Int.cast_ofNat_Int] at e1
  rw [e1]
  have e2:(s:Int)+8=((s+8:Nat):Int):=by simp
  rw [e2]
  refine Cb6 (m / 2 ^ 8) (s+8) (by omega) (by omega) ?_
  have:=C78 m 8 (by omega)
  rwa [show s+8+bl (m / 2 ^ 8)=s+bl m by omega]
 ·have h2:=of_decide_eq_false h1
  exact Cb6 m s (by omega) (by omega) h
theorem Cb8 {R:TCTs [cI]→Prop} (m s:Nat) (hm:m<4294967296) (hs:s≤32) (h:R (((s+bl m:Nat):Int),())):(Bzh (m:Int) (s:Int)).sat R:=by
 unfold Bzh
 refine Bb4 (fun h1=>?_) (fun h1=>?_)
 ·have h2:=of_decide_eq_true h1
  rw [Bah (n:=(s:Int)+16) (by omega) (by omega)]
  have e1:=Btp m 16 (by omega)
  simp only [Int.cast_ofNat_Int] at e1
  rw [e1]
  have e2:(s:Int)+16=((s+16:Nat):Int):=by simp
  rw [e2]
  refine Cb7 (m / 2 ^ 16) (s+16) (by omega) (by omega) ?_
  have:=C78 m 16 (by omega)
  rwa [show s+16+bl (m / 2 ^ 16)=s+bl m by omega]
 ·have h2:=of_decide_eq_false h1
  exact Cb7 m s (by omega) (by omega) h
theorem Ctu {R:TCTs [cI]→Prop} (n:Int) (h0:0≤n) (h1:n≤18446744073709551615) (h:R ((bl n.toNat:Int),())):(D0y n).sat R:=by
 obtain ⟨m,rfl⟩:=Int.eq_ofNat_of_zero_le h0
 rw [Int.toNat_natCast] at h
 unfold D0y
 refine Bb4 (fun h1=>?_) (fun h1=>?_)
 ·have h2:=of_decide_eq_true h1
  have e1:=Btp m 32 (by omega)
  simp only [Int.cast_ofNat_Int] at e1
  rw [e1]
  refine Cb8 (m / 2 ^ 32) 32 (by omega) (by omega) ?_
  have:=C78 m 32 (by omega)
  rwa [show 32+bl (m / 2 ^ 32)=bl m by omega]
 ·have h2:=of_decide_eq_false h1
  exact Cb8 m 0 (by omega) (by omega) (by rwa [Nat.zero_add])
end
abbrev Bzi:PureT:=Bbc [.i .u64] [cI] (fun _=>true) (fun x=>((bl x.1.toNat:Int),()))
theorem Cmg:Bai Tryz.prog 110 Bzi:=Bbd (Bap Bao puOk_nil (fns_cons is_Len64 No)) 2 (fun x=>D0y x.1) (fun x=>by kernel_rfl) fun x _ hw=>Ctu x.1 hw.1.1 hw.1.2 rfl
theorem Ce1:Bc5 Tryz.prog [(110,Bzi)]:=puOk_cons is_Len64.plain Cmg puOk_nil
noncomputable def Cb9:Code:=(Bal (bodyOf Tryz.f67)).getD 0 .skip
def Bkq:Lay:={ keys:=[0,3],ks:=[.d cI,.d cI],bs:=[],n:=25,nx:=1000,marks:=[] }
def Ctv:Lay:={ keys:=[2],ks:=[.d cI],bs:=[],n:=25,nx:=1000,marks:=[] }
def Bn0:XE→Lay:=fun _=>Ctv
def Blp (n x:Int):Bkq.T:=((n,x,()),())
def Bzj (r:Int):V1 Bn0:=⟨.ret,((r,()),())⟩
def Brt (n x:Int):Int:=IntKind.i64.wrap ((IntKind.i64.wrap (x+IntKind.i64.wrap (n.tdiv x))).tdiv 2)
def Btq (n x:Int):Tree (Bkq.T⊕V1 Bn0):=bif x != 0 then bif decide (Brt n x≥x) then .leaf (.inr (Bzj x)) else .leaf (.inl (Blp n (Brt n x))) else .fail
def Blq (g:Bkq.T):Tree (Bkq.T⊕V1 Bn0):=Btq g.1.1 g.1.2.1
def Bzk (g:Bkq.T):Nat:=Int.toNat g.1.2.1+1
theorem D0z:Bb0 Tryz.prog 67 Cb9 (Baw Bkq Bn0 (Bd4 [.ret] Blq Bzk)):=Bbi (Bap Bao puOk_nil No) 1 _ Bkq Bn0 (fun _=>Nat.le_refl _) [.ret] Blq Bzk (fun g=>by kernel_rfl)
theorem Cba {n:Int} (h1:2≤n) (h2:n≤4611686018427387904):∀ (k:Nat) (x:Int),1≤x→x≤4294967296→rt n≤x→x.toNat≤k→iter Blq (k+1) (Blp n x)=some (Bzj (rt n))
 | 0,x,h3,_,_,hk=>by omega
 | k+1,x,h3,h4,h5,hk=>by
  have hq:=Int.ediv_nonneg (show 0≤n by omega) (show 0≤x by omega)
  have hq2:=Int.ediv_le_self x (show 0≤n by omega)
  have e1:Brt n x=(x+n / x) / 2:=by
   unfold Brt
   rw [Int.tdiv_eq_ediv_of_nonneg (show 0≤n by omega),Bah (n:=n / x) (by omega) (by omega),Bah (n:=x+n / x) (by omega) (by omega),Int.tdiv_eq_ediv_of_nonneg (by omega),Bah (by omega) (by omega)]
  have hge:=Cdr n x (by omega) h3
  have hx0:(x != 0)=true:=by simp;omega
  have hs:Blq (Blp n x)=bif decide ((x+n / x) / 2≥x) then .leaf (.inr (Bzj x)) else .leaf (.inl (Blp n ((x+n / x) / 2))):=by
   show Btq n x=_
   unfold Btq
   rw [hx0,e1]
   rfl
  cases hd:decide ((x+n / x) / 2≥x) with
  | true =>
   have h7:=of_decide_eq_true hd
   have hx:=C79 n x (by omega) h3 h5 (by omega)
   rw [← hx]
   exact Bgj (by rw [hs,hd];rfl)
  | false =>
   have h7:=of_decide_eq_false hd
   have hr:=(Bg5 n (by omega)).1
   have hpos:1≤(x+n / x) / 2:=by
    have:1≤rt n:=by
     have hc:=(Bg5 n (by omega)).2.2
     rcases Int.lt_or_le (rt n) 1 with k | k
     ·have:rt n=0:=by omega
      rw [this] at hc;omega
     ·exact k
    omega
   rw [Bs1 (g':=Blp n ((x+n / x) / 2)) (by rw [hs,hd];rfl)]
   exact Cba h1 h2 k _ hpos (by omega) hge (by omega)
theorem Cmh (n:Int) (h0:0≤n) (h:n<2):rt n=n:=Cdq n n h0 (by rcases (show n=0∨n=1 by omega) with rfl | rfl <;> decide) (by rcases (show n=0∨n=1 by omega) with rfl | rfl <;> decide)
def Ce2 (n:Int):Bool:=decide (0≤n∧n≤4611686018427387904)
def RtV (n:Int):Int:=if Ce2 n then rt n else 0
def RtE (n:Int):Int:=if Ce2 n then 0 else 3
abbrev C7f:PureT:=Bbc [cI] [cI] (fun x=>decide (0≤x.1∧x.1≤4611686018427387904)) (fun x=>(rt x.1,()))
noncomputable def D10:Ctx:=Bgo Tryz.prog [(110,Bzi)] [(67,Tryz.f67)] [((67,V.keyOf Cb9),Baw Bkq Bn0 (Bd4 [.ret] Blq Bzk))]
theorem Ce3:CtxOk D10:=Bc8 Bao Ce1 (fns_cons is_root No) (Bbt rfl (by kernel_rfl) D0z)
def Bzl (n:Int):Int:=IntKind.i64.wrap (1*2 ^ min (IntKind.i64.wrap ((IntKind.i64.wrap ((bl (IntKind.u64.wrap n).toNat:Int)+1)).tdiv 2)).toNat IntKind.i64.bits)
def C7g (n:Int):Option (V1 Bn0):=iter Blq (Int.toNat (Bzl n)+1) (Blp n (Bzl n))
def C7h (n:Int):Tree (TCTs [cI]):=bif decide (n<2) then .leaf (n,()) else bif decide (0≤IntKind.i64.wrap ((IntKind.i64.wrap ((bl (IntKind.u64.wrap n).toNat:Int)+1)).tdiv 2)) then bif isE .ret (C7g n) then .leaf ((Bca .ret (C7g n)).1.1,()) else .fail else .fail
theorem Ce4 {n:Int} (h0:0≤n) (h1:n≤4611686018427387904):(C7h n).sat (fun y=>y=(rt n,())):=by
 unfold C7h C7g Bzl
 have hwr:IntKind.u64.wrap n=n:=by unfold IntKind.wrap;simp [IntKind.bits,IntKind.signed];omega
 have hb:bl n.toNat≤63:=Btj _ 63 (by omega)
 rw [hwr,Bah (n:=(bl n.toNat:Int)+1) (by omega) (by omega),Int.tdiv_eq_ediv_of_nonneg (by omega),Bah (n:=((bl n.toNat:Int)+1) / 2) (by omega) (by omega)]
 refine Bb4 (fun h2=>?_) (fun h2=>Bb4 (fun h3=>?_) (fun h3=>?_))
 ·have:=of_decide_eq_true h2
  refine Ban ?_
  rw [Cmh n h0 this]
 ·have h5:=of_decide_eq_false h2
  have e2:min (((bl n.toNat:Int)+1) / 2).toNat IntKind.i64.bits=(bl n.toNat+1) / 2:=by simp [IntKind.bits];omega
  rw [e2,Int.one_mul]
  have hs:=Bzd n h0
  have hk:(bl n.toNat+1) / 2≤32:=by omega
  have hp1:(1:Int)≤2 ^ ((bl n.toNat+1) / 2):=Int.pow_pos (by decide)
  have hp2:(2:Int) ^ ((bl n.toNat+1) / 2)≤4294967296:=by
   have:2 ^ ((bl n.toNat+1) / 2)≤2 ^ 32:=Nat.pow_le_pow_right (by decide) hk
   have h6:((2 ^ ((bl n.toNat+1) / 2):Nat):Int)≤((2 ^ 32:Nat):Int):=by exact_mod_cast this
   rw [Int.natCast_pow] at h6
   simpa using h6
  generalize (2:Int) ^ ((bl n.toNat+1) / 2)=y at hs hp1 hp2
  rw [Bah (by omega) (by omega)]
  have hr:=Cwo n y h0 (by omega) hs
  rw [Cba (by omega) h1 y.toNat y hp1 hp2 hr (Nat.le_refl _)]
  exact Ban rfl
 ·have:=of_decide_eq_false h3;omega
theorem Cbb:Bai Tryz.prog 67 C7f:=Bbd Ce3 3 (fun x=>C7h x.1) (fun x=>by kernel_rfl) fun x hok _=>Ce4 (of_decide_eq_true hok).1 (of_decide_eq_true hok).2
theorem Cmi:Bc5 Tryz.prog [(67,C7f),(66,Bh6)]:=puOk_cons is_root.plain Cbb D5d
namespace V
def C7i (n:Int):Tree (TCTs [cI,cI]) :=
 bif Bb6 n 0 4611686018427387904 then .leaf (0,3,()) else bif decide (0≤n∧n≤4611686018427387904) then .leaf ((rt n),0,()) else .fail
theorem Ce5 {n:Int}:(C7i n).sat (fun y=>y=(RtV n,RtE n,())):=by
 unfold C7i
 refine Bb4 (fun h1=>?_) (fun h1=>Bb4 (fun h2=>?_) (fun h2=>?_))
 ·have:Ce2 n=false:=by
   unfold Bb6 at h1;unfold Ce2
   simp at h1
   exact decide_eq_false (by omega)
  refine Ban ?_
  unfold RtV RtE;rw [this];rfl
 ·have:Ce2 n=true:=h2
  refine Ban ?_
  unfold RtV RtE;rw [this];rfl
 ·have:=Bdf h1
  have:=of_decide_eq_false h2;omega
abbrev Cmj:PureT:=Bbc [cI] [cI,cI] (fun x=>true) (fun x=>(RtV x.1,RtE x.1,()))
theorem D11:Bai Tryz.prog 61 Cmj:=Bbd (Bap Bao Cmi (fns_cons is_Root No)) 2 (fun x=>C7i x.1) (fun x=>by kernel_rfl) fun x hok hw=>Ce5
end V
theorem Bxb {x lo hi:Int} (h:Bb6 x lo hi=false):lo≤x∧x≤hi:=by
 unfold Bb6 at h
 simp only [Bool.or_eq_false_iff,decide_eq_false_iff_not] at h
 omega
def Bpq (x y:Int):Bool:=decide (max (max (max x (IntKind.i64.wrap (0-x))) y) (IntKind.i64.wrap (0-y))>4194304)
def Bpr (x y:Int):Bool:=decide (min x y < -4194304)
def fpt (x y:Int):Bool:=decide (-4194304≤x∧x≤4194304 ∧ -4194304≤y∧y≤4194304)
theorem C3i (x:Int) (h1 : -9223372036854775808≤x) (h2:x≤9223372036854775807):IntKind.i64.wrap (0-x)=if x = -9223372036854775808 then x else -x:=by
 split
 ·rename_i h;subst h;rfl
 ·rw [Bah (by omega) (by omega)];omega
theorem Cmk {x y:Int} (hx:inK .i64 x) (hy:inK .i64 y) (h:Bpq x y=true):fpt x y=false:=by
 simp only [inK,Bgd,Bb2] at hx hy
 unfold Bpq at h;unfold fpt
 have h1:=of_decide_eq_true h
 rw [C3i x (by omega) (by omega),C3i y (by omega) (by omega)] at h1
 refine decide_eq_false ?_
 split at h1 <;> split at h1 <;> omega
theorem Cml {x y:Int} (h:Bpr x y=true):fpt x y=false:=by
 unfold Bpr at h;unfold fpt
 have h1:=of_decide_eq_true h
 refine decide_eq_false ?_
 omega
theorem D12 {x y:Int} (h:Bpq x y=false) (k:Bpr x y=false):fpt x y=true:=by
 unfold Bpq at h;unfold Bpr at k;unfold fpt
 have h1:=of_decide_eq_false h
 have k1:=of_decide_eq_false k
 refine decide_eq_true ?_
 omega
theorem Bfs {x y:Int} (h:fpt x y=true) : -4194304≤x∧x≤4194304 ∧ -4194304≤y∧y≤4194304:=of_decide_eq_true h
theorem Bg6 {α:Type} {R:α→Prop} {x y:Int} {t u:Tree α} (hx:inK .i64 x) (hy:inK .i64 y) (h1:fpt x y=false→t.sat R) (h2:fpt x y=true→u.sat R):(bif Bpq x y then t else bif Bpr x y then t else u).sat R :=
 Bb4 (fun h=>h1 (Cmk hx hy h)) (fun h=>Bb4 (fun k=>h1 (Cml k)) (fun k=>h2 (D12 h k)))
def Bf8 (x y:Int):Int:=bif fpt x y then 0 else 2
def Bil (x y r:Int):Bool:=fpt x y&&!Bb6 r 1 65536
def Btr (x y r:Int):Int:=bif Bil x y r then 0 else 2
namespace V
def Cmm (ax ay:Int):Tree (TCTs [cI]) :=
 bif Bpq ax ay then .leaf (2,()) else bif Bpr ax ay then .leaf (2,()) else .leaf (0,())
theorem Cmn {ax ay:Int} (a1:inK .i64 ax) (a2:inK .i64 ay):(Cmm ax ay).sat (fun y=>y=(Bf8 ax ay,())):=by
 unfold Cmm
 refine Bg6 a1 a2 (fun k=>?_) (fun k=>?_) <;> (refine Ban ?_;unfold Bf8;rw [k];rfl)
abbrev Bi0:PureT:=Bbc [cPt] [cI] (fun x=>true) (fun x=>(Bf8 x.1.1 x.1.2.1,()))
theorem Bji:Bai Tryz.prog 43 Bi0:=Bbd (Bap Bao puOk_nil (fns_cons Bhh (fns_cons is_fits No))) 3 (fun x=>Cmm x.1.1 x.1.2.1) (fun x=>by kernel_rfl) fun x hok hw=>Cmn hw.1.1 hw.1.2.1
def Cmo (px py r:Int):Tree (TCTs [cI]) :=
 bif Bpq px py then .leaf (2,()) else bif Bpr px py then .leaf (2,()) else
    bif decide (r<1) then .leaf (2,()) else bif decide (r>65536) then .leaf (2,()) else .leaf (0,())
theorem Cmp {px py r:Int} (a1:inK .i64 px) (a2:inK .i64 py):(Cmo px py r).sat (fun y=>y=(Btr px py r,())):=by
 unfold Cmo
 refine Bg6 a1 a2 (fun k=>?_) (fun k1=>Bb4 (fun k=>?_) (fun k2=>Bb4 (fun k=>?_) (fun k3=>?_)))
 ·refine Ban ?_
  unfold Btr Bil;rw [k];rfl
 ·refine Ban ?_
  unfold Btr Bil Bb6;rw [k1,k];rfl
 ·have k':decide (65536<r)=true:=k
  refine Ban ?_
  unfold Btr Bil Bb6;rw [k1,k2,k'];rfl
 ·have k':decide (65536<r)=false:=k3
  refine Ban ?_
  unfold Btr Bil Bb6;rw [k1,k2,k'];rfl
abbrev Bqo:PureT:=Bbc [Bag] [cI] (fun x=>true) (fun x=>(Btr x.1.1.1 x.1.1.2.1 x.1.2.1,()))
theorem Bqp:Bai Tryz.prog 155 Bqo:=Bbd (Bap Bao puOk_nil (fns_cons is_CheckDisc (fns_cons is_fits No))) 3 (fun x=>Cmo x.1.1.1 x.1.1.2.1 x.1.2.1) (fun x=>by kernel_rfl) fun x hok hw=>Cmp hw.1.1.1 hw.1.1.2.1
end V
def Cmq (ax ay bx bY:Int):Tree (TCTs [cI]) :=
 .leaf ((IntKind.i64.wrap (IntKind.i64.wrap (IntKind.i64.wrap (bx-ax)*IntKind.i64.wrap (bx-ax))+IntKind.i64.wrap (IntKind.i64.wrap (bY-ay)*IntKind.i64.wrap (bY-ay)))),())
theorem Cmr {ax ay bx bY:Int} (hok:(fpt ax ay&&fpt bx bY)=true):(Cmq ax ay bx bY).sat (fun y=>y=(sq ax ay bx bY,())):=by
 unfold Cmq
 rw [Bool.and_eq_true] at hok
 have c1:=Bfs hok.1
 have c2:=Bfs hok.2
 have b1:=Bc4 (a:=bx-ax) (b:=bx-ax) (A:=8388608) (B:=8388608) (by omega) (by omega) (by omega) (by omega)
 have b2:=Bc4 (a:=bY-ay) (b:=bY-ay) (A:=8388608) (B:=8388608) (by omega) (by omega) (by omega) (by omega)
 rw [Bah (n:=bx-ax) (by omega) (by omega),Bah (n:=bY-ay) (by omega) (by omega),Bah (n:=(bx-ax)*(bx-ax)) (by omega) (by omega),Bah (n:=(bY-ay)*(bY-ay)) (by omega) (by omega),Bah (n:=(bx-ax)*(bx-ax)+(bY-ay)*(bY-ay)) (by omega) (by omega)]
 refine Ban ?_
 unfold sq;rfl
abbrev Bts:PureT:=Bbc [cPt,cPt] [cI] (fun x=>fpt x.1.1 x.1.2.1&&fpt x.2.1.1 x.2.1.2.1) (fun x=>(sq x.1.1 x.1.2.1 x.2.1.1 x.2.1.2.1,()))
theorem Bxc:Bai Tryz.prog 68 Bts:=Bbd (Bap Bao puOk_nil (fns_cons is_square No)) 2 (fun x=>Cmq x.1.1 x.1.2.1 x.2.1.1 x.2.1.2.1) (fun x=>by kernel_rfl) fun x hok hw=>Cmr hok
def D13:List (Nat×PureT):=[(68,Bts),(67,C7f),(69,Bto),(66,Bh6)]
theorem Cms:Bc5 Tryz.prog D13:=puOk_cons is_square.plain Bxc (puOk_cons is_root.plain Cbb D5e)
def SqR (ax ay bx bY:Int):Int×Int:=bif fpt ax ay&&fpt bx bY then (sq ax ay bx bY,0) else (0,2)
namespace V
def Cmt (ax ay bx bY:Int):Tree (TCTs [cI,cI]) :=
 bif Bpq ax ay then .leaf (0,2,()) else bif Bpr ax ay then .leaf (0,2,()) else
    bif Bpq bx bY then .leaf (0,2,()) else bif Bpr bx bY then .leaf (0,2,()) else
    bif fpt ax ay&&fpt bx bY then .leaf ((sq ax ay bx bY),0,()) else .fail
theorem Cmu {ax ay bx bY:Int} (a1:inK .i64 ax) (a2:inK .i64 ay) (a3:inK .i64 bx) (a4:inK .i64 bY):(Cmt ax ay bx bY).sat (fun y=>y=((SqR ax ay bx bY).1,(SqR ax ay bx bY).2,())):=by
 unfold Cmt
 refine Bg6 a1 a2 (fun k=>?_) (fun k1=>Bg6 a3 a4 (fun k=>?_) (fun k2=>?_))
 ·refine Ban ?_
  unfold SqR;rw [k];rfl
 ·refine Ban ?_
  unfold SqR;rw [k1,k];rfl
 ·rw [k1,k2]
  refine Ban ?_
  unfold SqR;rw [k1,k2];rfl
abbrev Cmv:PureT:=Bbc [cPt,cPt] [cI,cI] (fun x=>true) (fun x=>((SqR x.1.1 x.1.2.1 x.2.1.1 x.2.1.2.1).1,(SqR x.1.1 x.1.2.1 x.2.1.1 x.2.1.2.1).2,()))
theorem Cmw:Bai Tryz.prog 167 Cmv:=Bbd (Bap Bao Cms (fns_cons is_Square (fns_cons is_fits No))) 3 (fun x=>Cmt x.1.1 x.1.2.1 x.2.1.1 x.2.1.2.1) (fun x=>by kernel_rfl) fun x hok hw=>Cmu hw.1.1 hw.1.2.1 hw.2.1.1 hw.2.1.2.1
end V
def ToX (px qx d l:Int):Int:=qx+DW (64*l*(px-qx)) d
def dTo (px py qx qy:Int):Int:=rt (sq px py qx qy*4096)
def TwR (px py qx qy l:Int):(Int×Int)×Int :=
 bif fpt px py&&fpt qx qy then bif Bb6 l 0 4194304 then ((0,0),3) else bif px==qx&&py==qy then ((0,0),9) else
  bif fpt (ToX px qx (dTo px py qx qy) l) (ToX py qy (dTo px py qx qy) l) then ((ToX px qx (dTo px py qx qy) l,ToX py qy (dTo px py qx qy) l),0) else ((0,0),4)
 else ((0,0),2)
theorem Cbc {px py qx qy:Int} (h:fpt px py=true) (k:fpt qx qy=true):0≤sq px py qx qy∧sq px py qx qy≤140737488355328:=by
 have c1:=Bfs h
 have c2:=Bfs k
 have b1:=Bc4 (a:=qx-px) (b:=qx-px) (A:=8388608) (B:=8388608) (by omega) (by omega) (by omega) (by omega)
 have b2:=Bc4 (a:=qy-py) (b:=qy-py) (A:=8388608) (B:=8388608) (by omega) (by omega) (by omega) (by omega)
 have b3:=Bh0 (qx-px)
 have b4:=Bh0 (qy-py)
 unfold sq;omega
theorem Cmx {px py qx qy:Int} (h:fpt px py=true) (k:fpt qx qy=true) (hne:¬ (px=qx∧py=qy)):1≤dTo px py qx qy∧dTo px py qx qy≤576460752303423488:=by
 have h1:=Cbc h k
 have h2:=D0n hne
 obtain ⟨r1,r2,r3⟩:=Bg5 (sq px py qx qy*4096) (by omega)
 unfold dTo
 generalize rt (sq px py qx qy*4096)=d at r1 r2 r3
 have hd:1≤d:=by
  rcases Int.lt_or_le d 1 with x | x
  ·have:d=0:=by omega
   subst this
   omega
  ·exact x
 have:=Int.mul_le_mul_of_nonneg_left hd (show 0≤d by omega)
 omega
namespace V
def D14 (px py qx qy l:Int):Tree (TCTs [cPt,cI]) :=
 let d:=rt (IntKind.i64.wrap (sq px py qx qy*4096))
    let ux:=IntKind.i64.wrap (IntKind.i64.wrap (64*l)*IntKind.i64.wrap (px-qx))
    let uy:=IntKind.i64.wrap (IntKind.i64.wrap (64*l)*IntKind.i64.wrap (py-qy))
    bif Bpq px py then .leaf ((0,0,()),2,()) else bif Bpr px py then .leaf ((0,0,()),2,()) else
    bif Bpq qx qy then .leaf ((0,0,()),2,()) else bif Bpr qx qy then .leaf ((0,0,()),2,()) else
    bif Bb6 l 0 4194304 then .leaf ((0,0,()),3,()) else
    bif px==qx&&(py==qy&&true) then .leaf ((0,0,()),9,()) else
    bif fpt px py&&fpt qx qy then bif decide (0≤IntKind.i64.wrap (sq px py qx qy*4096)∧IntKind.i64.wrap (sq px py qx qy*4096)≤4611686018427387904) then
    bif Bik ux d then bif Bik uy d then
    bif Bpq (IntKind.i64.wrap (qx+DW ux d)) (IntKind.i64.wrap (qy+DW uy d)) then .leaf ((0,0,()),4,()) else bif Bpr (IntKind.i64.wrap (qx+DW ux d)) (IntKind.i64.wrap (qy+DW uy d)) then .leaf ((0,0,()),4,()) else
     .leaf (((IntKind.i64.wrap (qx+DW ux d)),(IntKind.i64.wrap (qy+DW uy d)),()),0,())
    else .fail else .fail else .fail else .fail
theorem Ctw {px py qx qy l:Int} (a1:inK .i64 px) (a2:inK .i64 py) (a3:inK .i64 qx) (a4:inK .i64 qy):(D14 px py qx qy l).sat (fun y=>y=(((TwR px py qx qy l).1.1,(TwR px py qx qy l).1.2,()),(TwR px py qx qy l).2,())):=by
 unfold D14
 dsimp only
 refine Bg6 a1 a2 (fun k=>?_) (fun k1=>Bg6 a3 a4 (fun k=>?_) (fun k2=>Bb4 (fun k=>?_) (fun k3=>Bb4 (fun k=>?_) (fun k4=>?_))))
 ·refine Ban ?_
  unfold TwR;rw [k];rfl
 ·refine Ban ?_
  unfold TwR;rw [k1,k];rfl
 ·refine Ban ?_
  unfold TwR;rw [k1,k2,k];rfl
 ·refine Ban ?_
  rw [Bool.and_true] at k
  unfold TwR;rw [k1,k2,k3,k];rfl
 ·have c1:=Bfs k1
  have c2:=Bfs k2
  have c3:=Bxb k3
  rw [Bool.and_true] at k4
  have hne:¬ (px=qx∧py=qy):=by
   intro hh;simp [hh.1,hh.2] at k4
  have s1:=Cbc k1 k2
  have hd:=Cmx k1 k2 hne
  have b1:=Bc4 (a:=64*l) (b:=px-qx) (A:=268435456) (B:=8388608) (by omega) (by omega) (by omega) (by omega)
  have b2:=Bc4 (a:=64*l) (b:=py-qy) (A:=268435456) (B:=8388608) (by omega) (by omega) (by omega) (by omega)
  rw [Bah (n:=sq px py qx qy*4096) (by omega) (by omega),Bah (n:=64*l) (by omega) (by omega),Bah (n:=px-qx) (by omega) (by omega),Bah (n:=py-qy) (by omega) (by omega),Bah (n:=64*l*(px-qx)) (by omega) (by omega),Bah (n:=64*l*(py-qy)) (by omega) (by omega)]
  have hdd:rt (sq px py qx qy*4096)=dTo px py qx qy:=rfl
  rw [hdd]
  have w1:=Cb1 (64*l*(px-qx)) (dTo px py qx qy) 2251799813685248 hd.1 (by omega) (by omega) (by omega)
  have w2:=Cb1 (64*l*(py-qy)) (dTo px py qx qy) 2251799813685248 hd.1 (by omega) (by omega) (by omega)
  rw [Bah (n:=qx+DW (64*l*(px-qx)) (dTo px py qx qy)) (by omega) (by omega),Bah (n:=qy+DW (64*l*(py-qy)) (dTo px py qx qy)) (by omega) (by omega)]
  have v1:Bik (64*l*(px-qx)) (dTo px py qx qy)=true:=by unfold Bik;exact decide_eq_true (by omega)
  have v2:Bik (64*l*(py-qy)) (dTo px py qx qy)=true:=by unfold Bik;exact decide_eq_true (by omega)
  rw [k1,k2,v1,v2]
  have v3:decide (0≤sq px py qx qy*4096∧sq px py qx qy*4096≤4611686018427387904)=true:=decide_eq_true (by omega)
  rw [v3]
  have hT:TwR px py qx qy l=bif fpt (ToX px qx (dTo px py qx qy) l) (ToX py qy (dTo px py qx qy) l) then ((ToX px qx (dTo px py qx qy) l,ToX py qy (dTo px py qx qy) l),0) else ((0,0),4):=by
   unfold TwR;rw [k1,k2,k3,k4];rfl
  rw [hT]
  simp only [cond_true,Bool.and_self]
  refine Bg6 ?_ ?_ (fun k=>?_) (fun k=>?_)
  ·simp only [inK,Bgd,Bb2];omega
  ·simp only [inK,Bgd,Bb2];omega
  ·have k':fpt (ToX px qx (dTo px py qx qy) l) (ToX py qy (dTo px py qx qy) l)=false:=k
   rw [k'];exact Ban rfl
  ·have k':fpt (ToX px qx (dTo px py qx qy) l) (ToX py qy (dTo px py qx qy) l)=true:=k
   rw [k'];exact Ban rfl
abbrev C7j:PureT:=Bbc [cPt,cPt,cI] [cPt,cI] (fun x=>true) (fun x=>(((TwR x.1.1 x.1.2.1 x.2.1.1 x.2.1.2.1 x.2.2.1).1.1,(TwR x.1.1 x.1.2.1 x.2.1.1 x.2.1.2.1 x.2.2.1).1.2,()),(TwR x.1.1 x.1.2.1 x.2.1.1 x.2.1.2.1 x.2.2.1).2,()))
theorem C7k:Bai Tryz.prog 23 C7j:=Bbd (Bap Bao Cms (fns_cons is_Towards (fns_cons is_fits No))) 3 (fun x=>D14 x.1.1 x.1.2.1 x.2.1.1 x.2.1.2.1 x.2.2.1) (fun x=>by kernel_rfl) fun x hok hw=>Ctw hw.1.1 hw.1.2.1 hw.2.1.1 hw.2.1.2.1
end V
def D15 (a b c:Int):Tree (TCTs [.b]) :=
 bif decide (a≥b) then .leaf ((decide (a≤c)),()) else .leaf (false,())
theorem Cty {a b c:Int}:(D15 a b c).sat (fun y=>y=(!Bb6 a b c,())):=by
 unfold D15
 refine Bb4 (fun h1=>?_) (fun h1=>?_)
 ·have h2:=of_decide_eq_true h1
  refine Ban ?_
  congr 1
  unfold Bb6
  rw [Bool.eq_iff_iff]
  simp only [decide_eq_true_eq,Bool.not_eq_true',Bool.or_eq_false_iff,decide_eq_false_iff_not]
  omega
 ·have h2:=of_decide_eq_false h1
  refine Ban ?_
  congr 1
  have:Bb6 a b c=true:=by unfold Bb6;simp;omega
  rw [this];rfl
abbrev Cbd:PureT:=Bbc [cI,cI,cI] [.b] (fun x=>true) (fun x=>(!Bb6 x.1 x.2.1 x.2.2.1,()))
theorem Ctz (x y:Int):fpt x y=(!Bb6 x (-4194304) 4194304&&!Bb6 y (-4194304) 4194304):=by
 unfold fpt Bb6
 rw [Bool.eq_iff_iff]
 simp only [decide_eq_true_eq,Bool.and_eq_true,Bool.not_eq_true',Bool.or_eq_false_iff,decide_eq_false_iff_not]
 omega
namespace V
def D18 (x y:Int):Tree (TCTs [.b]) :=
 bif !Bb6 x (-4194304) 4194304 then .leaf ((!Bb6 y (-4194304) 4194304),()) else .leaf (false,())
theorem Cu0 {x y:Int}:(D18 x y).sat (fun z=>z=(fpt x y,())):=by
 unfold D18
 rw [Ctz]
 refine Bb4 (fun h1=>?_) (fun h1=>?_) <;> (refine Ban ?_;rw [h1];rfl)
abbrev Cbe:PureT:=Bbc [cPt] [.b] (fun x=>true) (fun x=>(fpt x.1.1 x.1.2.1,()))
end V
namespace V
end V
namespace V
end V
end Go.Proofs.YtcfanlgpkefogaaGreat
